/- Plain rules for rounds over a list (no program in sight; no condition beyond those stated). -/
import Derived.Test.YtfkakbipedafiaaDoorEngP
namespace Go.Eng
open Go
set_option linter.unusedSectionVars false
set_option linter.unusedVariables false
set_option linter.unusedSimpArgs false

/-- the first that stops a walk over a list -/
def first {α R : Type} (p : Nat → α → Option R) : Nat → List α → Option R
  | _, [] => none
  | i, a :: l => match p i a with
    | some r => some r
    | none => first p (i + 1) l
/-- a walk over a list, with a state -/
def runs {α σ R : Type} (p : Nat → σ → α → R ⊕ σ) : Nat → σ → List α → R ⊕ σ
  | _, s, [] => .inr s
  | i, s, a :: l => match p i s a with
    | .inl r => .inl r
    | .inr s' => runs p (i + 1) s' l
def allI {α : Type} (q : Nat → α → Bool) : Nat → List α → Bool
  | _, [] => true
  | i, a :: l => q i a && allI q (i + 1) l
theorem allI_const {α : Type} (q : α → Bool) : ∀ (i : Nat) (l : List α), allI (fun _ a => q a) i l = l.all q
  | _, [] => rfl
  | i, a :: l => by rw [allI, allI_const q (i + 1) l]; rfl
theorem allI_and {α : Type} (q q' : Nat → α → Bool) : ∀ (i : Nat) (l : List α), allI (fun i a => q i a && q' i a) i l = (allI q i l && allI q' i l)
  | _, [] => rfl
  | i, a :: l => by rw [allI, allI, allI, allI_and q q' (i + 1) l]; cases q i a <;> cases q' i a <;> simp
theorem allI_congr {α : Type} {q q' : Nat → α → Bool} : ∀ (i : Nat) (l : List α), (∀ j a, l[j]? = some a → q (i + j) a = q' (i + j) a) → allI q i l = allI q' i l
  | _, [], _ => rfl
  | i, a :: l, h => by
    have h1 : allI q (i + 1) l = allI q' (i + 1) l := allI_congr (i + 1) l (fun j b hb => by
      have h2 := h (j + 1) b (by simpa using hb)
      have e : i + (j + 1) = i + 1 + j := by omega
      rw [e] at h2
      exact h2)
    have h3 := h 0 a rfl
    rw [Nat.add_zero] at h3
    simp only [allI, h1, h3]

def outOf {R σ A : Type} (fin : σ → A) : R ⊕ σ → Out R A
  | .inl r => .ret r
  | .inr s => .go (fin s)
def stpOf {R σ S A : Type} (mk : σ → S) : R ⊕ σ → Stp S R A
  | .inl r => .ret r
  | .inr s => .next (mk s)
theorem loop_st {α σ S R A : Type} {l : List α} {f : S → Option (Stp S R A)} (mk : σ → Int → S) (fin : σ → A) (p : Nat → σ → α → R ⊕ σ) (Inv : Nat → σ → Prop) (hl : l.length < 4611686018427387904)
    (hin : ∀ (i : Nat) (s : σ) (a : α), Inv i s → l[i]? = some a → (f (mk s (i : Int)) = some (stpOf (fun s' => mk s' ((i + 1 : Nat) : Int)) (p i s a))) ∧ ∀ s', p i s a = .inr s' → Inv (i + 1) s')
    (hout : ∀ s, Inv l.length s → f (mk s (l.length : Int)) = some (.go (fin s))) {s : σ} (h0 : Inv 0 s) :
    iter f FUEL (mk s 0) = some (outOf fin (runs p 0 s l)) := by
  have key : ∀ (k i n : Nat) (s : σ), i + k = l.length → k < n → Inv i s → iter f n (mk s (i : Int)) = some (outOf fin (runs p i s (l.drop i))) := by
    intro k
    induction k with
    | zero =>
      intro i n s hi hn hI
      obtain ⟨m, rfl⟩ : ∃ m, n = m + 1 := ⟨n - 1, by omega⟩
      have : i = l.length := by omega
      subst this
      rw [iter_succ, hout s hI, List.drop_length]; rfl
    | succ k ih =>
      intro i n s hi hn hI
      obtain ⟨m, rfl⟩ : ∃ m, n = m + 1 := ⟨n - 1, by omega⟩
      have hil : i < l.length := by omega
      obtain ⟨h1, h2⟩ := hin i s l[i] hI (List.getElem?_eq_getElem hil)
      rw [iter_succ, h1, List.drop_eq_getElem_cons hil, runs]
      cases hp : p i s l[i] with
      | inl r => rfl
      | inr s' => exact ih (i + 1) m s' (by omega) (by omega) (h2 s' hp)
  have := key l.length 0 FUEL s (by omega) (by unfold FUEL; omega) h0
  simpa using this

def outF {R A : Type} (a0 : A) : Option R → Out R A
  | some r => .ret r
  | none => .go a0
theorem loop_first {α R A : Type} {l : List α} {f : Int → Option (Stp Int R A)} {a0 : A} (p : Nat → α → Option R) (hl : l.length < 4611686018427387904)
    (hin : ∀ (i : Nat) (a : α), l[i]? = some a → f (i : Int) = some (match p i a with | some r => .ret r | none => .next ((i + 1 : Nat) : Int)))
    (hout : f (l.length : Int) = some (.go a0)) : iter f FUEL 0 = some (outF a0 (first p 0 l)) := by
  have key : ∀ (k i n : Nat), i + k = l.length → k < n → iter f n (i : Int) = some (outF a0 (first p i (l.drop i))) := by
    intro k
    induction k with
    | zero =>
      intro i n hi hn
      obtain ⟨m, rfl⟩ : ∃ m, n = m + 1 := ⟨n - 1, by omega⟩
      have : i = l.length := by omega
      subst this
      rw [iter_succ, hout, List.drop_length]; rfl
    | succ k ih =>
      intro i n hi hn
      obtain ⟨m, rfl⟩ : ∃ m, n = m + 1 := ⟨n - 1, by omega⟩
      have hil : i < l.length := by omega
      rw [iter_succ, hin i l[i] (List.getElem?_eq_getElem hil), List.drop_eq_getElem_cons hil, first]
      cases hp : p i l[i] with
      | some r => rfl
      | none => exact ih (i + 1) m (by omega) (by omega)
  have := key l.length 0 FUEL (by omega) (by unfold FUEL; omega)
  simpa using this
/-- a walk that asks of each element -/
theorem loop_all {α R A : Type} {l : List α} {f : Int → Option (Stp Int R A)} {a0 : A} {r0 : R} (q : Nat → α → Bool) (hl : l.length < 4611686018427387904)
    (hin : ∀ (i : Nat) (a : α), l[i]? = some a → f (i : Int) = some (if q i a then .next ((i + 1 : Nat) : Int) else .ret r0))
    (hout : f (l.length : Int) = some (.go a0)) : iter f FUEL 0 = some (if allI q 0 l then .go a0 else .ret r0) := by
  rw [loop_first (a0 := a0) (fun i a => if q i a then none else some r0) hl (fun i a h => by rw [hin i a h]; cases q i a <;> rfl) hout]
  have : ∀ (l : List α) (i : Nat), first (fun i a => if q i a then none else some r0) i l = if allI q i l then none else some r0 := by
    intro l
    induction l with
    | nil => intro i; rfl
    | cons a l ih =>
      intro i
      rw [first, allI]
      cases q i a
      · rfl
      · rw [Bool.true_and]; exact ih (i + 1)
  rw [this]
  cases allI q 0 l <;> rfl
/-- a walk that looks for a place -/
theorem loop_find {α : Type} {l : List α} {f : Int → Option (Stp Int Int Unit)} (q : α → Bool) (hl : l.length < 4611686018427387904)
    (hin : ∀ (i : Nat) (a : α), l[i]? = some a → f (i : Int) = some (if q a then .ret (i : Int) else .next ((i + 1 : Nat) : Int)))
    (hout : f (l.length : Int) = some (.go ())) : ∃ r : Int, ((iter f FUEL 0).bind fun o => match o with | .ret r => some r | .go () => some (-1)) = some r ∧ decide (r ≥ 0) = l.any q := by
  rw [loop_first (a0 := ()) (fun i a => if q a then some (i : Int) else none) hl (fun i a h => by rw [hin i a h]; cases q a <;> rfl) hout]
  have : ∀ (l : List α) (i : Nat), (first (fun i a => if q a then some ((i : Nat) : Int) else none) i l = none ∧ l.any q = false) ∨ ∃ k : Nat, first (fun i a => if q a then some ((i : Nat) : Int) else none) i l = some (k : Int) ∧ l.any q = true := by
    intro l
    induction l with
    | nil => intro i; exact .inl ⟨rfl, rfl⟩
    | cons a l ih =>
      intro i
      rw [first, List.any_cons]
      cases q a
      · rw [Bool.false_or]; exact ih (i + 1)
      · exact .inr ⟨i, rfl, rfl⟩
  rcases this l 0 with ⟨h1, h2⟩ | ⟨k, h1, h2⟩
  · exact ⟨-1, by rw [h1]; rfl, by rw [h2]; rfl⟩
  · exact ⟨k, by rw [h1]; rfl, by rw [h2]; exact decide_eq_true (by omega)⟩
end Go.Eng
