/- Rows of bytes of one sort, blanks and remarks, and beginnings of a text: what the program's and the document's functions come to (no condition but the size of a text that a machine holds). -/
import Derived.Test.YtimnlnkjogbjfaaLemA
namespace Go.Proofs.Ytimnlnkjogbjfaa.Pure
set_option linter.unusedVariables false
open Go.RowKit Go.Proofs.Ytimnlnkjogbjfaa.X Go.Proofs.YtimnlnkjogbjfaaW.PrintWords Go.Proofs.YtimnlnkjogbjfaaW.PrintLast

/-- A byte's sort. -/
def kindOf (c : Int) : Int := (token_of.f 5 c).getD 0
theorem of_fin : ∀ n : Fin 256, token_of.f 5 (n.val : Int) = some (kindOf (n.val : Int)) := by decide +kernel
theorem letter_fin : ∀ n : Fin 256, smithyref02_Letter.f (n.val : Int) = some (kindOf (n.val : Int) == 2) := by decide +kernel
theorem digit_fin : ∀ n : Fin 256, smithyref02_Digit.f (n.val : Int) = some (kindOf (n.val : Int) == 3) := by decide +kernel
theorem blank_fin : ∀ n : Fin 256, smithyref02_blank.f (n.val : Int) = some (kindOf (n.val : Int) == 1) := by decide +kernel
theorem byte_fin {P : Int → Prop} (h : ∀ n : Fin 256, P (n.val : Int)) {c : Int} (h0 : 0 ≤ c) (h1 : c ≤ 255) : P c := by
  have := h ⟨c.toNat, by omega⟩
  simpa [Int.toNat_of_nonneg h0] using this
theorem of_bt (s : ByteArray) (i : Int) : Ev (fun k => token_of.f k (bt s i)) (kindOf (bt s i)) :=
  Ev.of (fun k => token_of.mono _ k) (byte_fin (P := fun c => token_of.f 5 c = some (kindOf c)) of_fin (bt_range s i).1 (bt_range s i).2)
theorem letter_bt (s : ByteArray) (i : Int) : smithyref02_Letter.f (bt s i) = some (kindOf (bt s i) == 2) := byte_fin (P := fun c => smithyref02_Letter.f c = some (kindOf c == 2)) letter_fin (bt_range s i).1 (bt_range s i).2
theorem digit_bt (s : ByteArray) (i : Int) : smithyref02_Digit.f (bt s i) = some (kindOf (bt s i) == 3) := byte_fin (P := fun c => smithyref02_Digit.f c = some (kindOf c == 3)) digit_fin (bt_range s i).1 (bt_range s i).2
theorem blank_bt (s : ByteArray) (i : Int) : smithyref02_blank.f (bt s i) = some (kindOf (bt s i) == 1) := byte_fin (P := fun c => smithyref02_blank.f c = some (kindOf c == 1)) blank_fin (bt_range s i).1 (bt_range s i).2

/-- The place behind a row of bytes that are p. -/
def rowEnd (p : Int → Bool) (s : ByteArray) (i : Nat) : Nat := if h : i < s.size then (if p (bt s (i : Int)) then rowEnd p s (i + 1) else i) else i
termination_by s.size - i
theorem rowEnd_stop {p : Int → Bool} {s : ByteArray} {i : Nat} (h : ¬ i < s.size) : rowEnd p s i = i := by rw [rowEnd, dif_neg h]
theorem rowEnd_no {p : Int → Bool} {s : ByteArray} {i : Nat} (h : p (bt s (i : Int)) = false) : rowEnd p s i = i := by
  rw [rowEnd]; split
  · rw [if_neg (by simp [h])]
  · rfl
theorem rowEnd_yes {p : Int → Bool} {s : ByteArray} {i : Nat} (h0 : i < s.size) (h : p (bt s (i : Int)) = true) : rowEnd p s i = rowEnd p s (i + 1) := by
  conv => lhs; rw [rowEnd]
  rw [dif_pos h0, if_pos h]
theorem rowEnd_ge (p : Int → Bool) (s : ByteArray) (d : Nat) : ∀ i, s.size - i = d → i ≤ rowEnd p s i := by
  induction d with
  | zero => intro i h; rw [rowEnd_stop (by omega)]; exact Nat.le_refl _
  | succ d ih =>
    intro i h
    cases hp : p (bt s (i : Int)) with
    | false => rw [rowEnd_no hp]; exact Nat.le_refl _
    | true => rw [rowEnd_yes (by omega) hp]; have := ih (i + 1) (by omega); omega
theorem le_rowEnd (p : Int → Bool) (s : ByteArray) (i : Nat) : i ≤ rowEnd p s i := rowEnd_ge p s _ i rfl
theorem rowEnd_le (p : Int → Bool) (s : ByteArray) (d : Nat) : ∀ i, i ≤ s.size → s.size - i = d → rowEnd p s i ≤ s.size := by
  induction d with
  | zero => intro i h0 h; rw [rowEnd_stop (by omega)]; omega
  | succ d ih =>
    intro i h0 h
    cases hp : p (bt s (i : Int)) with
    | false => rw [rowEnd_no hp]; exact h0
    | true => rw [rowEnd_yes (by omega) hp]; exact ih (i + 1) (by omega) (by omega)
theorem rowEnd_size {p : Int → Bool} {s : ByteArray} {i : Nat} (h : i ≤ s.size) : rowEnd p s i ≤ s.size := rowEnd_le p s _ i h rfl
theorem rowEnd_all (p : Int → Bool) (s : ByteArray) (d : Nat) : ∀ i, s.size - i = d → ∀ j, i ≤ j → j < rowEnd p s i → p (bt s (j : Int)) = true := by
  induction d with
  | zero => intro i h j h1 h2; rw [rowEnd_stop (by omega)] at h2; omega
  | succ d ih =>
    intro i h j h1 h2
    cases hp : p (bt s (i : Int)) with
    | false => rw [rowEnd_no hp] at h2; omega
    | true =>
      rw [rowEnd_yes (by omega) hp] at h2
      rcases Nat.eq_or_lt_of_le h1 with rfl | h3
      · exact hp
      · exact ih (i + 1) (by omega) j h3 h2
theorem rowEnd_at (p : Int → Bool) (s : ByteArray) (d : Nat) : ∀ i, s.size - i = d → rowEnd p s i < s.size → p (bt s ((rowEnd p s i : Nat) : Int)) = false := by
  induction d with
  | zero => intro i h h2; rw [rowEnd_stop (by omega)] at h2; omega
  | succ d ih =>
    intro i h h2
    cases hp : p (bt s (i : Int)) with
    | false => rw [rowEnd_no hp]; exact hp
    | true => rw [rowEnd_yes (by omega) hp] at h2 ⊢; exact ih (i + 1) (by omega) h2
/-- Whoever finds a place such that all ahead are p, and it is none, has found it. -/
theorem rowEnd_eq {p : Int → Bool} {s : ByteArray} {m : Nat} (hm : m ≤ s.size) (hn : m < s.size → p (bt s (m : Int)) = false) (d : Nat) : ∀ i, m - i = d → i ≤ m → (∀ j, i ≤ j → j < m → p (bt s (j : Int)) = true) → rowEnd p s i = m := by
  induction d with
  | zero =>
    intro i h h0 ha
    obtain rfl : i = m := by omega
    by_cases h1 : i < s.size
    · exact rowEnd_no (hn h1)
    · exact rowEnd_stop h1
  | succ d ih =>
    intro i h h0 ha
    rw [rowEnd_yes (by omega) (ha i (Nat.le_refl _) (by omega))]
    exact ih (i + 1) (by omega) (by omega) (fun j h1 h2 => ha j (by omega) h2)

theorem Ev.ite_pos {α : Type} {c : Prop} [Decidable c] {g f : Nat → Option α} {r : α} (h : c) (k : Ev g r) : Ev (fun n => if c then g n else f n) r := Ev.congr (fun n => if_pos h) k
theorem Ev.ite_neg {α : Type} {c : Prop} [Decidable c] {g f : Nat → Option α} {r : α} (h : ¬ c) (k : Ev f r) : Ev (fun n => if c then g n else f n) r := Ev.congr (fun n => if_neg h) k
theorem Ev.ofSome {α : Type} {o : Option α} {r : α} (h : o = some r) : Ev (fun _ => o) r := ⟨0, fun _ _ => h⟩

/-! ### The program's row -/
theorem row_l1 (s : ByteArray) (l : List Int) (f0 : Int) (i : Nat) (bad : Int) (hi : i < s.size) (hl : l.length ≤ 1000) (r : Int × ByteArray × Int × Int)
    (hno : r = (wrap64 ((i : Int) - f0), s, (i : Int), bad)) (d : Nat) : ∀ q : Nat, l.length - q = d → q ≤ l.length → (∀ z ∈ l.drop q, kindOf (bt s (i : Int)) ≠ z) →
    Ev (fun k => token_cutter_row.l1 k l f0 l (l.length : Int) (q : Int) s (i : Int) bad) r := by
  induction d with
  | zero =>
    intro q h h0 hz
    refine Ev.step (fun k => by rw [token_cutter_row.l1]) (Ev.ite_neg (by omega) ?_)
    rw [hno]; exact Ev.now _
  | succ d ih =>
    intro q h h0 hz
    have hq : q < l.length := by omega
    have he : rd l (q : Int) = l[q] := by unfold rd; rw [Int.toNat_natCast, List.getD_eq_getElem?_getD, List.getElem?_eq_getElem hq]; rfl
    have hne : kindOf (bt s (i : Int)) ≠ rd l (q : Int) := by
      rw [he]; exact hz _ (by rw [List.drop_eq_getElem_cons hq]; exact List.mem_cons_self)
    refine Ev.step (f := fun k => (token_of.f k (bt s (i : Int))).bind fun t => if t = rd l (q : Int) then token_cutter_row.l0 k l f0 s (wrap64 ((i : Int) + 1)) bad else token_cutter_row.l1 k l f0 l (l.length : Int) (wrap64 ((q : Int) + 1)) s (i : Int) bad) (fun k => by
      rw [token_cutter_row.l1]; rw [if_pos (by omega), if_pos (by omega), if_pos (by omega), if_pos (by omega), if_pos (by omega)]) ?_
    refine Ev.bind (of_bt s i) (Ev.ite_neg hne ?_)
    rw [w64 (by omega) (by omega), show (q : Int) + 1 = ((q + 1 : Nat) : Int) by omega]
    refine ih (q + 1) (by omega) (by omega) (fun z hz1 => hz z ?_)
    rw [List.drop_eq_getElem_cons hq]; exact List.mem_cons_of_mem _ hz1
theorem row_l1_yes (s : ByteArray) (l : List Int) (f0 : Int) (i : Nat) (bad : Int) (hi : i < s.size) (hs : s.size ≤ 140737488351232) (hl : l.length ≤ 1000) (r : Int × ByteArray × Int × Int)
    (hgo : Ev (fun k => token_cutter_row.l0 k l f0 s ((i + 1 : Nat) : Int) bad) r) (d : Nat) : ∀ q : Nat, l.length - q = d → q ≤ l.length → kindOf (bt s (i : Int)) ∈ l.drop q →
    Ev (fun k => token_cutter_row.l1 k l f0 l (l.length : Int) (q : Int) s (i : Int) bad) r := by
  induction d with
  | zero => intro q h h0 hz; rw [List.drop_eq_nil_of_le (by omega)] at hz; cases hz
  | succ d ih =>
    intro q h h0 hz
    have hq : q < l.length := by omega
    have he : rd l (q : Int) = l[q] := by unfold rd; rw [Int.toNat_natCast, List.getD_eq_getElem?_getD, List.getElem?_eq_getElem hq]; rfl
    refine Ev.step (f := fun k => (token_of.f k (bt s (i : Int))).bind fun t => if t = rd l (q : Int) then token_cutter_row.l0 k l f0 s (wrap64 ((i : Int) + 1)) bad else token_cutter_row.l1 k l f0 l (l.length : Int) (wrap64 ((q : Int) + 1)) s (i : Int) bad) (fun k => by
      rw [token_cutter_row.l1]; rw [if_pos (by omega), if_pos (by omega), if_pos (by omega), if_pos (by omega), if_pos (by omega)]) ?_
    refine Ev.bind (of_bt s i) ?_
    by_cases hk : kindOf (bt s (i : Int)) = rd l (q : Int)
    · refine Ev.ite_pos hk ?_
      rw [w64 (by omega) (by omega), show (i : Int) + 1 = ((i + 1 : Nat) : Int) by omega]
      exact hgo
    · refine Ev.ite_neg hk ?_
      rw [w64 (by omega) (by omega), show (q : Int) + 1 = ((q + 1 : Nat) : Int) by omega]
      refine ih (q + 1) (by omega) (by omega) ?_
      rw [List.drop_eq_getElem_cons hq] at hz
      rcases List.mem_cons.mp hz with h1 | h1
      · exact absurd (h1.trans he.symm) hk
      · exact h1
/-- Is a byte of one of these sorts? -/
def inL (l : List Int) (c : Int) : Bool := decide (kindOf c ∈ l)
theorem row_l0 (s : ByteArray) (hs : s.size ≤ 140737488351232) (l : List Int) (hl : l.length ≤ 1000) (f0 bad : Int) (d : Nat) : ∀ i : Nat, i ≤ s.size → s.size - i = d →
    Ev (fun k => token_cutter_row.l0 k l f0 s (i : Int) bad) (wrap64 (((rowEnd (inL l) s i : Nat) : Int) - f0), s, ((rowEnd (inL l) s i : Nat) : Int), bad) := by
  induction d with
  | zero =>
    intro i h0 h
    refine Ev.step (fun k => by rw [token_cutter_row.l0]) (Ev.ite_neg (by omega) ?_)
    rw [rowEnd_stop (by omega)]; exact Ev.now _
  | succ d ih =>
    intro i h0 h
    refine Ev.step (f := fun k => token_cutter_row.l1 k l f0 l (l.length : Int) 0 s (i : Int) bad) (fun k => by rw [token_cutter_row.l0]; rw [if_pos (by omega)]) ?_
    cases hp : inL l (bt s (i : Int)) with
    | true =>
      rw [rowEnd_yes (by omega) hp]
      exact row_l1_yes s l f0 i bad (by omega) hs hl _ (ih (i + 1) (by omega) (by omega)) l.length 0 (by omega) (by omega) (by simpa [inL] using hp)
    | false =>
      rw [rowEnd_no hp]
      refine row_l1 s l f0 i bad (by omega) hl _ rfl l.length 0 (by omega) (by omega) (fun z hz he => ?_)
      have : kindOf (bt s (i : Int)) ∉ l := by simpa [inL] using hp
      exact this (he ▸ hz)
theorem row_ev (s : ByteArray) (hs : s.size ≤ 140737488351232) (l : List Int) (hl : l.length ≤ 1000) (bad : Int) (i : Nat) (hi : i ≤ s.size) :
    Ev (fun k => token_cutter_row.f k s (i : Int) bad l) (((rowEnd (inL l) s i : Nat) : Int) - i, s, ((rowEnd (inL l) s i : Nat) : Int), bad) := by
  have h := row_l0 s hs l hl i bad (s.size - i) i hi rfl
  have := le_rowEnd (inL l) s i
  have := rowEnd_size (p := inL l) hi
  rw [w64 (by omega) (by omega)] at h
  exact Ev.congr (fun k => by rw [token_cutter_row.f]) h
end Go.Proofs.Ytimnlnkjogbjfaa.Pure
