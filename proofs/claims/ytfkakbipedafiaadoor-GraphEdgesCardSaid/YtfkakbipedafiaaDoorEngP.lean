/- Plain rules for rounds and lists (no program in sight; no condition beyond those stated). -/
import Derived.Test.YtfkakbipedafiaaDoorEngT
namespace Go.Eng
open Go
set_option linter.unusedSectionVars false
set_option linter.unusedVariables false
set_option linter.unusedSimpArgs false

/-- what a round may come to -/
def Ok {σ R A : Type} (I : Nat → σ → Prop) (m : Nat) (P : Out R A → Prop) : Stp σ R A → Prop
  | .next s => ∃ m', m' < m ∧ I m' s
  | .ret r => P (.ret r)
  | .go a => P (.go a)
theorem iter_ok {σ R A : Type} {f : σ → Option (Stp σ R A)} {I : Nat → σ → Prop} {P : Out R A → Prop} (h : ∀ m s, I m s → ∃ t, f s = some t ∧ Ok I m P t) : ∀ (n m : Nat) (s : σ), I m s → m < n → ∃ o, iter f n s = some o ∧ P o
  | 0, m, s, _, hm => by omega
  | n + 1, m, s, hI, hm => by
    obtain ⟨t, ht, hok⟩ := h m s hI
    rw [iter_succ, ht]
    cases t with
    | next s' =>
      obtain ⟨m', hm', hI'⟩ := hok
      exact iter_ok h n m' s' hI' (by omega)
    | ret r => exact ⟨_, rfl, hok⟩
    | go a => exact ⟨_, rfl, hok⟩
theorem iter_eq {σ R A : Type} {f : σ → Option (Stp σ R A)} (I : Nat → σ → Prop) (o : Out R A) (h : ∀ m s, I m s → ∃ t, f s = some t ∧ Ok I m (· = o) t) {m : Nat} {s : σ} (hI : I m s) (hm : m < 4611686018427387904) : iter f FUEL s = some o := by
  obtain ⟨o', h1, rfl⟩ := iter_ok h FUEL m s hI (by unfold FUEL; exact hm)
  exact h1
theorem wsucc' {x : Int} (h0 : 0 ≤ x) (h1 : x ≤ 4611686018427387904) : IntKind.i64.wrap (x + 1) = x + 1 := wrap64_in (by omega) (by omega)
theorem wnat {x : Nat} (h1 : x ≤ 4611686018427387904) : IntKind.i64.wrap ((x : Int) + 1) = ((x + 1 : Nat) : Int) := by rw [wsucc' (by omega) (by omega)]; rfl
theorem idx_nat {α : Type} {l : List α} {i : Nat} : idx l (i : Int) = l[i]? := by
  unfold idx; rw [if_pos (by omega), Int.toNat_natCast]
theorem idx_get {α : Type} {l : List α} {i : Nat} (h : i < l.length) : idx l (i : Int) = some l[i] := by rw [idx_nat, List.getElem?_eq_getElem h]
theorem idx_some {α : Type} {l : List α} {i : Nat} {a : α} (h : l[i]? = some a) : idx l (i : Int) = some a := by rw [idx_nat, h]
theorem part_nat {α : Type} {l : List α} {a b : Nat} (h : a ≤ b) (hb : b ≤ l.length) : part l (a : Int) (b : Int) = some ((l.drop a).take (b - a)) := by
  unfold part
  rw [if_pos ⟨by omega, by omega, by omega⟩, Int.toNat_natCast, Int.toNat_natCast, List.drop_take]
theorem more_nat {α : Type} {by_ : Nat} {l r : List α} (h : (l.length + r.length) * by_ ≤ 140737488355328) : more by_ l r = some (l ++ r) := by unfold more; rw [if_pos h]
theorem upd_nat {α : Type} {l : List α} {i : Nat} {a : α} (h : i < l.length) : upd l (i : Int) a = some (l.set i a) := by
  unfold upd; rw [if_pos ⟨by omega, by omega⟩, Int.toNat_natCast]
theorem made_nat {α : Type} {by_ : Nat} {a : α} {n : Nat} (h : n * by_ ≤ 140737488355328) (hn : n < 9223372036854775808) : made by_ a (n : Int) = some (List.replicate n a) := by
  unfold made
  have e : (n : Int) * (by_ : Int) = ((n * by_ : Nat) : Int) := by simp
  rw [if_pos ⟨by omega, by rw [e]; omega, by omega⟩, Int.toNat_natCast]
theorem scat_of {a b : List UInt8} (h : a.length + b.length ≤ 4611686018427387904) : scat a b = some (a ++ b) := by unfold scat; rw [if_pos h]
/-- bytes, as numbers -/
def nums (l : List UInt8) : List Int := l.map fun b => (b.toNat : Int)
theorem nums_len (l : List UInt8) : (nums l).length = l.length := by simp [nums]
theorem bstr_nums : ∀ (l : List UInt8), bstr (nums l) = some l
  | [] => rfl
  | b :: l => by
    have ih := bstr_nums l
    unfold bstr at ih ⊢
    simp only [nums, List.map_cons, omap] at ih ⊢
    have hb := b.toNat_lt
    rw [ih, if_pos (by omega)]
    simp
end Go.Eng
