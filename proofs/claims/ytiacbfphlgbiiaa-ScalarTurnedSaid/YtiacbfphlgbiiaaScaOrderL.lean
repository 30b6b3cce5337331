/- The statement of ScalarOrder in the small machine (no condition beyond those of its arguments). -/
import Derived.Test.YtiacbfphlgbiiaaScaL4
import Derived.Test.YtiacbfphlgbiiaaScaO
namespace Go.Eng.Sca
open Go Go.Eng
set_option linter.unusedVariables false
set_option linter.unusedSimpArgs false
set_option maxHeartbeats 4000000

theorem u64_in' {m : Int} (h0 : IntKind.u64.min ≤ m) (h1 : m ≤ IntKind.u64.max) : Wd m := by
  have e0 : IntKind.u64.min = 0 := by decide
  have e1 : IntKind.u64.max = 18446744073709551615 := by decide
  exact ⟨by omega, by omega⟩
theorem u8_in' {m : Int} (h0 : IntKind.u8.min ≤ m) (h1 : m ≤ IntKind.u8.max) : 0 ≤ m ∧ m ≤ 255 := by
  have e0 : IntKind.u8.min = 0 := by decide
  have e1 : IntKind.u8.max = 255 := by decide
  exact ⟨by omega, by omega⟩

/- ### how two floats stand -/
theorem cmp_swap (a b : Int) : compare b a = (compare a b).swap := Std.OrientedCmp.eq_swap
theorem cmpn_swap (a b : Nat) : compare b a = (compare a b).swap := Std.OrientedCmp.eq_swap
theorem dat_swap (d e : Ieee.Datum) : e.order d = (d.order e).map Ordering.swap := by
  cases d with
  | nan s t => cases e <;> rfl
  | infinity s => cases e with
    | nan _ _ => rfl
    | infinity t => show some _ = some _; rw [cmpn_swap]
    | number t n j => cases s <;> rfl
  | number s m i => cases e with
    | nan _ _ => rfl
    | infinity t => cases t <;> rfl
    | number t n j =>
      show some (compare (Ieee.signed t n (j - min j i).toNat) (Ieee.signed s m (i - min j i).toNat)) = some _
      rw [cmp_swap, Int.min_comm j i]
theorem flO_swap (x y : Nat) : flO (some y) (some x) = (flO (some x) (some y)).map Ordering.swap := dat_swap _ _
theorem dat_self (d : Ieee.Datum) : (d.order d == some .eq) = !d.isNaN := by
  cases d with
  | nan s t => rfl
  | infinity s => cases s <;> rfl
  | number s m i =>
    show (some (compare (Ieee.signed s m (i - min i i).toNat) (Ieee.signed s m (i - min i i).toNat)) == some Ordering.eq) = true
    generalize Ieee.signed s m (i - min i i).toNat = x
    have : compare x x = Ordering.eq := Std.ReflCmp.compare_self
    rw [this]; rfl
theorem dat_some {d e : Ieee.Datum} (hd : d.isNaN = false) (he : e.isNaN = false) : d.order e ≠ none := by
  cases d <;> cases e <;> simp [Ieee.Datum.isNaN, Ieee.Datum.order] at hd he ⊢
theorem nanw {x : Nat} : (flO (some x) (some x) != some .eq) = (Ieee.double.read x).isNaN := by
  show (!((Ieee.double.read x).order (Ieee.double.read x) == some .eq)) = _
  rw [dat_self, Bool.not_not]
theorem fl_none {x y : Nat} (h : (Ieee.double.read x).isNaN = true ∨ (Ieee.double.read y).isNaN = true) : flO (some x) (some y) = none := ord_nan h
theorem f13_5 (w : Int) : f13 5 w = if (Ieee.double.read w.toNat).isNaN then 9221120237041090560 else w := by
  show (if (flO (some w.toNat) (some w.toNat) != some .eq) then (9221120237041090560 : Int) else w) = _
  rw [nanw]
theorem f13_55 (w : Int) : f13 5 (f13 5 w) = f13 5 w := by
  rw [f13_5, f13_5]
  cases h : (Ieee.double.read w.toNat).isNaN with
  | true => simp only [if_true]; decide
  | false => simp [h]
theorem f11_5 (w : Int) : f11 5 (f13 5 w) = true := by
  unfold f11
  rw [f13_55]; simp
theorem f17_fl {op : Int} (ho : f19 op 5 = (1, true)) (h1 : (op == 17) = false) (h2 : (op == 18) = false) (x y : Int) :
    f17 op 5 (f13 5 x) (f13 5 y) = f40 op (some (f13 5 x).toNat) (some (f13 5 y).toNat) := by
  have e : f21 op 5 (f13 5 x) (f13 5 y) = (f40 op (some (f13 5 x).toNat) (some (f13 5 y).toNat), true) := by
    unfold f21
    simp only [ho, h1, h2, f11_5, Bool.not_true, Bool.false_eq_true, if_false, beq_self_eq_true, if_true]
  unfold f17
  rw [e]; rfl
def oE (o : Option Ordering) (op : Int) : Int := f62 (if op = 11 then o == some .eq else if op = 12 then o != some .eq else if op = 13 then o == some .lt else if op = 14 then (o == some .lt || o == some .eq) else if op = 15 then o == some .gt else (o == some .gt || o == some .eq))
theorem g_of (op : Int) (ho : op = 11 ∨ op = 12 ∨ op = 13 ∨ op = 14 ∨ op = 15 ∨ op = 16) (x y : Int) : f17 op 5 (f13 5 x) (f13 5 y) = oE (flO (some (f13 5 x).toNat) (some (f13 5 y).toNat)) op := by
  rcases ho with rfl | rfl | rfl | rfl | rfl | rfl <;> rw [f17_fl (by decide) rfl rfl] <;> rfl

/- ### how two numbers stand -/
theorem f17_cmp {t : Int} (ht : Wh t) {op : Int} (ho : f19 op t = (1, true)) (h1 : (op == 17) = false) (h2 : (op == 18) = false) (a b : Int) :
    f17 op t (enc t a) (enc t b) = f13 1 (f41 op t (enc t a) (enc t b)) := by
  have h5 : (t == 5) = false := by rcases ht with rfl | rfl | rfl <;> rfl
  have e : f21 op t (enc t a) (enc t b) = (f13 1 (f41 op t (enc t a) (enc t b)), true) := by
    unfold f21
    simp only [ho, h1, h2, h5, enc_f11 ht, Bool.not_true, Bool.false_eq_true, if_false]
  unfold f17
  rw [e]; rfl
theorem cut_tr (c : Bool) : f13 1 (f62 c) = f62 c := by cases c <;> decide
def oN (a b op : Int) : Int := f62 (if op = 11 then a == b else if op = 12 then a != b else if op = 13 then decide (a < b) else if op = 14 then decide (a ≤ b) else if op = 15 then decide (a > b) else decide (a ≥ b))
theorem n_of {t : Int} (ht : Wh t) (op : Int) (ho : op = 11 ∨ op = 12 ∨ op = 13 ∨ op = 14 ∨ op = 15 ∨ op = 16) {a b : Int} (ha : lo t ≤ a ∧ a < hi t) (hb : lo t ≤ b ∧ b < hi t) : f17 op t (enc t a) (enc t b) = oN a b op := by
  have hS := S_enc ht ha.1 ha.2
  have hS' := S_enc ht hb.1 hb.2
  have k : ∀ op, (op = 11 ∨ op = 12 ∨ op = 13 ∨ op = 14 ∨ op = 15 ∨ op = 16) → f19 op t = (1, true) := by
    intro op ho; rcases ht with rfl | rfl | rfl <;> rcases ho with rfl | rfl | rfl | rfl | rfl | rfl <;> decide
  rw [f17_cmp ht (k op ho) (by rcases ho with rfl | rfl | rfl | rfl | rfl | rfl <;> rfl) (by rcases ho with rfl | rfl | rfl | rfl | rfl | rfl <;> rfl)]
  have e : f41 op t (enc t a) (enc t b) = f51 op (IntKind.i64.wrap (enc t a)) (IntKind.i64.wrap (enc t b)) := by
    rcases ho with rfl | rfl | rfl | rfl | rfl | rfl <;> rfl
  rw [e, hS, hS']
  rcases ho with rfl | rfl | rfl | rfl | rfl | rfl <;> exact cut_tr _
/-- one of three -/
theorem three (a b : Int) : (oN a b 11 = 0 ∧ oN a b 12 = 1 ∧ oN a b 13 = 1 ∧ oN a b 14 = 1 ∧ oN a b 15 = 0 ∧ oN a b 16 = 0 ∧ oN b a 13 = 0 ∧ oN b a 16 = 1 ∧ decide (a < b) = true) ∨
    (oN a b 11 = 1 ∧ oN a b 12 = 0 ∧ oN a b 13 = 0 ∧ oN a b 14 = 1 ∧ oN a b 15 = 0 ∧ oN a b 16 = 1 ∧ oN b a 13 = 0 ∧ oN b a 16 = 1 ∧ decide (a < b) = false) ∨
    (oN a b 11 = 0 ∧ oN a b 12 = 1 ∧ oN a b 13 = 0 ∧ oN a b 14 = 0 ∧ oN a b 15 = 1 ∧ oN a b 16 = 1 ∧ oN b a 13 = 1 ∧ oN b a 16 = 0 ∧ decide (a < b) = false) := by
  have w : ∀ x y op : Int, oN x y op = f62 (if op = 11 then x == y else if op = 12 then x != y else if op = 13 then decide (x < y) else if op = 14 then decide (x ≤ y) else if op = 15 then decide (x > y) else decide (x ≥ y)) := fun _ _ _ => rfl
  have t1 : f62 true = 1 := rfl
  have t0 : f62 false = 0 := rfl
  rcases Int.lt_trichotomy a b with h | h | h
  · left
    have h1 : a ≠ b := by omega
    have h2 : ¬ b < a := by omega
    have h3 : a ≤ b := by omega
    have h4 : ¬ b ≤ a := by omega
    have h5 : (a == b) = false := by simpa using h1
    have h6 : (a != b) = true := by rw [bne, h5]; rfl
    simp [w, h, h2, h3, h4, h5, h6, t1, t0]
  · right; left
    subst h; simp [w, t1, t0]
  · right; right
    have h1 : a ≠ b := by omega
    have h2 : ¬ a < b := by omega
    have h3 : b ≤ a := by omega
    have h4 : ¬ a ≤ b := by omega
    have h5 : (a == b) = false := by simpa using h1
    have h6 : (a != b) = true := by rw [bne, h5]; rfl
    simp [w, h, h2, h3, h4, h5, h6, t1, t0]

theorem order {t : Int} (ht : Wh t) {a b : Int} (ha : lo t ≤ a ∧ a < hi t) (hb : lo t ≤ b ∧ b < hi t) (k x1 x2 : Int) (hk : f16 k = t)
    (ea : f13 t x1 = enc t a) (eb : f13 t x2 = enc t b) (H : Heap) :
    Fn T 4 [.int .u8 k, .int .u64 x1, .int .u64 x2] H (fun r h => r = .bool true ∧ h = H) := by
  subst hk
  have n5 : ((f16 k) == 5) = false := by rcases ht with h | h | h <;> rw [h] <;> rfl
  have n5' : ((f16 k) != 5) = true := by rw [bne, n5]; rfl
  have G := fun op ho => g_of op ho x1 x2
  have Gs := fun op ho => g_of op ho x2 x1
  have F := fun op ho => n_of ht op ho ha hb
  have Fs := fun op ho => n_of ht op ho hb ha
  have sw := flO_swap (f13 5 x1).toNat (f13 5 x2).toNat
  have nn : (flO (some (f13 5 x1).toNat) (some (f13 5 x1).toNat) != some .eq) = true → flO (some (f13 5 x1).toNat) (some (f13 5 x2).toNat) = none := by
    intro h; rw [nanw] at h; exact fl_none (.inl h)
  have nn2 : (flO (some (f13 5 x2).toNat) (some (f13 5 x2).toNat) != some .eq) = true → flO (some (f13 5 x1).toNat) (some (f13 5 x2).toNat) = none := by
    intro h; rw [nanw] at h; exact fl_none (.inr h)
  have ns : (flO (some (f13 5 x1).toNat) (some (f13 5 x1).toNat) != some .eq) = false → (flO (some (f13 5 x2).toNat) (some (f13 5 x2).toNat) != some .eq) = false → flO (some (f13 5 x1).toNat) (some (f13 5 x2).toNat) ≠ none := by
    intro h h2; rw [nanw] at h h2; exact dat_some h h2
  -- floats
  have oc : ∀ o : Option Ordering, o = none ∨ o = some .lt ∨ o = some .eq ∨ o = some .gt := by
    intro o; rcases o with _ | x
    · exact .inl rfl
    · cases x <;> simp
  have f0 : ∀ o, ((IntKind.u64.wrap (oE o 11 + oE o 12)) != 1) = false := fun o => by rcases oc o with rfl | rfl | rfl | rfl <;> decide
  have f1 : ∀ o op, (op = 13 ∨ op = 14 ∨ op = 15 ∨ op = 16) → decide (oE o op > 1) = false := fun o op ho => by rcases oc o with rfl | rfl | rfl | rfl <;> rcases ho with rfl | rfl | rfl | rfl <;> decide
  have f5 : ∀ o, (oE (o.map Ordering.swap) 13 != oE o 15) = false := fun o => by rcases oc o with rfl | rfl | rfl | rfl <;> decide
  have f6 : ∀ o, (oE (o.map Ordering.swap) 16 != oE o 14) = false := fun o => by rcases oc o with rfl | rfl | rfl | rfl <;> decide
  have f7 : ((IntKind.u64.wrap ((IntKind.u64.wrap ((IntKind.u64.wrap ((IntKind.u64.wrap (oE none 13 + oE none 14)) + oE none 15)) + oE none 16)) + oE none 11)) == 0) = true := by decide
  have f9 : ∀ o, o ≠ none → ((IntKind.u64.wrap ((IntKind.u64.wrap (oE o 13 + oE o 15)) + oE o 11)) == 1) = true := fun o h => by rcases oc o with rfl | rfl | rfl | rfl <;> first | exact absurd rfl h | decide
  have f10 : ∀ o, o ≠ none → (oE o 14 == (IntKind.u64.wrap (oE o 13 + oE o 11))) = true := fun o h => by rcases oc o with rfl | rfl | rfl | rfl <;> first | exact absurd rfl h | decide
  have f11 : ∀ o, o ≠ none → (oE o 16 == (IntKind.u64.wrap (oE o 15 + oE o 11))) = true := fun o h => by rcases oc o with rfl | rfl | rfl | rfl <;> first | exact absurd rfl h | decide
  refine w4 k x1 x2 ?_ ?_ ?_ ?_ ?_ ?_ ?_ ?_ ?_ ?_ ?_ ?_ ?_ ?_ ?_ ?_ ?_ ?_ ?_ ?_ ?_ ?_ ?_ ?_ ?_ ?_ ?_ ?_ ?_ ?_ ?_ ?_ ?_ ?_ ?_ H
  · intro _; rw [G 11 (by decide), G 12 (by decide)]; exact f0 _
  · intro _; rw [G 13 (by decide)]; exact f1 _ _ (by decide)
  · intro _; rw [G 15 (by decide)]; exact f1 _ _ (by decide)
  · intro _; rw [G 14 (by decide)]; exact f1 _ _ (by decide)
  · intro _; rw [G 16 (by decide)]; exact f1 _ _ (by decide)
  · intro _; rw [Gs 13 (by decide), G 15 (by decide), sw]; exact f5 _
  · intro _; rw [Gs 16 (by decide), G 14 (by decide), sw]; exact f6 _
  · intro _ h; rw [G 13 (by decide), G 14 (by decide), G 15 (by decide), G 16 (by decide), G 11 (by decide), nn h]; exact f7
  · intro _ _ h; rw [G 13 (by decide), G 14 (by decide), G 15 (by decide), G 16 (by decide), G 11 (by decide), nn2 h]; exact f7
  · intro _ h h2; rw [G 13 (by decide), G 15 (by decide), G 11 (by decide)]; exact f9 _ (ns h h2)
  · intro _ h h2; rw [G 14 (by decide), G 13 (by decide), G 11 (by decide)]; exact f10 _ (ns h h2)
  · intro _ h h2; rw [G 16 (by decide), G 15 (by decide), G 11 (by decide)]; exact f11 _ (ns h h2)
  -- numbers
  · intro _; rw [ea, eb, F 11 (by decide), F 12 (by decide)]; rcases three a b with ⟨a1, a2, a3, a4, a5, a6, a7, a8, a9⟩ | ⟨a1, a2, a3, a4, a5, a6, a7, a8, a9⟩ | ⟨a1, a2, a3, a4, a5, a6, a7, a8, a9⟩ <;> rw [a1, a2] <;> decide
  · intro _; rw [ea, eb, F 13 (by decide)]; rcases three a b with ⟨a1, a2, a3, a4, a5, a6, a7, a8, a9⟩ | ⟨a1, a2, a3, a4, a5, a6, a7, a8, a9⟩ | ⟨a1, a2, a3, a4, a5, a6, a7, a8, a9⟩ <;> rw [a3] <;> decide
  · intro _; rw [ea, eb, F 15 (by decide)]; rcases three a b with ⟨a1, a2, a3, a4, a5, a6, a7, a8, a9⟩ | ⟨a1, a2, a3, a4, a5, a6, a7, a8, a9⟩ | ⟨a1, a2, a3, a4, a5, a6, a7, a8, a9⟩ <;> rw [a5] <;> decide
  · intro _; rw [ea, eb, F 14 (by decide)]; rcases three a b with ⟨a1, a2, a3, a4, a5, a6, a7, a8, a9⟩ | ⟨a1, a2, a3, a4, a5, a6, a7, a8, a9⟩ | ⟨a1, a2, a3, a4, a5, a6, a7, a8, a9⟩ <;> rw [a4] <;> decide
  · intro _; rw [ea, eb, F 16 (by decide)]; rcases three a b with ⟨a1, a2, a3, a4, a5, a6, a7, a8, a9⟩ | ⟨a1, a2, a3, a4, a5, a6, a7, a8, a9⟩ | ⟨a1, a2, a3, a4, a5, a6, a7, a8, a9⟩ <;> rw [a6] <;> decide
  · intro _; rw [ea, eb, Fs 13 (by decide), F 15 (by decide)]; rcases three a b with ⟨a1, a2, a3, a4, a5, a6, a7, a8, a9⟩ | ⟨a1, a2, a3, a4, a5, a6, a7, a8, a9⟩ | ⟨a1, a2, a3, a4, a5, a6, a7, a8, a9⟩ <;> rw [a7, a5] <;> decide
  · intro _; rw [ea, eb, Fs 16 (by decide), F 14 (by decide)]; rcases three a b with ⟨a1, a2, a3, a4, a5, a6, a7, a8, a9⟩ | ⟨a1, a2, a3, a4, a5, a6, a7, a8, a9⟩ | ⟨a1, a2, a3, a4, a5, a6, a7, a8, a9⟩ <;> rw [a8, a4] <;> decide
  iterate 9 (intro _ h; rw [n5] at h; cases h)
  · intro _ _ _; rw [ea, eb, F 13 (by decide), S_enc ht ha.1 ha.2, S_enc ht hb.1 hb.2]; rcases three a b with ⟨a1, a2, a3, a4, a5, a6, a7, a8, a9⟩ | ⟨a1, a2, a3, a4, a5, a6, a7, a8, a9⟩ | ⟨a1, a2, a3, a4, a5, a6, a7, a8, a9⟩ <;> rw [a3, a9] <;> decide
  · intro _ _ _; rw [ea, eb, F 13 (by decide), F 15 (by decide), F 11 (by decide)]; rcases three a b with ⟨a1, a2, a3, a4, a5, a6, a7, a8, a9⟩ | ⟨a1, a2, a3, a4, a5, a6, a7, a8, a9⟩ | ⟨a1, a2, a3, a4, a5, a6, a7, a8, a9⟩ <;> rw [a3, a5, a1] <;> decide
  · intro _ _ _; rw [ea, eb, F 13 (by decide), F 14 (by decide), F 11 (by decide)]; rcases three a b with ⟨a1, a2, a3, a4, a5, a6, a7, a8, a9⟩ | ⟨a1, a2, a3, a4, a5, a6, a7, a8, a9⟩ | ⟨a1, a2, a3, a4, a5, a6, a7, a8, a9⟩ <;> rw [a3, a4, a1] <;> decide
  · intro _ _ _; rw [ea, eb, F 15 (by decide), F 16 (by decide), F 11 (by decide)]; rcases three a b with ⟨a1, a2, a3, a4, a5, a6, a7, a8, a9⟩ | ⟨a1, a2, a3, a4, a5, a6, a7, a8, a9⟩ | ⟨a1, a2, a3, a4, a5, a6, a7, a8, a9⟩ <;> rw [a5, a6, a1] <;> decide
  iterate 3 (intro _ _ h; rw [n5'] at h; cases h)

theorem law_ScalarOrder {B0 n0 : Nat} {u0 : V} (g0 : u0.isAg = agOf Go.Proofs.Try.prog 22) (w0 : WfT Go.Proofs.Try.prog B0 n0 22 u0.cells)
    {B1 n1 : Nat} {u1 : V} (g1 : u1.isAg = agOf Go.Proofs.Try.prog 23) (w1 : WfT Go.Proofs.Try.prog B1 n1 23 u1.cells)
    {B2 n2 : Nat} {u2 : V} (g2 : u2.isAg = agOf Go.Proofs.Try.prog 23) (w2 : WfT Go.Proofs.Try.prog B2 n2 23 u2.cells) : Fn T 4 [u0, u1, u2] [] (fun r h => r = .bool true) := by
  obtain ⟨k, rfl, k0, k1⟩ := WfT.int (k := .u8) (by kernel_rfl) (by rw [g0]; decide +kernel) w0
  obtain ⟨x1, rfl, a0, a1⟩ := WfT.int (k := .u64) (by kernel_rfl) (by rw [g1]; decide +kernel) w1
  obtain ⟨x2, rfl, b0, b1⟩ := WfT.int (k := .u64) (by kernel_rfl) (by rw [g2]; decide +kernel) w2
  have ht := f16_wh (u8_in' k0 k1)
  obtain ⟨a, ea, ha⟩ := word_num ht (u64_in' a0 a1)
  obtain ⟨b, eb, hb⟩ := word_num ht (u64_in' b0 b1)
  exact (order ht ha hb k x1 x2 rfl ea eb []).mono fun r h hr => hr.1
end Go.Eng.Sca
