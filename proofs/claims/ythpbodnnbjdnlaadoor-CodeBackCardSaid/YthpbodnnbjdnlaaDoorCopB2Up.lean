/- Functions of this seat, run on unknown values by the rules of the small machine (no condition beyond those stated). -/
import Derived.Test.YthpbodnnbjdnlaaDoorCopP9Up
set_option linter.unusedSectionVars false
namespace Go.Eng.Cop
open Go Go.Eng
set_option linter.unusedSectionVars false
set_option linter.unusedVariables false
set_option linter.unusedSimpArgs false
set_option maxRecDepth 20000
theorem pNumF_grp : ∀ (j k n s a : Nat) (r : List Int),n < 128 ^ (j + 1) → n < 128 ^ (k + 1) → pNumF (j + 1) s a (grpF k n ++ r) = some (((a + n * 2 ^ s : Nat) : Int),r)
  | j,k,n,s,a,r,h,hk => by
    by_cases hs : n < 128
    · have e : grpF k n = [(n : Int)] := by
        cases k with
        | zero => rfl
        | succ k => unfold grpF; rw [if_pos hs]
      rw [e];show pNumF (j + 1) s a ((n : Int) :: r) = _;rw [pNumF,if_pos (by omega)];have : ((n : Int) % 128).toNat = n := by omega
      rw [this]
    · cases k with
      | zero => omega
      | succ k =>
        unfold grpF;rw [if_neg hs];show pNumF (j + 1) s a (((n % 128 + 128 : Nat) : Int) :: (grpF k (n / 128) ++ r)) = _;rw [pNumF,if_neg (by omega)];have e : (((n % 128 + 128 : Nat) : Int) % 128).toNat = n % 128 := by omega
        rw [e];cases j with
        | zero => omega
        | succ j =>
          rw [pNumF_grp j k (n / 128) (s + 7) _ r (by rw [Nat.pow_succ] at h; exact (Nat.div_lt_iff_lt_mul (by decide)).mpr h) (by rw [Nat.pow_succ] at hk; exact (Nat.div_lt_iff_lt_mul (by decide)).mpr hk)];have : a + n % 128 * 2 ^ s + n / 128 * 2 ^ (s + 7) = a + n * 2 ^ s := by
            have e2 : n / 128 * 2 ^ (s + 7) = n / 128 * 128 * 2 ^ s := by rw [Nat.pow_add,Nat.mul_assoc,Nat.mul_comm (2 ^ s)]
            rw [e2,Nat.add_assoc,← Nat.add_mul]
            congr 2; omega
          rw [this]
theorem pNum_grp {n : Nat} (h : n < 34359738368) (r : List Int) : pNum (grp n ++ r) = some ((n : Int),r) := by
  have := pNumF_grp 4 8 n 0 0 r (by omega) (by omega);unfold pNum;rw [this]; simp
theorem b8_list (n : Nat) : b8 n = [((n % 256 : Nat) : Int),((n / 256 % 256 : Nat) : Int),((n / 65536 % 256 : Nat) : Int),((n / 16777216 % 256 : Nat) : Int),((n / 4294967296 % 256 : Nat) : Int),((n / 1099511627776 % 256 : Nat) : Int),((n / 281474976710656 % 256 : Nat) : Int),((n / 72057594037927936 % 256 : Nat) : Int)] := by
  show [((n / 2 ^ (8 * 0) % 256 : Nat) : Int),((n / 2 ^ (8 * 1) % 256 : Nat) : Int),((n / 2 ^ (8 * 2) % 256 : Nat) : Int),((n / 2 ^ (8 * 3) % 256 : Nat) : Int),((n / 2 ^ (8 * 4) % 256 : Nat) : Int),((n / 2 ^ (8 * 5) % 256 : Nat) : Int),((n / 2 ^ (8 * 6) % 256 : Nat) : Int),((n / 2 ^ (8 * 7) % 256 : Nat) : Int)] = _
  simp
theorem pB8_b8 {n : Nat} (h : n < 18446744073709551616) (r : List Int) : pB8 (b8 n ++ r) = some ((n : Int),r) := by
  unfold pB8;rw [b8_list];simp only [List.cons_append,List.nil_append,pB8F,Int.toNat_natCast]
  congr 3
  simp only [Nat.mul_zero,Nat.pow_zero,Nat.mul_one,Nat.zero_add];show (_ : Nat) = n
  omega
theorem w_small {n : Nat} (h : n < 34359738368) : IntKind.u64.wrap (n : Int) = (n : Int) := by rw [IntKind.wrap_u64]; omega
structure Sm5 (u : T_Unit) (n : Int) : Prop where
  f : 0 ≤ u.fFrame ∧ u.fFrame ≤ 1073741824
  p : u.fParams.length < 34359738368
  c : u.fCode.length < 34359738368
  n : n < 34359738368
theorem sm_lt5 {u : T_Unit} {n x : Int} (hu : Sm5 u n) (h : sm u n x) : 0 ≤ x ∧ x < 34359738368 := by
  obtain ⟨hf,hp,hc,hn⟩ := hu;rcases h with h | h | h | h | h | h
  · have : x = 0 := by simpa using h
    omega
  all_goals (have := rb_spec h; omega)
theorem row_lt5 {c bits f : Int} (hb : 0 ≤ bits) (hf : 0 ≤ f ∧ f ≤ 1073741824) (h : decide (bits ≤ 256) = true ∧ decide (0 ≤ c) = true ∧ decide (c ≤ IntKind.i64.wrap (f - IntKind.i64.wrap bits)) = true) : (0 ≤ c ∧ c < 34359738368) ∧ bits < 34359738368 := by
  obtain ⟨h1,h2,h3⟩ := h;have h1 := of_decide_eq_true h1;have h2 := of_decide_eq_true h2;have h3 := of_decide_eq_true h3;rw [wrap64_in (x := bits) (by omega) (by omega),wrap64_in (by omega) (by omega)] at h3
  omega
def RT (x : T_Code) : Prop := Gd x ∧ ∀ r,pCode (encC x ++ r) = some (x,r)
theorem gd5 {k op ty to tr a b c bits : Int} (hk : 1 ≤ k ∧ k ≤ 17) (ha : 0 ≤ a ∧ a < 34359738368) (hb : 0 ≤ b ∧ b < 34359738368) (hc : 0 ≤ c ∧ c < 34359738368) (hw : 0 ≤ bits) (hr : 7 ≤ k → k ≤ 9 → bits < 34359738368) : Gd ⟨k,op,ty,to,tr,a,b,c,bits⟩ :=
  ⟨hk,⟨ha.1,by have := ha.2; show a < _; omega⟩,⟨hb.1,by have := hb.2; show b < _; omega⟩,⟨hc.1,by have := hc.2; show c < _; omega⟩,hw,fun h1 h2 => by have := hr h1 h2; show bits < _; omega⟩
theorem rt_1 (a bits : Int) (ha : 0 ≤ a ∧ a < 34359738368) (hw : 0 ≤ bits ∧ bits < 18446744073709551616) : RT ⟨1,0,0,0,0,a,0,0,bits⟩ := by
  obtain ⟨a,rfl⟩ := Int.eq_ofNat_of_zero_le ha.1;have sa : a < 34359738368 := by omega
  obtain ⟨w,rfl⟩ := Int.eq_ofNat_of_zero_le hw.1;have sw : w < 18446744073709551616 := by omega
  refine ⟨gd5 ⟨by decide,by decide⟩ ha ⟨Int.le_refl 0,by decide⟩ ⟨Int.le_refl 0,by decide⟩ hw.1 (fun h1 h2 => absurd h1 (by decide)),fun r => ?_⟩;simp only [pCode,encC,pK,List.cons_append,List.nil_append,List.append_assoc,pByte,Option.bind_some,Int.reduceEq,if_false,if_true,Int.toNat_natCast,pNum_grp sa,pB8_b8 sw]
theorem rt_2 (a b : Int) (ha : 0 ≤ a ∧ a < 34359738368) (hb : 0 ≤ b ∧ b < 34359738368) : RT ⟨2,0,0,0,0,a,b,0,0⟩ := by
  obtain ⟨a,rfl⟩ := Int.eq_ofNat_of_zero_le ha.1;have sa : a < 34359738368 := by omega
  obtain ⟨b,rfl⟩ := Int.eq_ofNat_of_zero_le hb.1;have sb : b < 34359738368 := by omega
  refine ⟨gd5 ⟨by decide,by decide⟩ ha hb ⟨Int.le_refl 0,by decide⟩ (Int.le_refl 0) (fun h1 h2 => absurd h1 (by decide)),fun r => ?_⟩;simp only [pCode,encC,pK,List.cons_append,List.nil_append,List.append_assoc,pByte,Option.bind_some,Int.reduceEq,if_false,if_true,Int.toNat_natCast,pNum_grp sa,pNum_grp sb]
theorem rt_3 (op ty a b c : Int) (ha : 0 ≤ a ∧ a < 34359738368) (hb : 0 ≤ b ∧ b < 34359738368) (hc : 0 ≤ c ∧ c < 34359738368) : RT ⟨3,op,ty,0,0,a,b,c,0⟩ := by
  obtain ⟨a,rfl⟩ := Int.eq_ofNat_of_zero_le ha.1;have sa : a < 34359738368 := by omega
  obtain ⟨b,rfl⟩ := Int.eq_ofNat_of_zero_le hb.1;have sb : b < 34359738368 := by omega
  obtain ⟨c,rfl⟩ := Int.eq_ofNat_of_zero_le hc.1;have sc : c < 34359738368 := by omega
  refine ⟨gd5 ⟨by decide,by decide⟩ ha hb hc (Int.le_refl 0) (fun h1 h2 => absurd h1 (by decide)),fun r => ?_⟩;simp only [pCode,encC,pK,List.cons_append,List.nil_append,List.append_assoc,pByte,Option.bind_some,Int.reduceEq,if_false,if_true,Int.toNat_natCast,pNum_grp sa,pNum_grp sb,pNum_grp sc]
theorem rt_4 (ty to a b : Int) (ha : 0 ≤ a ∧ a < 34359738368) (hb : 0 ≤ b ∧ b < 34359738368) : RT ⟨4,0,ty,to,0,a,b,0,0⟩ := by
  obtain ⟨a,rfl⟩ := Int.eq_ofNat_of_zero_le ha.1;have sa : a < 34359738368 := by omega
  obtain ⟨b,rfl⟩ := Int.eq_ofNat_of_zero_le hb.1;have sb : b < 34359738368 := by omega
  refine ⟨gd5 ⟨by decide,by decide⟩ ha hb ⟨Int.le_refl 0,by decide⟩ (Int.le_refl 0) (fun h1 h2 => absurd h1 (by decide)),fun r => ?_⟩;simp only [pCode,encC,pK,List.cons_append,List.nil_append,List.append_assoc,pByte,Option.bind_some,Int.reduceEq,if_false,if_true,Int.toNat_natCast,pNum_grp sa,pNum_grp sb]
theorem rt_5 (a b : Int) (ha : 0 ≤ a ∧ a < 34359738368) (hb : 0 ≤ b ∧ b < 34359738368) : RT ⟨5,0,0,0,0,a,b,0,0⟩ := by
  obtain ⟨a,rfl⟩ := Int.eq_ofNat_of_zero_le ha.1;have sa : a < 34359738368 := by omega
  obtain ⟨b,rfl⟩ := Int.eq_ofNat_of_zero_le hb.1;have sb : b < 34359738368 := by omega
  refine ⟨gd5 ⟨by decide,by decide⟩ ha hb ⟨Int.le_refl 0,by decide⟩ (Int.le_refl 0) (fun h1 h2 => absurd h1 (by decide)),fun r => ?_⟩;simp only [pCode,encC,pK,List.cons_append,List.nil_append,List.append_assoc,pByte,Option.bind_some,Int.reduceEq,if_false,if_true,Int.toNat_natCast,pNum_grp sa,pNum_grp sb]
theorem rt_6 (a b : Int) (ha : 0 ≤ a ∧ a < 34359738368) (hb : 0 ≤ b ∧ b < 34359738368) : RT ⟨6,0,0,0,0,a,b,0,0⟩ := by
  obtain ⟨a,rfl⟩ := Int.eq_ofNat_of_zero_le ha.1;have sa : a < 34359738368 := by omega
  obtain ⟨b,rfl⟩ := Int.eq_ofNat_of_zero_le hb.1;have sb : b < 34359738368 := by omega
  refine ⟨gd5 ⟨by decide,by decide⟩ ha hb ⟨Int.le_refl 0,by decide⟩ (Int.le_refl 0) (fun h1 h2 => absurd h1 (by decide)),fun r => ?_⟩;simp only [pCode,encC,pK,List.cons_append,List.nil_append,List.append_assoc,pByte,Option.bind_some,Int.reduceEq,if_false,if_true,Int.toNat_natCast,pNum_grp sa,pNum_grp sb]
theorem rt_7 (a b c bits : Int) (ha : 0 ≤ a ∧ a < 34359738368) (hb : 0 ≤ b ∧ b < 34359738368) (hc : 0 ≤ c ∧ c < 34359738368) (hw : 0 ≤ bits ∧ bits < 34359738368) : RT ⟨7,0,0,0,0,a,b,c,bits⟩ := by
  obtain ⟨a,rfl⟩ := Int.eq_ofNat_of_zero_le ha.1;have sa : a < 34359738368 := by omega
  obtain ⟨b,rfl⟩ := Int.eq_ofNat_of_zero_le hb.1;have sb : b < 34359738368 := by omega
  obtain ⟨c,rfl⟩ := Int.eq_ofNat_of_zero_le hc.1;have sc : c < 34359738368 := by omega
  obtain ⟨w,rfl⟩ := Int.eq_ofNat_of_zero_le hw.1;have sw : w < 34359738368 := by omega
  refine ⟨gd5 ⟨by decide,by decide⟩ ha hb hc hw.1 (fun _ _ => hw.2),fun r => ?_⟩;simp only [pCode,encC,pK,List.cons_append,List.nil_append,List.append_assoc,pByte,Option.bind_some,Int.reduceEq,if_false,if_true,Int.toNat_natCast,pNum_grp sa,pNum_grp sb,pNum_grp sc,pNum_grp sw,w_small sw]
theorem rt_8 (a b c bits : Int) (ha : 0 ≤ a ∧ a < 34359738368) (hb : 0 ≤ b ∧ b < 34359738368) (hc : 0 ≤ c ∧ c < 34359738368) (hw : 0 ≤ bits ∧ bits < 34359738368) : RT ⟨8,0,0,0,0,a,b,c,bits⟩ := by
  obtain ⟨a,rfl⟩ := Int.eq_ofNat_of_zero_le ha.1;have sa : a < 34359738368 := by omega
  obtain ⟨b,rfl⟩ := Int.eq_ofNat_of_zero_le hb.1;have sb : b < 34359738368 := by omega
  obtain ⟨c,rfl⟩ := Int.eq_ofNat_of_zero_le hc.1;have sc : c < 34359738368 := by omega
  obtain ⟨w,rfl⟩ := Int.eq_ofNat_of_zero_le hw.1;have sw : w < 34359738368 := by omega
  refine ⟨gd5 ⟨by decide,by decide⟩ ha hb hc hw.1 (fun _ _ => hw.2),fun r => ?_⟩;simp only [pCode,encC,pK,List.cons_append,List.nil_append,List.append_assoc,pByte,Option.bind_some,Int.reduceEq,if_false,if_true,Int.toNat_natCast,pNum_grp sa,pNum_grp sb,pNum_grp sc,pNum_grp sw,w_small sw]
theorem rt_9 (c bits : Int) (hc : 0 ≤ c ∧ c < 34359738368) (hw : 0 ≤ bits ∧ bits < 34359738368) : RT ⟨9,0,0,0,0,0,0,c,bits⟩ := by
  obtain ⟨c,rfl⟩ := Int.eq_ofNat_of_zero_le hc.1;have sc : c < 34359738368 := by omega
  obtain ⟨w,rfl⟩ := Int.eq_ofNat_of_zero_le hw.1;have sw : w < 34359738368 := by omega
  refine ⟨gd5 ⟨by decide,by decide⟩ ⟨Int.le_refl 0,by decide⟩ ⟨Int.le_refl 0,by decide⟩ hc hw.1 (fun _ _ => hw.2),fun r => ?_⟩;simp only [pCode,encC,pK,List.cons_append,List.nil_append,List.append_assoc,pByte,Option.bind_some,Int.reduceEq,if_false,if_true,Int.toNat_natCast,pNum_grp sc,pNum_grp sw,w_small sw]
theorem rt_10 (a b : Int) (ha : 0 ≤ a ∧ a < 34359738368) (hb : 0 ≤ b ∧ b < 34359738368) : RT ⟨10,0,0,0,0,a,b,0,0⟩ := by
  obtain ⟨a,rfl⟩ := Int.eq_ofNat_of_zero_le ha.1;have sa : a < 34359738368 := by omega
  obtain ⟨b,rfl⟩ := Int.eq_ofNat_of_zero_le hb.1;have sb : b < 34359738368 := by omega
  refine ⟨gd5 ⟨by decide,by decide⟩ ha hb ⟨Int.le_refl 0,by decide⟩ (Int.le_refl 0) (fun h1 h2 => absurd h2 (by decide)),fun r => ?_⟩;simp only [pCode,encC,pK,List.cons_append,List.nil_append,List.append_assoc,pByte,Option.bind_some,Int.reduceEq,if_false,if_true,Int.toNat_natCast,pNum_grp sa,pNum_grp sb]
theorem rt_11 (a b : Int) (ha : 0 ≤ a ∧ a < 34359738368) (hb : 0 ≤ b ∧ b < 34359738368) : RT ⟨11,0,0,0,0,a,b,0,0⟩ := by
  obtain ⟨a,rfl⟩ := Int.eq_ofNat_of_zero_le ha.1;have sa : a < 34359738368 := by omega
  obtain ⟨b,rfl⟩ := Int.eq_ofNat_of_zero_le hb.1;have sb : b < 34359738368 := by omega
  refine ⟨gd5 ⟨by decide,by decide⟩ ha hb ⟨Int.le_refl 0,by decide⟩ (Int.le_refl 0) (fun h1 h2 => absurd h2 (by decide)),fun r => ?_⟩;simp only [pCode,encC,pK,List.cons_append,List.nil_append,List.append_assoc,pByte,Option.bind_some,Int.reduceEq,if_false,if_true,Int.toNat_natCast,pNum_grp sa,pNum_grp sb]
theorem rt_12 (a : Int) (ha : 0 ≤ a ∧ a < 34359738368) : RT ⟨12,0,0,0,0,a,0,0,0⟩ := by
  obtain ⟨a,rfl⟩ := Int.eq_ofNat_of_zero_le ha.1;have sa : a < 34359738368 := by omega
  refine ⟨gd5 ⟨by decide,by decide⟩ ha ⟨Int.le_refl 0,by decide⟩ ⟨Int.le_refl 0,by decide⟩ (Int.le_refl 0) (fun h1 h2 => absurd h2 (by decide)),fun r => ?_⟩;simp only [pCode,encC,pK,List.cons_append,List.nil_append,List.append_assoc,pByte,Option.bind_some,Int.reduceEq,if_false,if_true,Int.toNat_natCast,pNum_grp sa]
theorem rt_13 (ty a : Int) (ha : 0 ≤ a ∧ a < 34359738368) : RT ⟨13,0,ty,0,0,a,0,0,0⟩ := by
  obtain ⟨a,rfl⟩ := Int.eq_ofNat_of_zero_le ha.1;have sa : a < 34359738368 := by omega
  refine ⟨gd5 ⟨by decide,by decide⟩ ha ⟨Int.le_refl 0,by decide⟩ ⟨Int.le_refl 0,by decide⟩ (Int.le_refl 0) (fun h1 h2 => absurd h2 (by decide)),fun r => ?_⟩;simp only [pCode,encC,pK,List.cons_append,List.nil_append,List.append_assoc,pByte,Option.bind_some,Int.reduceEq,if_false,if_true,Int.toNat_natCast,pNum_grp sa]
theorem rt_14 (a : Int) (ha : 0 ≤ a ∧ a < 34359738368) : RT ⟨14,0,0,0,0,a,0,0,0⟩ := by
  obtain ⟨a,rfl⟩ := Int.eq_ofNat_of_zero_le ha.1;have sa : a < 34359738368 := by omega
  refine ⟨gd5 ⟨by decide,by decide⟩ ha ⟨Int.le_refl 0,by decide⟩ ⟨Int.le_refl 0,by decide⟩ (Int.le_refl 0) (fun h1 h2 => absurd h2 (by decide)),fun r => ?_⟩;simp only [pCode,encC,pK,List.cons_append,List.nil_append,List.append_assoc,pByte,Option.bind_some,Int.reduceEq,if_false,if_true,Int.toNat_natCast,pNum_grp sa]
theorem rt_15 (a b c : Int) (ha : 0 ≤ a ∧ a < 34359738368) (hb : 0 ≤ b ∧ b < 34359738368) (hc : 0 ≤ c ∧ c < 34359738368) : RT ⟨15,0,0,0,0,a,b,c,0⟩ := by
  obtain ⟨a,rfl⟩ := Int.eq_ofNat_of_zero_le ha.1;have sa : a < 34359738368 := by omega
  obtain ⟨b,rfl⟩ := Int.eq_ofNat_of_zero_le hb.1;have sb : b < 34359738368 := by omega
  obtain ⟨c,rfl⟩ := Int.eq_ofNat_of_zero_le hc.1;have sc : c < 34359738368 := by omega
  refine ⟨gd5 ⟨by decide,by decide⟩ ha hb hc (Int.le_refl 0) (fun h1 h2 => absurd h2 (by decide)),fun r => ?_⟩;simp only [pCode,encC,pK,List.cons_append,List.nil_append,List.append_assoc,pByte,Option.bind_some,Int.reduceEq,if_false,if_true,Int.toNat_natCast,pNum_grp sa,pNum_grp sb,pNum_grp sc]
theorem rt_16 (a : Int) (ha : 0 ≤ a ∧ a < 34359738368) : RT ⟨16,0,0,0,0,a,0,0,0⟩ := by
  obtain ⟨a,rfl⟩ := Int.eq_ofNat_of_zero_le ha.1;have sa : a < 34359738368 := by omega
  refine ⟨gd5 ⟨by decide,by decide⟩ ha ⟨Int.le_refl 0,by decide⟩ ⟨Int.le_refl 0,by decide⟩ (Int.le_refl 0) (fun h1 h2 => absurd h2 (by decide)),fun r => ?_⟩;simp only [pCode,encC,pK,List.cons_append,List.nil_append,List.append_assoc,pByte,Option.bind_some,Int.reduceEq,if_false,if_true,Int.toNat_natCast,pNum_grp sa]
theorem rt_17 (tr : Int) : RT ⟨17,0,0,0,tr,0,0,0,0⟩ := by
  refine ⟨gd5 ⟨by decide,by decide⟩ ⟨Int.le_refl 0,by decide⟩ ⟨Int.le_refl 0,by decide⟩ ⟨Int.le_refl 0,by decide⟩ (Int.le_refl 0) (fun h1 h2 => absurd h2 (by decide)),fun r => ?_⟩;simp only [pCode,encC,pK,List.cons_append,List.nil_append,List.append_assoc,pByte,Option.bind_some,Int.reduceEq,if_false,if_true,Int.toNat_natCast]
theorem std_1 (op ty to tr a b c bits : Int) (u : T_Unit) (n : Int) (hu : Sm5 u n) (hb : 0 ≤ bits ∧ bits < 18446744073709551616) (h : F69 ⟨1,op,ty,to,tr,a,b,c,bits⟩ u n = some true) : RT ⟨1,op,ty,to,tr,a,b,c,bits⟩ := by
  rw [stv_1] at h;simp only [Option.some.injEq,Bool.and_eq_true] at h;obtain ⟨z_op,z_ty,z_to,z_tr,z_b,z_c,f_A⟩ := h;obtain rfl : op = 0 := by simpa using z_op
  obtain rfl : ty = 0 := by simpa using z_ty
  obtain rfl : to = 0 := by simpa using z_to
  obtain rfl : tr = 0 := by simpa using z_tr
  obtain rfl : b = 0 := by simpa using z_b
  obtain rfl : c = 0 := by simpa using z_c
  exact rt_1 a bits (sm_lt5 hu (sm8 f_A)) hb
theorem std_2 (op ty to tr a b c bits : Int) (u : T_Unit) (n : Int) (hu : Sm5 u n) (hb : 0 ≤ bits ∧ bits < 18446744073709551616) (h : F69 ⟨2,op,ty,to,tr,a,b,c,bits⟩ u n = some true) : RT ⟨2,op,ty,to,tr,a,b,c,bits⟩ := by
  rw [stv_2] at h;simp only [Option.some.injEq,Bool.and_eq_true] at h;obtain ⟨z_op,z_ty,z_to,z_tr,z_c,z_bits,f_A,f_B⟩ := h;obtain rfl : op = 0 := by simpa using z_op
  obtain rfl : ty = 0 := by simpa using z_ty
  obtain rfl : to = 0 := by simpa using z_to
  obtain rfl : tr = 0 := by simpa using z_tr
  obtain rfl : c = 0 := by simpa using z_c
  obtain rfl : bits = 0 := by simpa using z_bits
  exact rt_2 a b (sm_lt5 hu (sm8 f_A)) (sm_lt5 hu (sm8 f_B))
theorem std_3 (op ty to tr a b c bits : Int) (u : T_Unit) (n : Int) (hu : Sm5 u n) (hb : 0 ≤ bits ∧ bits < 18446744073709551616) (h : F69 ⟨3,op,ty,to,tr,a,b,c,bits⟩ u n = some true) : RT ⟨3,op,ty,to,tr,a,b,c,bits⟩ := by
  obtain ⟨r42,h42⟩ := of_some op ty;rw [stv_3 _ _ _ _ _ _ _ _ _ _ h42] at h;simp only [Option.some.injEq,Bool.and_eq_true] at h;obtain ⟨_,z_to,z_tr,z_bits,f_A,f_B,f_CC⟩ := h;obtain rfl : to = 0 := by simpa using z_to
  obtain rfl : tr = 0 := by simpa using z_tr
  obtain rfl : bits = 0 := by simpa using z_bits
  have hcc : sm u n c := by
    split at f_CC
    · exact sm0 f_CC
    · exact sm8 f_CC
  exact rt_3 op ty a b c (sm_lt5 hu (sm8 f_A)) (sm_lt5 hu (sm8 f_B)) (sm_lt5 hu hcc)
theorem std_4 (op ty to tr a b c bits : Int) (u : T_Unit) (n : Int) (hu : Sm5 u n) (hb : 0 ≤ bits ∧ bits < 18446744073709551616) (h : F69 ⟨4,op,ty,to,tr,a,b,c,bits⟩ u n = some true) : RT ⟨4,op,ty,to,tr,a,b,c,bits⟩ := by
  obtain ⟨v41,h41⟩ := tn_some to ty;rw [stv_4 _ _ _ _ _ _ _ _ _ _ h41] at h;simp only [Option.some.injEq,Bool.and_eq_true] at h;obtain ⟨_,z_op,z_tr,z_c,z_bits,f_A,f_B⟩ := h;obtain rfl : op = 0 := by simpa using z_op
  obtain rfl : tr = 0 := by simpa using z_tr
  obtain rfl : c = 0 := by simpa using z_c
  obtain rfl : bits = 0 := by simpa using z_bits
  exact rt_4 ty to a b (sm_lt5 hu (sm8 f_A)) (sm_lt5 hu (sm8 f_B))
theorem std_5 (op ty to tr a b c bits : Int) (u : T_Unit) (n : Int) (hu : Sm5 u n) (hb : 0 ≤ bits ∧ bits < 18446744073709551616) (h : F69 ⟨5,op,ty,to,tr,a,b,c,bits⟩ u n = some true) : RT ⟨5,op,ty,to,tr,a,b,c,bits⟩ := by
  rw [stv_5] at h;simp only [Option.some.injEq,Bool.and_eq_true] at h;obtain ⟨z_op,z_ty,z_to,z_tr,z_c,z_bits,f_A,f_Bf⟩ := h;obtain rfl : op = 0 := by simpa using z_op
  obtain rfl : ty = 0 := by simpa using z_ty
  obtain rfl : to = 0 := by simpa using z_to
  obtain rfl : tr = 0 := by simpa using z_tr
  obtain rfl : c = 0 := by simpa using z_c
  obtain rfl : bits = 0 := by simpa using z_bits
  exact rt_5 a b (sm_lt5 hu (sm8 f_A)) (sm_lt5 hu (smf f_Bf))
theorem std_6 (op ty to tr a b c bits : Int) (u : T_Unit) (n : Int) (hu : Sm5 u n) (hb : 0 ≤ bits ∧ bits < 18446744073709551616) (h : F69 ⟨6,op,ty,to,tr,a,b,c,bits⟩ u n = some true) : RT ⟨6,op,ty,to,tr,a,b,c,bits⟩ := by
  rw [stv_6] at h;simp only [Option.some.injEq,Bool.and_eq_true] at h;obtain ⟨z_op,z_ty,z_to,z_tr,z_c,z_bits,f_Af,f_B⟩ := h;obtain rfl : op = 0 := by simpa using z_op
  obtain rfl : ty = 0 := by simpa using z_ty
  obtain rfl : to = 0 := by simpa using z_to
  obtain rfl : tr = 0 := by simpa using z_tr
  obtain rfl : c = 0 := by simpa using z_c
  obtain rfl : bits = 0 := by simpa using z_bits
  exact rt_6 a b (sm_lt5 hu (smf f_Af)) (sm_lt5 hu (sm8 f_B))
theorem std_7 (op ty to tr a b c bits : Int) (u : T_Unit) (n : Int) (hu : Sm5 u n) (hb : 0 ≤ bits ∧ bits < 18446744073709551616) (h : F69 ⟨7,op,ty,to,tr,a,b,c,bits⟩ u n = some true) : RT ⟨7,op,ty,to,tr,a,b,c,bits⟩ := by
  rw [stv_7] at h;simp only [Option.some.injEq,Bool.and_eq_true] at h;obtain ⟨z_op,z_ty,z_to,z_tr,f_A,f_B,_,w1,w2,w3⟩ := h;obtain rfl : op = 0 := by simpa using z_op
  obtain rfl : ty = 0 := by simpa using z_ty
  obtain rfl : to = 0 := by simpa using z_to
  obtain rfl : tr = 0 := by simpa using z_tr
  have rr := row_lt5 hb.1 hu.f ⟨w1,w2,w3⟩;exact rt_7 a b c bits (sm_lt5 hu (sm8 f_A)) (sm_lt5 hu (sm8 f_B)) rr.1 ⟨hb.1,rr.2⟩
theorem std_8 (op ty to tr a b c bits : Int) (u : T_Unit) (n : Int) (hu : Sm5 u n) (hb : 0 ≤ bits ∧ bits < 18446744073709551616) (h : F69 ⟨8,op,ty,to,tr,a,b,c,bits⟩ u n = some true) : RT ⟨8,op,ty,to,tr,a,b,c,bits⟩ := by
  rw [stv_8] at h;simp only [Option.some.injEq,Bool.and_eq_true] at h;obtain ⟨z_op,z_ty,z_to,z_tr,f_A,f_B,_,w1,w2,w3⟩ := h;obtain rfl : op = 0 := by simpa using z_op
  obtain rfl : ty = 0 := by simpa using z_ty
  obtain rfl : to = 0 := by simpa using z_to
  obtain rfl : tr = 0 := by simpa using z_tr
  have rr := row_lt5 hb.1 hu.f ⟨w1,w2,w3⟩;exact rt_8 a b c bits (sm_lt5 hu (sm8 f_A)) (sm_lt5 hu (sm8 f_B)) rr.1 ⟨hb.1,rr.2⟩
theorem std_9 (op ty to tr a b c bits : Int) (u : T_Unit) (n : Int) (hu : Sm5 u n) (hb : 0 ≤ bits ∧ bits < 18446744073709551616) (h : F69 ⟨9,op,ty,to,tr,a,b,c,bits⟩ u n = some true) : RT ⟨9,op,ty,to,tr,a,b,c,bits⟩ := by
  rw [stv_9] at h;simp only [Option.some.injEq,Bool.and_eq_true] at h;obtain ⟨z_op,z_ty,z_to,z_tr,z_a,z_b,_,w1,w2,w3⟩ := h;obtain rfl : op = 0 := by simpa using z_op
  obtain rfl : ty = 0 := by simpa using z_ty
  obtain rfl : to = 0 := by simpa using z_to
  obtain rfl : tr = 0 := by simpa using z_tr
  obtain rfl : a = 0 := by simpa using z_a
  obtain rfl : b = 0 := by simpa using z_b
  have rr := row_lt5 hb.1 hu.f ⟨w1,w2,w3⟩;exact rt_9 c bits rr.1 ⟨hb.1,rr.2⟩
theorem std_10 (op ty to tr a b c bits : Int) (u : T_Unit) (n : Int) (hu : Sm5 u n) (hb : 0 ≤ bits ∧ bits < 18446744073709551616) (h : F69 ⟨10,op,ty,to,tr,a,b,c,bits⟩ u n = some true) : RT ⟨10,op,ty,to,tr,a,b,c,bits⟩ := by
  rw [stv_10] at h;simp only [Option.some.injEq,Bool.and_eq_true] at h;obtain ⟨z_op,z_ty,z_to,z_tr,z_c,z_bits,f_A,f_Bp⟩ := h;obtain rfl : op = 0 := by simpa using z_op
  obtain rfl : ty = 0 := by simpa using z_ty
  obtain rfl : to = 0 := by simpa using z_to
  obtain rfl : tr = 0 := by simpa using z_tr
  obtain rfl : c = 0 := by simpa using z_c
  obtain rfl : bits = 0 := by simpa using z_bits
  exact rt_10 a b (sm_lt5 hu (sm8 f_A)) (sm_lt5 hu (smp f_Bp))
theorem std_11 (op ty to tr a b c bits : Int) (u : T_Unit) (n : Int) (hu : Sm5 u n) (hb : 0 ≤ bits ∧ bits < 18446744073709551616) (h : F69 ⟨11,op,ty,to,tr,a,b,c,bits⟩ u n = some true) : RT ⟨11,op,ty,to,tr,a,b,c,bits⟩ := by
  rw [stv_11] at h;simp only [Option.some.injEq,Bool.and_eq_true] at h;obtain ⟨z_op,z_ty,z_to,z_tr,z_c,z_bits,f_A,f_B⟩ := h;obtain rfl : op = 0 := by simpa using z_op
  obtain rfl : ty = 0 := by simpa using z_ty
  obtain rfl : to = 0 := by simpa using z_to
  obtain rfl : tr = 0 := by simpa using z_tr
  obtain rfl : c = 0 := by simpa using z_c
  obtain rfl : bits = 0 := by simpa using z_bits
  exact rt_11 a b (sm_lt5 hu (sm8 f_A)) (sm_lt5 hu (sm8 f_B))
theorem std_12 (op ty to tr a b c bits : Int) (u : T_Unit) (n : Int) (hu : Sm5 u n) (hb : 0 ≤ bits ∧ bits < 18446744073709551616) (h : F69 ⟨12,op,ty,to,tr,a,b,c,bits⟩ u n = some true) : RT ⟨12,op,ty,to,tr,a,b,c,bits⟩ := by
  rw [stv_12] at h;simp only [Option.some.injEq,Bool.and_eq_true] at h;obtain ⟨z_op,z_ty,z_to,z_tr,z_b,z_c,z_bits,f_An⟩ := h;obtain rfl : op = 0 := by simpa using z_op
  obtain rfl : ty = 0 := by simpa using z_ty
  obtain rfl : to = 0 := by simpa using z_to
  obtain rfl : tr = 0 := by simpa using z_tr
  obtain rfl : b = 0 := by simpa using z_b
  obtain rfl : c = 0 := by simpa using z_c
  obtain rfl : bits = 0 := by simpa using z_bits
  exact rt_12 a (sm_lt5 hu (smn f_An))
theorem std_13 (op ty to tr a b c bits : Int) (u : T_Unit) (n : Int) (hu : Sm5 u n) (hb : 0 ≤ bits ∧ bits < 18446744073709551616) (h : F69 ⟨13,op,ty,to,tr,a,b,c,bits⟩ u n = some true) : RT ⟨13,op,ty,to,tr,a,b,c,bits⟩ := by
  rw [stv_13] at h;simp only [Option.some.injEq,Bool.and_eq_true] at h;obtain ⟨z_op,z_to,z_tr,z_b,z_c,z_bits,f_A,_,_⟩ := h;obtain rfl : op = 0 := by simpa using z_op
  obtain rfl : to = 0 := by simpa using z_to
  obtain rfl : tr = 0 := by simpa using z_tr
  obtain rfl : b = 0 := by simpa using z_b
  obtain rfl : c = 0 := by simpa using z_c
  obtain rfl : bits = 0 := by simpa using z_bits
  exact rt_13 ty a (sm_lt5 hu (sm8 f_A))
theorem std_14 (op ty to tr a b c bits : Int) (u : T_Unit) (n : Int) (hu : Sm5 u n) (hb : 0 ≤ bits ∧ bits < 18446744073709551616) (h : F69 ⟨14,op,ty,to,tr,a,b,c,bits⟩ u n = some true) : RT ⟨14,op,ty,to,tr,a,b,c,bits⟩ := by
  rw [stv_14] at h;simp only [Option.some.injEq,Bool.and_eq_true] at h;obtain ⟨z_op,z_ty,z_to,z_tr,z_b,z_c,z_bits,f_Ac⟩ := h;obtain rfl : op = 0 := by simpa using z_op
  obtain rfl : ty = 0 := by simpa using z_ty
  obtain rfl : to = 0 := by simpa using z_to
  obtain rfl : tr = 0 := by simpa using z_tr
  obtain rfl : b = 0 := by simpa using z_b
  obtain rfl : c = 0 := by simpa using z_c
  obtain rfl : bits = 0 := by simpa using z_bits
  exact rt_14 a (sm_lt5 hu (smc f_Ac))
theorem std_15 (op ty to tr a b c bits : Int) (u : T_Unit) (n : Int) (hu : Sm5 u n) (hb : 0 ≤ bits ∧ bits < 18446744073709551616) (h : F69 ⟨15,op,ty,to,tr,a,b,c,bits⟩ u n = some true) : RT ⟨15,op,ty,to,tr,a,b,c,bits⟩ := by
  rw [stv_15] at h;simp only [Option.some.injEq,Bool.and_eq_true] at h;obtain ⟨z_op,z_ty,z_to,z_tr,z_bits,f_A,f_Bc,f_Cc⟩ := h;obtain rfl : op = 0 := by simpa using z_op
  obtain rfl : ty = 0 := by simpa using z_ty
  obtain rfl : to = 0 := by simpa using z_to
  obtain rfl : tr = 0 := by simpa using z_tr
  obtain rfl : bits = 0 := by simpa using z_bits
  exact rt_15 a b c (sm_lt5 hu (sm8 f_A)) (sm_lt5 hu (smc f_Bc)) (sm_lt5 hu (smc f_Cc))
theorem std_16 (op ty to tr a b c bits : Int) (u : T_Unit) (n : Int) (hu : Sm5 u n) (hb : 0 ≤ bits ∧ bits < 18446744073709551616) (h : F69 ⟨16,op,ty,to,tr,a,b,c,bits⟩ u n = some true) : RT ⟨16,op,ty,to,tr,a,b,c,bits⟩ := by
  rw [stv_16] at h;simp only [Option.some.injEq,Bool.and_eq_true] at h;obtain ⟨z_op,z_ty,z_to,z_tr,z_b,z_c,z_bits,f_A⟩ := h;obtain rfl : op = 0 := by simpa using z_op
  obtain rfl : ty = 0 := by simpa using z_ty
  obtain rfl : to = 0 := by simpa using z_to
  obtain rfl : tr = 0 := by simpa using z_tr
  obtain rfl : b = 0 := by simpa using z_b
  obtain rfl : c = 0 := by simpa using z_c
  obtain rfl : bits = 0 := by simpa using z_bits
  exact rt_16 a (sm_lt5 hu (sm8 f_A))
theorem std_17 (op ty to tr a b c bits : Int) (u : T_Unit) (n : Int) (hu : Sm5 u n) (hb : 0 ≤ bits ∧ bits < 18446744073709551616) (h : F69 ⟨17,op,ty,to,tr,a,b,c,bits⟩ u n = some true) : RT ⟨17,op,ty,to,tr,a,b,c,bits⟩ := by
  rw [stv_17] at h;simp only [Option.some.injEq,Bool.and_eq_true] at h;obtain ⟨z_op,z_ty,z_to,z_a,z_b,z_c,z_bits,_,_⟩ := h;obtain rfl : op = 0 := by simpa using z_op
  obtain rfl : ty = 0 := by simpa using z_ty
  obtain rfl : to = 0 := by simpa using z_to
  obtain rfl : a = 0 := by simpa using z_a
  obtain rfl : b = 0 := by simpa using z_b
  obtain rfl : c = 0 := by simpa using z_c
  obtain rfl : bits = 0 := by simpa using z_bits
  exact rt_17 tr
theorem code_rt (x : T_Code) (u : T_Unit) (n : Int) (hu : Sm5 u n) (hb : 0 ≤ x.fBits ∧ x.fBits < 18446744073709551616) (h : F69 x u n = some true) : RT x := by
  by_cases hk : 1 ≤ x.fKind ∧ x.fKind ≤ 17
  case neg =>
    unfold F69 at h;rw [F82_is,decide_eq_false hk] at h;cases h
  obtain ⟨k,op,ty,to,tr,a,b,c,bits⟩ := x;simp only at hk hb;have hk' : k = 1 ∨ k = 2 ∨ k = 3 ∨ k = 4 ∨ k = 5 ∨ k = 6 ∨ k = 7 ∨ k = 8 ∨ k = 9 ∨ k = 10 ∨ k = 11 ∨ k = 12 ∨ k = 13 ∨ k = 14 ∨ k = 15 ∨ k = 16 ∨ k = 17 := by omega
  rcases hk' with rfl | rfl | rfl | rfl | rfl | rfl | rfl | rfl | rfl | rfl | rfl | rfl | rfl | rfl | rfl | rfl | rfl
  · exact std_1 op ty to tr a b c bits u n hu hb h
  · exact std_2 op ty to tr a b c bits u n hu hb h
  · exact std_3 op ty to tr a b c bits u n hu hb h
  · exact std_4 op ty to tr a b c bits u n hu hb h
  · exact std_5 op ty to tr a b c bits u n hu hb h
  · exact std_6 op ty to tr a b c bits u n hu hb h
  · exact std_7 op ty to tr a b c bits u n hu hb h
  · exact std_8 op ty to tr a b c bits u n hu hb h
  · exact std_9 op ty to tr a b c bits u n hu hb h
  · exact std_10 op ty to tr a b c bits u n hu hb h
  · exact std_11 op ty to tr a b c bits u n hu hb h
  · exact std_12 op ty to tr a b c bits u n hu hb h
  · exact std_13 op ty to tr a b c bits u n hu hb h
  · exact std_14 op ty to tr a b c bits u n hu hb h
  · exact std_15 op ty to tr a b c bits u n hu hb h
  · exact std_16 op ty to tr a b c bits u n hu hb h
  · exact std_17 op ty to tr a b c bits u n hu hb h
end Go.Eng.Cop
namespace Go.Eng.Cop
open Go Go.Eng
set_option linter.unusedSectionVars false
set_option linter.unusedVariables false
set_option linter.unusedSimpArgs false
set_option maxRecDepth 20000
theorem F69_tot (x : T_Code) (u : T_Unit) (n : Int) : ∃ b,F69 x u n = some b := by
  by_cases hk : 1 ≤ x.fKind ∧ x.fKind ≤ 17
  case neg =>
    unfold F69;rw [F82_is,decide_eq_false hk];exact ⟨_,rfl⟩
  obtain ⟨k,op,ty,to,tr,a,b,c,bits⟩ := x;simp only at hk;have hk' : k = 1 ∨ k = 2 ∨ k = 3 ∨ k = 4 ∨ k = 5 ∨ k = 6 ∨ k = 7 ∨ k = 8 ∨ k = 9 ∨ k = 10 ∨ k = 11 ∨ k = 12 ∨ k = 13 ∨ k = 14 ∨ k = 15 ∨ k = 16 ∨ k = 17 := by omega
  obtain ⟨r42,h42⟩ := of_some op ty;obtain ⟨v41,h41⟩ := tn_some to ty;rcases hk' with rfl | rfl | rfl | rfl | rfl | rfl | rfl | rfl | rfl | rfl | rfl | rfl | rfl | rfl | rfl | rfl | rfl
  · exact ⟨_,stv_1 op ty to tr a b c bits u n⟩
  · exact ⟨_,stv_2 op ty to tr a b c bits u n⟩
  · exact ⟨_,stv_3 op ty to tr a b c bits u n h42⟩
  · exact ⟨_,stv_4 op ty to tr a b c bits u n h41⟩
  · exact ⟨_,stv_5 op ty to tr a b c bits u n⟩
  · exact ⟨_,stv_6 op ty to tr a b c bits u n⟩
  · exact ⟨_,stv_7 op ty to tr a b c bits u n⟩
  · exact ⟨_,stv_8 op ty to tr a b c bits u n⟩
  · exact ⟨_,stv_9 op ty to tr a b c bits u n⟩
  · exact ⟨_,stv_10 op ty to tr a b c bits u n⟩
  · exact ⟨_,stv_11 op ty to tr a b c bits u n⟩
  · exact ⟨_,stv_12 op ty to tr a b c bits u n⟩
  · exact ⟨_,stv_13 op ty to tr a b c bits u n⟩
  · exact ⟨_,stv_14 op ty to tr a b c bits u n⟩
  · exact ⟨_,stv_15 op ty to tr a b c bits u n⟩
  · exact ⟨_,stv_16 op ty to tr a b c bits u n⟩
  · exact ⟨_,stv_17 op ty to tr a b c bits u n⟩
def sB (u : T_Unit) (n : Int) (x : T_Code) : Bool := match F69 x u n with | some b => b | none => false
theorem sB_is (u : T_Unit) (n : Int) (x : T_Code) : F69 x u n = some (sB u n x) := by
  obtain ⟨b,h⟩ := F69_tot x u n;unfold sB; rw [h]
theorem right_b (u : T_Unit) (n : Int) (hc : Sz u.fCode) : ∃ b,F44 u n = some b ∧ (b = true → u.fParams.length ≤ 8 ∧ 0 ≤ u.fFrame ∧ u.fFrame ≤ 1073741824 ∧ ∀ x ∈ u.fCode,F69 x u n = some true) := by
  unfold Sz at hc;unfold F44
  by_cases h8 : ((List.length u.fParams : Nat) : Int) > 8
  · rw [decide_eq_true h8]; exact ⟨false,rfl,fun h => by cases h⟩
  rw [decide_eq_false h8,F68_is];simp only [Bool.false_eq_true,if_false,Option.bind_some];cases hty : ty u.fResult
  case false => exact ⟨false,rfl,fun h => by cases h⟩
  by_cases h0 : u.fFrame < 0
  · rw [decide_eq_true h0]; exact ⟨false,rfl,fun h => by cases h⟩
  by_cases h1 : u.fFrame > 1073741824
  · rw [decide_eq_true h1,decide_eq_false h0]; exact ⟨false,rfl,fun h => by cases h⟩
  rw [decide_eq_false h0,decide_eq_false h1];cases hl0 : (((List.length u.fCode : Nat) : Int) == 0)
  case true => exact ⟨false,rfl,fun h => by cases h⟩
  simp only [Bool.false_eq_true,if_false,if_true];have e1 : iter (fun s : (Int) => F44_1_b u n s) FUEL (0 : Int) = some (if u.fParams.all ty = true then Out.go () else Out.ret false) := by
    rw [← allI_const ty 0];refine loop_all (fun _ t => ty t) (by omega) (fun i a h => ?_) ?_
    · have := lt_of h;simp only [F44_1_b,lt_dec this,if_true,idx_some h,Option.bind_some,F68_is,wnat (show i ≤ 4611686018427387904 by omega)];cases ty a <;> rfl
    · simp only [F44_1_b,ge_dec,Bool.false_eq_true,if_false]
  have e3 : iter (fun s : (Int) => F44_2_b u n s) FUEL (0 : Int) = some (if u.fCode.all (sB u n) = true then Out.go () else Out.ret false) := by
    rw [← allI_const (sB u n) 0];refine loop_all (fun _ x => sB u n x) (by omega) (fun i a h => ?_) ?_
    · have := lt_of h;simp only [F44_2_b,lt_dec this,if_true,idx_some h,Option.bind_some,sB_is u n a,wnat (show i ≤ 4611686018427387904 by omega)];cases sB u n a <;> rfl
    · simp only [F44_2_b,ge_dec,Bool.false_eq_true,if_false]
  rw [e1,e3];cases hp : u.fParams.all ty
  case false => exact ⟨false,rfl,fun h => by cases h⟩
  cases hal : u.fCode.all (sB u n)
  case false => exact ⟨false,rfl,fun h => by cases h⟩
  simp only [if_true,Option.bind_some];have hpos : 0 < u.fCode.length := by
    have : ¬ ((List.length u.fCode : Nat) : Int) = 0 := by simpa using hl0
    omega
  have hw : IntKind.i64.wrap (((List.length u.fCode : Nat) : Int) - 1) = ((u.fCode.length - 1 : Nat) : Int) := by
    rw [wrap64_in (by omega) (by omega)]; omega
  have hx : u.fCode[u.fCode.length - 1]? = some (u.fCode[u.fCode.length - 1]'(by omega)) := List.getElem?_eq_getElem (by omega);rw [hw,idx_some hx];refine ⟨_,rfl,fun _ => ⟨by omega,by omega,by omega,fun x hx => ?_⟩⟩;rw [sB_is u n x,List.all_eq_true.1 hal x hx]
def rB (n : Int) (u : T_Unit) : Bool := match F44 u n with | some b => b | none => false
theorem check_b (l : List T_Unit) (hc : ∀ u ∈ l,Sz u.fCode) : ∃ e j : Int,F20 l = some (e,j) ∧ (e = 0 → l.length ≤ 64 ∧ ∀ u ∈ l,F44 u ((List.length l : Nat) : Int) = some true) := by
  unfold F20
  by_cases h64 : ((List.length l : Nat) : Int) > 64
  · rw [decide_eq_true h64]; exact ⟨3,0,rfl,fun h => by cases h⟩
  rw [decide_eq_false h64];simp only [Bool.false_eq_true,if_false];have hr : ∀ u ∈ l,F44 u ((List.length l : Nat) : Int) = some (rB ((List.length l : Nat) : Int) u) := by
    intro u hu;obtain ⟨b,h1,_⟩ := right_b u ((List.length l : Nat) : Int) (hc u hu);have e : rB ((List.length l : Nat) : Int) u = b := by unfold rB; rw [h1]
    rw [e]; exact h1
  have e1 : iter (fun s : (Int) => F20_1_b l s) FUEL (0 : Int) = some (outF () (first (fun i g => if rB ((List.length l : Nat) : Int) g then none else some ((4 : Int),((i : Nat) : Int))) 0 l)) := by
    refine loop_first (l := l) (fun i g => if rB ((List.length l : Nat) : Int) g then none else some ((4 : Int),(i : Int))) (by omega) (fun i a h => ?_) ?_
    · have := lt_of h;simp only [F20_1_b,lt_dec this,if_true,idx_some h,Option.bind_some,(hr a (List.mem_of_getElem? h)),wnat (show i ≤ 4611686018427387904 by omega)];cases rB ((List.length l : Nat) : Int) a <;> rfl
    · simp only [F20_1_b,ge_dec,Bool.false_eq_true,if_false]
  rw [e1];have all : ∀ (m : List T_Unit) (i : Nat),(first (fun i g => if rB ((List.length l : Nat) : Int) g then none else some ((4 : Int),((i : Nat) : Int))) i m = none ∧ ∀ u ∈ m,rB ((List.length l : Nat) : Int) u = true) ∨ ∃ k : Nat,first (fun i g => if rB ((List.length l : Nat) : Int) g then none else some ((4 : Int),((i : Nat) : Int))) i m = some ((4 : Int),(k : Int)) := by
    intro m
    induction m with
    | nil => intro i; exact .inl ⟨rfl,fun u h => by cases h⟩
    | cons a m ih =>
      intro i;rw [first];cases ha : rB ((List.length l : Nat) : Int) a
      · exact .inr ⟨i,rfl⟩
      · rcases ih (i + 1) with ⟨h1,h2⟩ | h
        · refine .inl ⟨h1,fun u hu => ?_⟩;cases hu with
          | head => exact ha
          | tail _ hu => exact h2 u hu
        · exact .inr h
  rcases all l 0 with ⟨h1,h2⟩ | ⟨k,h1⟩
  · rw [h1];exact ⟨0,0,rfl,fun _ => ⟨by omega,fun u hu => by rw [hr u hu,h2 u hu]⟩⟩
  · rw [h1];exact ⟨4,k,rfl,fun h => by cases h⟩
structure RK (u : T_Unit) : Prop where
  n : u.fName.length ≤ 10000000
  p : u.fParams.length ≤ 10000000
  c : u.fCode.length ≤ 10000000
  b : ∀ x ∈ u.fCode,0 ≤ x.fBits ∧ x.fBits < 18446744073709551616
structure GR (u : T_Unit) : Prop where
  g : GU u
  n : u.fName.length ≤ 10000000
  p : u.fParams.length ≤ 8
  c : u.fCode.length ≤ 10000000
  f : u.fFrame ≤ 1073741824
  x : ∀ x ∈ u.fCode,RT x
theorem encU_len2 {u : T_Unit} (h : GR u) : (encU u).length ≤ 700000000 := by
  have g : ∀ n,(grp n).length ≤ 9 := fun n => grpF_len 8 n
  have h1 := g u.fName.length;have h2 := g u.fParams.length;have h3 := g u.fFrame.toNat;have h4 := g u.fCode.length;have h5 := flat_le encC 64 encC_len u.fCode;obtain ⟨_,a,b,c,_,_⟩ := h;simp only [encU,List.length_append,List.length_map,List.length_cons,List.length_nil]
  omega
theorem putL_len2 {l : List T_Unit} (hl : l.length ≤ 64) (h : ∀ u ∈ l,GR u) : (putL l).length ≤ M0 := by
  have g : ∀ n,(grp n).length ≤ 9 := fun n => grpF_len 8 n
  have h1 := g l.length;have h2 : (l.flatMap encU).length ≤ l.length * 700000000 := by
    clear hl h1
    induction l with
    | nil => simp
    | cons u l ih =>
      have a := encU_len2 (h u (by simp));have b := ih (fun v hv => h v (by simp [hv]));rw [List.flatMap_cons,List.length_append,List.length_cons,Nat.succ_mul]; omega
  simp only [putL,List.length_append];show _ ≤ 140737488355328
  omega
theorem put_b (l : List T_Unit) (h : ∀ u ∈ l,RK u) : ∃ e j : Int,F20 l = some (e,j) ∧ F12 l = some (if e = 0 then putL l else [],e) ∧ (e = 0 → l.length ≤ 64 ∧ ∀ u ∈ l,GR u) := by
  have hsz : ∀ u ∈ l,Sz u.fCode := fun u hu => by have := (h u hu).c; unfold Sz; omega
  obtain ⟨e,j,h1,h2⟩ := check_b l hsz;refine ⟨e,j,h1,?_⟩
  by_cases he : e = 0
  · subst he;obtain ⟨q1,q2⟩ := h2 rfl;have hg : ∀ u ∈ l,GR u := by
      intro u hu;obtain ⟨b,k1,k2⟩ := right_b u ((List.length l : Nat) : Int) (hsz u hu);rw [q2 u hu] at k1; cases k1;obtain ⟨p1,p2,p3,p4⟩ := k2 rfl;obtain ⟨a1,a2,a3,a4⟩ := h u hu;have hs : Sm5 u ((List.length l : Nat) : Int) := ⟨⟨p2,p3⟩,by omega,by omega,by omega⟩;have rt : ∀ x ∈ u.fCode,RT x := fun x hx => code_rt x u _ hs (a4 x hx) (p4 x hx)
      exact ⟨⟨by omega,by omega,by omega,⟨p2,by omega⟩,fun x hx => (rt x hx).1⟩,a1,p1,a3,p3,rt⟩
    rw [if_pos rfl];exact ⟨F12_ok l h1 (by omega) (fun u hu => (hg u hu).g) (putL_len2 q1 hg),fun _ => ⟨q1,hg⟩⟩
  · rw [if_neg he];exact ⟨F12_no l h1 he,fun h => absurd h he⟩
theorem pTake_app (l r : List Int) : pTake l.length (l ++ r) = some (l,r) := by
  unfold pTake;rw [if_pos (by simp)]
  simp
theorem rep_rt {α : Type} {P : List Int → Option (α × List Int)} {e : α → List Int} : ∀ (l : List α),(∀ a ∈ l,∀ r,P (e a ++ r) = some (a,r)) → ∀ r,pRep P l.length (l.flatMap e ++ r) = some (l,r)
  | [],_,r => rfl
  | a :: l,h,r => by
    rw [List.flatMap_cons,List.append_assoc,List.length_cons,pRep,h a (by simp)];simp only [Option.bind_some,rep_rt l (fun b hb => h b (by simp [hb])) r]
theorem name_rt (l : List UInt8) : (l.map (fun c : UInt8 => (c.toNat : Int))).map toByte = l := by
  rw [List.map_map]
  conv => rhs; rw [← List.map_id l]
  refine List.map_congr_left fun c _ => ?_
  simp [toByte]
theorem unit_rt {u : T_Unit} (h : GR u) (r : List Int) : pUnit (encU u ++ r) = some (u,r) := by
  obtain ⟨g,n,p,c,f,x⟩ := h;obtain ⟨fr,hf⟩ := Int.eq_ofNat_of_zero_le g.f.1;have hn : (u.fName.map (fun c : UInt8 => (c.toNat : Int))).length = u.fName.length := by simp
  have t1 : ∀ r,pTake u.fName.length (u.fName.map (fun c : UInt8 => (c.toNat : Int)) ++ r) = some (u.fName.map (fun c : UInt8 => (c.toNat : Int)),r) := fun r => by rw [← hn]; exact pTake_app _ r
  have t2 := rep_rt (P := pCode) (e := encC) u.fCode (fun a ha r => (x a ha).2 r);unfold pUnit encU;rw [hf];simp only [List.append_assoc,pNum_grp (show u.fName.length < 34359738368 by omega),Option.bind_some,Int.toNat_natCast,t1,pNum_grp (show u.fParams.length < 34359738368 by omega),pTake_app,List.cons_append,List.nil_append,pByte,pNum_grp (show fr < 34359738368 by omega),pNum_grp (show u.fCode.length < 34359738368 by omega),t2,name_rt];rw [← hf]
theorem units_rt {l : List T_Unit} (hl : l.length ≤ 64) (h : ∀ u ∈ l,GR u) (r : List Int) : pUnits (putL l ++ r) = some (l,r) := by
  unfold pUnits putL;rw [List.append_assoc,pNum_grp (by omega)];simp only [Option.bind_some,Int.toNat_natCast];exact rep_rt (P := pUnit) (e := encU) l (fun u hu r => unit_rt (h u hu) r) r
def Exp {α : Type} (P : List Int → Option (α × List Int)) : Prop := ∀ r x t s,P r = some (x,t) → P (r ++ s) = some (x,t ++ s)
theorem Exp.bind {α β : Type} {P : List Int → Option (α × List Int)} {Q : α → List Int → Option (β × List Int)} (hP : Exp P) (hQ : ∀ a,Exp (Q a)) : Exp (fun r => (P r).bind fun q => Q q.1 q.2) := by
  intro r x t s h;simp only [Option.bind_eq_some_iff] at h ⊢;obtain ⟨⟨a,r1⟩,h1,h2⟩ := h;exact ⟨(a,r1 ++ s),hP r a r1 s h1,hQ a r1 x t s h2⟩
theorem exp_ret {α : Type} (a : α) : Exp (fun r => some (a,r)) := fun r x t s h => by cases h; rfl
theorem pByte_exp : Exp pByte := by
  intro r x t s h;cases r with
  | nil => cases h
  | cons c r => cases h; rfl
theorem pNumF_exp : ∀ k s a,Exp (pNumF k s a)
  | 0,s,a,r,x,t,z,h => by simp [pNumF] at h
  | k + 1,s,a,[],x,t,z,h => by simp [pNumF] at h
  | k + 1,s,a,c :: r,x,t,z,h => by
    rw [List.cons_append];unfold pNumF at h ⊢
    by_cases hc : c < 128
    · rw [if_pos hc] at h ⊢; cases h; rfl
    · rw [if_neg hc] at h ⊢; exact pNumF_exp k _ _ r x t z h
theorem pNum_exp : Exp pNum := pNumF_exp 5 0 0
theorem pTake_exp (n : Nat) : Exp (pTake n) := by
  intro r x t s h;unfold pTake at h ⊢
  split at h
  · rename_i hn
    cases h;rw [if_pos (by simp; omega),List.take_append_of_le_length hn,List.drop_append_of_le_length hn]
  · cases h
theorem pB8F_exp : ∀ k i a,Exp (pB8F k i a)
  | 0,i,a,r,x,t,z,h => by cases h; rfl
  | k + 1,i,a,[],x,t,z,h => by simp [pB8F] at h
  | k + 1,i,a,c :: r,x,t,z,h => by
    rw [List.cons_append];exact pB8F_exp k (i + 1) _ r x t z h
theorem pRep_exp {α : Type} {P : List Int → Option (α × List Int)} (hP : Exp P) : ∀ n,Exp (pRep P n)
  | 0,r,x,t,s,h => by cases h; rfl
  | n + 1,r,x,t,s,h => by
    rw [pRep] at h ⊢;simp only [Option.bind_eq_some_iff] at h ⊢;obtain ⟨⟨a,r1⟩,h1,⟨b,r2⟩,h2,h3⟩ := h;simp only [Option.some.injEq,Prod.mk.injEq] at h3;obtain ⟨rfl,rfl⟩ := h3;exact ⟨(a,r1 ++ s),hP r a r1 s h1,(b,r2 ++ s),pRep_exp hP n r1 b r2 s h2,rfl⟩
theorem pK_exp (k : Int) : Exp (pK k) := by
  by_cases hk : 1 ≤ k ∧ k ≤ 17
  case neg => intro r x t s h; rw [pK_no hk] at h; cases h
  have hk' : k = 1 ∨ k = 2 ∨ k = 3 ∨ k = 4 ∨ k = 5 ∨ k = 6 ∨ k = 7 ∨ k = 8 ∨ k = 9 ∨ k = 10 ∨ k = 11 ∨ k = 12 ∨ k = 13 ∨ k = 14 ∨ k = 15 ∨ k = 16 ∨ k = 17 := by omega
  rcases hk' with rfl | rfl | rfl | rfl | rfl | rfl | rfl | rfl | rfl | rfl | rfl | rfl | rfl | rfl | rfl | rfl | rfl
  · exact (show Exp (fun r => (pNum r).bind fun q0 => (pB8 q0.2).bind fun q1 => some ((⟨(1 : Int),(0 : Int),(0 : Int),(0 : Int),(0 : Int),q0.1,(0 : Int),(0 : Int),q1.1⟩ : T_Code),q1.2)) from (Exp.bind (Q := fun v0 => fun r => (pB8 r).bind fun q1 => some ((⟨(1 : Int),(0 : Int),(0 : Int),(0 : Int),(0 : Int),v0,(0 : Int),(0 : Int),q1.1⟩ : T_Code),q1.2)) pNum_exp fun v0 => (Exp.bind (Q := fun v1 => fun r => some ((⟨(1 : Int),(0 : Int),(0 : Int),(0 : Int),(0 : Int),v0,(0 : Int),(0 : Int),v1⟩ : T_Code),r)) (pB8F_exp 8 0 0) fun v1 => (exp_ret _))))
  · exact (show Exp (fun r => (pNum r).bind fun q0 => (pNum q0.2).bind fun q1 => some ((⟨(2 : Int),(0 : Int),(0 : Int),(0 : Int),(0 : Int),q0.1,q1.1,(0 : Int),(0 : Int)⟩ : T_Code),q1.2)) from (Exp.bind (Q := fun v0 => fun r => (pNum r).bind fun q1 => some ((⟨(2 : Int),(0 : Int),(0 : Int),(0 : Int),(0 : Int),v0,q1.1,(0 : Int),(0 : Int)⟩ : T_Code),q1.2)) pNum_exp fun v0 => (Exp.bind (Q := fun v1 => fun r => some ((⟨(2 : Int),(0 : Int),(0 : Int),(0 : Int),(0 : Int),v0,v1,(0 : Int),(0 : Int)⟩ : T_Code),r)) pNum_exp fun v1 => (exp_ret _))))
  · exact (show Exp (fun r => (pByte r).bind fun q0 => (pByte q0.2).bind fun q1 => (pNum q1.2).bind fun q2 => (pNum q2.2).bind fun q3 => (pNum q3.2).bind fun q4 => some ((⟨(3 : Int),q0.1,q1.1,(0 : Int),(0 : Int),q2.1,q3.1,q4.1,(0 : Int)⟩ : T_Code),q4.2)) from (Exp.bind (Q := fun v0 => fun r => (pByte r).bind fun q1 => (pNum q1.2).bind fun q2 => (pNum q2.2).bind fun q3 => (pNum q3.2).bind fun q4 => some ((⟨(3 : Int),v0,q1.1,(0 : Int),(0 : Int),q2.1,q3.1,q4.1,(0 : Int)⟩ : T_Code),q4.2)) pByte_exp fun v0 => (Exp.bind (Q := fun v1 => fun r => (pNum r).bind fun q2 => (pNum q2.2).bind fun q3 => (pNum q3.2).bind fun q4 => some ((⟨(3 : Int),v0,v1,(0 : Int),(0 : Int),q2.1,q3.1,q4.1,(0 : Int)⟩ : T_Code),q4.2)) pByte_exp fun v1 => (Exp.bind (Q := fun v2 => fun r => (pNum r).bind fun q3 => (pNum q3.2).bind fun q4 => some ((⟨(3 : Int),v0,v1,(0 : Int),(0 : Int),v2,q3.1,q4.1,(0 : Int)⟩ : T_Code),q4.2)) pNum_exp fun v2 => (Exp.bind (Q := fun v3 => fun r => (pNum r).bind fun q4 => some ((⟨(3 : Int),v0,v1,(0 : Int),(0 : Int),v2,v3,q4.1,(0 : Int)⟩ : T_Code),q4.2)) pNum_exp fun v3 => (Exp.bind (Q := fun v4 => fun r => some ((⟨(3 : Int),v0,v1,(0 : Int),(0 : Int),v2,v3,v4,(0 : Int)⟩ : T_Code),r)) pNum_exp fun v4 => (exp_ret _)))))))
  · exact (show Exp (fun r => (pByte r).bind fun q0 => (pByte q0.2).bind fun q1 => (pNum q1.2).bind fun q2 => (pNum q2.2).bind fun q3 => some ((⟨(4 : Int),(0 : Int),q0.1,q1.1,(0 : Int),q2.1,q3.1,(0 : Int),(0 : Int)⟩ : T_Code),q3.2)) from (Exp.bind (Q := fun v0 => fun r => (pByte r).bind fun q1 => (pNum q1.2).bind fun q2 => (pNum q2.2).bind fun q3 => some ((⟨(4 : Int),(0 : Int),v0,q1.1,(0 : Int),q2.1,q3.1,(0 : Int),(0 : Int)⟩ : T_Code),q3.2)) pByte_exp fun v0 => (Exp.bind (Q := fun v1 => fun r => (pNum r).bind fun q2 => (pNum q2.2).bind fun q3 => some ((⟨(4 : Int),(0 : Int),v0,v1,(0 : Int),q2.1,q3.1,(0 : Int),(0 : Int)⟩ : T_Code),q3.2)) pByte_exp fun v1 => (Exp.bind (Q := fun v2 => fun r => (pNum r).bind fun q3 => some ((⟨(4 : Int),(0 : Int),v0,v1,(0 : Int),v2,q3.1,(0 : Int),(0 : Int)⟩ : T_Code),q3.2)) pNum_exp fun v2 => (Exp.bind (Q := fun v3 => fun r => some ((⟨(4 : Int),(0 : Int),v0,v1,(0 : Int),v2,v3,(0 : Int),(0 : Int)⟩ : T_Code),r)) pNum_exp fun v3 => (exp_ret _))))))
  · exact (show Exp (fun r => (pNum r).bind fun q0 => (pNum q0.2).bind fun q1 => some ((⟨(5 : Int),(0 : Int),(0 : Int),(0 : Int),(0 : Int),q0.1,q1.1,(0 : Int),(0 : Int)⟩ : T_Code),q1.2)) from (Exp.bind (Q := fun v0 => fun r => (pNum r).bind fun q1 => some ((⟨(5 : Int),(0 : Int),(0 : Int),(0 : Int),(0 : Int),v0,q1.1,(0 : Int),(0 : Int)⟩ : T_Code),q1.2)) pNum_exp fun v0 => (Exp.bind (Q := fun v1 => fun r => some ((⟨(5 : Int),(0 : Int),(0 : Int),(0 : Int),(0 : Int),v0,v1,(0 : Int),(0 : Int)⟩ : T_Code),r)) pNum_exp fun v1 => (exp_ret _))))
  · exact (show Exp (fun r => (pNum r).bind fun q0 => (pNum q0.2).bind fun q1 => some ((⟨(6 : Int),(0 : Int),(0 : Int),(0 : Int),(0 : Int),q0.1,q1.1,(0 : Int),(0 : Int)⟩ : T_Code),q1.2)) from (Exp.bind (Q := fun v0 => fun r => (pNum r).bind fun q1 => some ((⟨(6 : Int),(0 : Int),(0 : Int),(0 : Int),(0 : Int),v0,q1.1,(0 : Int),(0 : Int)⟩ : T_Code),q1.2)) pNum_exp fun v0 => (Exp.bind (Q := fun v1 => fun r => some ((⟨(6 : Int),(0 : Int),(0 : Int),(0 : Int),(0 : Int),v0,v1,(0 : Int),(0 : Int)⟩ : T_Code),r)) pNum_exp fun v1 => (exp_ret _))))
  · exact (show Exp (fun r => (pNum r).bind fun q0 => (pNum q0.2).bind fun q1 => (pNum q1.2).bind fun q2 => (pNum q2.2).bind fun q3 => some ((⟨(7 : Int),(0 : Int),(0 : Int),(0 : Int),(0 : Int),q0.1,q1.1,q2.1,(IntKind.u64.wrap q3.1)⟩ : T_Code),q3.2)) from (Exp.bind (Q := fun v0 => fun r => (pNum r).bind fun q1 => (pNum q1.2).bind fun q2 => (pNum q2.2).bind fun q3 => some ((⟨(7 : Int),(0 : Int),(0 : Int),(0 : Int),(0 : Int),v0,q1.1,q2.1,(IntKind.u64.wrap q3.1)⟩ : T_Code),q3.2)) pNum_exp fun v0 => (Exp.bind (Q := fun v1 => fun r => (pNum r).bind fun q2 => (pNum q2.2).bind fun q3 => some ((⟨(7 : Int),(0 : Int),(0 : Int),(0 : Int),(0 : Int),v0,v1,q2.1,(IntKind.u64.wrap q3.1)⟩ : T_Code),q3.2)) pNum_exp fun v1 => (Exp.bind (Q := fun v2 => fun r => (pNum r).bind fun q3 => some ((⟨(7 : Int),(0 : Int),(0 : Int),(0 : Int),(0 : Int),v0,v1,v2,(IntKind.u64.wrap q3.1)⟩ : T_Code),q3.2)) pNum_exp fun v2 => (Exp.bind (Q := fun v3 => fun r => some ((⟨(7 : Int),(0 : Int),(0 : Int),(0 : Int),(0 : Int),v0,v1,v2,(IntKind.u64.wrap v3)⟩ : T_Code),r)) pNum_exp fun v3 => (exp_ret _))))))
  · exact (show Exp (fun r => (pNum r).bind fun q0 => (pNum q0.2).bind fun q1 => (pNum q1.2).bind fun q2 => (pNum q2.2).bind fun q3 => some ((⟨(8 : Int),(0 : Int),(0 : Int),(0 : Int),(0 : Int),q0.1,q1.1,q2.1,(IntKind.u64.wrap q3.1)⟩ : T_Code),q3.2)) from (Exp.bind (Q := fun v0 => fun r => (pNum r).bind fun q1 => (pNum q1.2).bind fun q2 => (pNum q2.2).bind fun q3 => some ((⟨(8 : Int),(0 : Int),(0 : Int),(0 : Int),(0 : Int),v0,q1.1,q2.1,(IntKind.u64.wrap q3.1)⟩ : T_Code),q3.2)) pNum_exp fun v0 => (Exp.bind (Q := fun v1 => fun r => (pNum r).bind fun q2 => (pNum q2.2).bind fun q3 => some ((⟨(8 : Int),(0 : Int),(0 : Int),(0 : Int),(0 : Int),v0,v1,q2.1,(IntKind.u64.wrap q3.1)⟩ : T_Code),q3.2)) pNum_exp fun v1 => (Exp.bind (Q := fun v2 => fun r => (pNum r).bind fun q3 => some ((⟨(8 : Int),(0 : Int),(0 : Int),(0 : Int),(0 : Int),v0,v1,v2,(IntKind.u64.wrap q3.1)⟩ : T_Code),q3.2)) pNum_exp fun v2 => (Exp.bind (Q := fun v3 => fun r => some ((⟨(8 : Int),(0 : Int),(0 : Int),(0 : Int),(0 : Int),v0,v1,v2,(IntKind.u64.wrap v3)⟩ : T_Code),r)) pNum_exp fun v3 => (exp_ret _))))))
  · exact (show Exp (fun r => (pNum r).bind fun q0 => (pNum q0.2).bind fun q1 => some ((⟨(9 : Int),(0 : Int),(0 : Int),(0 : Int),(0 : Int),(0 : Int),(0 : Int),q0.1,(IntKind.u64.wrap q1.1)⟩ : T_Code),q1.2)) from (Exp.bind (Q := fun v0 => fun r => (pNum r).bind fun q1 => some ((⟨(9 : Int),(0 : Int),(0 : Int),(0 : Int),(0 : Int),(0 : Int),(0 : Int),v0,(IntKind.u64.wrap q1.1)⟩ : T_Code),q1.2)) pNum_exp fun v0 => (Exp.bind (Q := fun v1 => fun r => some ((⟨(9 : Int),(0 : Int),(0 : Int),(0 : Int),(0 : Int),(0 : Int),(0 : Int),v0,(IntKind.u64.wrap v1)⟩ : T_Code),r)) pNum_exp fun v1 => (exp_ret _))))
  · exact (show Exp (fun r => (pNum r).bind fun q0 => (pNum q0.2).bind fun q1 => some ((⟨(10 : Int),(0 : Int),(0 : Int),(0 : Int),(0 : Int),q0.1,q1.1,(0 : Int),(0 : Int)⟩ : T_Code),q1.2)) from (Exp.bind (Q := fun v0 => fun r => (pNum r).bind fun q1 => some ((⟨(10 : Int),(0 : Int),(0 : Int),(0 : Int),(0 : Int),v0,q1.1,(0 : Int),(0 : Int)⟩ : T_Code),q1.2)) pNum_exp fun v0 => (Exp.bind (Q := fun v1 => fun r => some ((⟨(10 : Int),(0 : Int),(0 : Int),(0 : Int),(0 : Int),v0,v1,(0 : Int),(0 : Int)⟩ : T_Code),r)) pNum_exp fun v1 => (exp_ret _))))
  · exact (show Exp (fun r => (pNum r).bind fun q0 => (pNum q0.2).bind fun q1 => some ((⟨(11 : Int),(0 : Int),(0 : Int),(0 : Int),(0 : Int),q0.1,q1.1,(0 : Int),(0 : Int)⟩ : T_Code),q1.2)) from (Exp.bind (Q := fun v0 => fun r => (pNum r).bind fun q1 => some ((⟨(11 : Int),(0 : Int),(0 : Int),(0 : Int),(0 : Int),v0,q1.1,(0 : Int),(0 : Int)⟩ : T_Code),q1.2)) pNum_exp fun v0 => (Exp.bind (Q := fun v1 => fun r => some ((⟨(11 : Int),(0 : Int),(0 : Int),(0 : Int),(0 : Int),v0,v1,(0 : Int),(0 : Int)⟩ : T_Code),r)) pNum_exp fun v1 => (exp_ret _))))
  · exact (show Exp (fun r => (pNum r).bind fun q0 => some ((⟨(12 : Int),(0 : Int),(0 : Int),(0 : Int),(0 : Int),q0.1,(0 : Int),(0 : Int),(0 : Int)⟩ : T_Code),q0.2)) from (Exp.bind (Q := fun v0 => fun r => some ((⟨(12 : Int),(0 : Int),(0 : Int),(0 : Int),(0 : Int),v0,(0 : Int),(0 : Int),(0 : Int)⟩ : T_Code),r)) pNum_exp fun v0 => (exp_ret _)))
  · exact (show Exp (fun r => (pByte r).bind fun q0 => (pNum q0.2).bind fun q1 => some ((⟨(13 : Int),(0 : Int),q0.1,(0 : Int),(0 : Int),q1.1,(0 : Int),(0 : Int),(0 : Int)⟩ : T_Code),q1.2)) from (Exp.bind (Q := fun v0 => fun r => (pNum r).bind fun q1 => some ((⟨(13 : Int),(0 : Int),v0,(0 : Int),(0 : Int),q1.1,(0 : Int),(0 : Int),(0 : Int)⟩ : T_Code),q1.2)) pByte_exp fun v0 => (Exp.bind (Q := fun v1 => fun r => some ((⟨(13 : Int),(0 : Int),v0,(0 : Int),(0 : Int),v1,(0 : Int),(0 : Int),(0 : Int)⟩ : T_Code),r)) pNum_exp fun v1 => (exp_ret _))))
  · exact (show Exp (fun r => (pNum r).bind fun q0 => some ((⟨(14 : Int),(0 : Int),(0 : Int),(0 : Int),(0 : Int),q0.1,(0 : Int),(0 : Int),(0 : Int)⟩ : T_Code),q0.2)) from (Exp.bind (Q := fun v0 => fun r => some ((⟨(14 : Int),(0 : Int),(0 : Int),(0 : Int),(0 : Int),v0,(0 : Int),(0 : Int),(0 : Int)⟩ : T_Code),r)) pNum_exp fun v0 => (exp_ret _)))
  · exact (show Exp (fun r => (pNum r).bind fun q0 => (pNum q0.2).bind fun q1 => (pNum q1.2).bind fun q2 => some ((⟨(15 : Int),(0 : Int),(0 : Int),(0 : Int),(0 : Int),q0.1,q1.1,q2.1,(0 : Int)⟩ : T_Code),q2.2)) from (Exp.bind (Q := fun v0 => fun r => (pNum r).bind fun q1 => (pNum q1.2).bind fun q2 => some ((⟨(15 : Int),(0 : Int),(0 : Int),(0 : Int),(0 : Int),v0,q1.1,q2.1,(0 : Int)⟩ : T_Code),q2.2)) pNum_exp fun v0 => (Exp.bind (Q := fun v1 => fun r => (pNum r).bind fun q2 => some ((⟨(15 : Int),(0 : Int),(0 : Int),(0 : Int),(0 : Int),v0,v1,q2.1,(0 : Int)⟩ : T_Code),q2.2)) pNum_exp fun v1 => (Exp.bind (Q := fun v2 => fun r => some ((⟨(15 : Int),(0 : Int),(0 : Int),(0 : Int),(0 : Int),v0,v1,v2,(0 : Int)⟩ : T_Code),r)) pNum_exp fun v2 => (exp_ret _)))))
  · exact (show Exp (fun r => (pNum r).bind fun q0 => some ((⟨(16 : Int),(0 : Int),(0 : Int),(0 : Int),(0 : Int),q0.1,(0 : Int),(0 : Int),(0 : Int)⟩ : T_Code),q0.2)) from (Exp.bind (Q := fun v0 => fun r => some ((⟨(16 : Int),(0 : Int),(0 : Int),(0 : Int),(0 : Int),v0,(0 : Int),(0 : Int),(0 : Int)⟩ : T_Code),r)) pNum_exp fun v0 => (exp_ret _)))
  · exact (show Exp (fun r => (pByte r).bind fun q0 => some ((⟨(17 : Int),(0 : Int),(0 : Int),(0 : Int),q0.1,(0 : Int),(0 : Int),(0 : Int),(0 : Int)⟩ : T_Code),q0.2)) from (Exp.bind (Q := fun v0 => fun r => some ((⟨(17 : Int),(0 : Int),(0 : Int),(0 : Int),v0,(0 : Int),(0 : Int),(0 : Int),(0 : Int)⟩ : T_Code),r)) pByte_exp fun v0 => (exp_ret _)))
theorem pCode_exp : Exp pCode := Exp.bind pByte_exp pK_exp
theorem pUnit_exp : Exp pUnit := by
  refine Exp.bind (P := pNum) (Q := fun n r => (pTake n.toNat r).bind fun nm => (pNum nm.2).bind fun p => (pTake p.1.toNat p.2).bind fun ps => (pByte ps.2).bind fun rs => (pNum rs.2).bind fun f => (pNum f.2).bind fun m =>
    (pRep pCode m.1.toNat m.2).bind fun cs => some ((⟨nm.1.map toByte,ps.1,rs.1,f.1,cs.1⟩ : T_Unit),cs.2)) pNum_exp fun n => ?_
  refine (pTake_exp n.toNat).bind (Q := fun nm r => (pNum r).bind fun p => (pTake p.1.toNat p.2).bind fun ps => (pByte ps.2).bind fun rs => (pNum rs.2).bind fun f => (pNum f.2).bind fun m =>
    (pRep pCode m.1.toNat m.2).bind fun cs => some ((⟨nm.map toByte,ps.1,rs.1,f.1,cs.1⟩ : T_Unit),cs.2)) fun nm => ?_
  refine pNum_exp.bind (Q := fun p r => (pTake p.toNat r).bind fun ps => (pByte ps.2).bind fun rs => (pNum rs.2).bind fun f => (pNum f.2).bind fun m =>
    (pRep pCode m.1.toNat m.2).bind fun cs => some ((⟨nm.map toByte,ps.1,rs.1,f.1,cs.1⟩ : T_Unit),cs.2)) fun p => ?_
  refine (pTake_exp p.toNat).bind (Q := fun ps r => (pByte r).bind fun rs => (pNum rs.2).bind fun f => (pNum f.2).bind fun m =>
    (pRep pCode m.1.toNat m.2).bind fun cs => some ((⟨nm.map toByte,ps,rs.1,f.1,cs.1⟩ : T_Unit),cs.2)) fun ps => ?_
  refine pByte_exp.bind (Q := fun rs r => (pNum r).bind fun f => (pNum f.2).bind fun m =>
    (pRep pCode m.1.toNat m.2).bind fun cs => some ((⟨nm.map toByte,ps,rs,f.1,cs.1⟩ : T_Unit),cs.2)) fun rs => ?_
  refine pNum_exp.bind (Q := fun f r => (pNum r).bind fun m =>
    (pRep pCode m.1.toNat m.2).bind fun cs => some ((⟨nm.map toByte,ps,rs,f,cs.1⟩ : T_Unit),cs.2)) fun f => ?_
  refine pNum_exp.bind (Q := fun m r => (pRep pCode m.toNat r).bind fun cs => some ((⟨nm.map toByte,ps,rs,f,cs.1⟩ : T_Unit),cs.2)) fun m => ?_
  exact (pRep_exp pCode_exp m.toNat).bind (Q := fun cs r => some ((⟨nm.map toByte,ps,rs,f,cs⟩ : T_Unit),r)) fun cs => exp_ret _
theorem pUnits_exp : Exp pUnits := by
  intro r x t s h;unfold pUnits at h ⊢;exact (Exp.bind (Q := fun n r => pRep pUnit n.toNat r) pNum_exp fun n => pRep_exp pUnit_exp n.toNat) r x t s h
end Go.Eng.Cop
