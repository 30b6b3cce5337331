/- Functions of this seat, run on unknown values by the rules of the small machine (no condition beyond those stated). -/
import Derived.Test.YthpbodnnbjdnlaaDoorEngPUp
set_option linter.unusedSectionVars false
namespace Go.Eng.Cop
open Go Go.Eng
set_option linter.unusedSectionVars false
set_option linter.unusedVariables false
set_option linter.unusedSimpArgs false
set_option maxRecDepth 20000
def leF : Nat → Nat → List Int → Nat
  | _,a,[] => a
  | i,a,c :: l => leF (i + 1) (a + c.toNat * 2 ^ (8 * i)) l
theorem pB8F_is : ∀ (k i a : Nat) (r : List Int),pB8F k i a r = if k ≤ r.length then some ((leF i a (r.take k) : Int),r.drop k) else none
  | 0,i,a,r => by simp [pB8F,leF]
  | k + 1,i,a,[] => by simp [pB8F]
  | k + 1,i,a,c :: r => by
    rw [pB8F,pB8F_is k (i + 1) _ r]
    simp [leF]
theorem bits_step {a i : Nat} {c : Int} (hc : 0 ≤ c ∧ c < 256) (ha : a < 2 ^ (8 * i)) (hi : i < 8) :
    IntKind.u64.wrap ((BitVec.ofInt IntKind.u64.bits (a : Int) ||| BitVec.ofInt IntKind.u64.bits (IntKind.u64.wrap ((IntKind.u64.wrap c) * 2 ^ (min (Int.toNat ((8 * i : Nat) : Int)) IntKind.u64.bits)))).toNat : Int) = ((a + c.toNat * 2 ^ (8 * i) : Nat) : Int) ∧ a + c.toNat * 2 ^ (8 * i) < 2 ^ (8 * (i + 1)) := by
  obtain ⟨d,rfl⟩ := Int.eq_ofNat_of_zero_le hc.1;have hd : d < 256 := by omega
  have hp : 2 ^ (8 * i) * 256 ≤ 18446744073709551616 := by
    have : 2 ^ (8 * i + 8) ≤ 2 ^ 64 := Nat.pow_le_pow_right (by decide) (by omega);rw [Nat.pow_add] at this;exact this
  have hmul : d * 2 ^ (8 * i) ≤ 255 * 2 ^ (8 * i) := Nat.mul_le_mul_right _ (by omega);have hpos : 0 < 2 ^ (8 * i) := Nat.pow_pos (by decide);have e0 : min (Int.toNat ((8 * i : Nat) : Int)) IntKind.u64.bits = 8 * i := by
    show min (8 * i) 64 = 8 * i; omega
  have w : ∀ x : Int,0 ≤ x → x < 18446744073709551616 → IntKind.u64.wrap x = x := fun x h1 h2 => by rw [IntKind.wrap_u64]; omega
  have e1 : (d : Int) * 2 ^ (8 * i) = ((d * 2 ^ (8 * i) : Nat) : Int) := by push_cast; rfl
  have hb : IntKind.u64.bits = 64 := rfl;rw [e0,w (d : Int) (by omega) (by omega),e1,w ((d * 2 ^ (8 * i) : Nat) : Int) (by omega) (by omega),BitVec.toNat_or,hb,ofInt_nat (show a < 2 ^ 64 by omega),ofInt_nat (show d * 2 ^ (8 * i) < 2 ^ 64 by omega),or_add ha,Int.toNat_natCast];refine ⟨w _ (by omega) (by omega),?_⟩;rw [show 8 * (i + 1) = 8 * i + 8 by omega,Nat.pow_add]; omega
theorem runs_le : ∀ (l : List Int) (i a : Nat),runs (R := Option (T_Code × T_reader)) (fun i (a : Nat) (c : Int) => .inr (a + c.toNat * 2 ^ (8 * i))) i a l = .inr (leF i a l)
  | [],i,a => rfl
  | c :: l,i,a => by rw [runs]; exact runs_le l (i + 1) _
theorem bits_run (y0 y1 y2 y3 y4 y5 y6 y7 : Int) (q : List Int × T_reader) (hq : BL q.1) (h8 : q.1.length ≤ 8) :
    iter (fun s : (Int × Int) => F81_1_b y0 y1 y2 y3 y4 y5 y6 y7 q s.1 s.2) FUEL ((0 : Int),(0 : Int)) = some (.go ((leF 0 0 q.1 : Nat) : Int)) := by
  have := loop_st (l := q.1) (f := fun s : (Int × Int) => F81_1_b y0 y1 y2 y3 y4 y5 y6 y7 q s.1 s.2) (fun (a : Nat) i => ((a : Int),i)) (fun a => (a : Int)) (fun i (a : Nat) (c : Int) => (.inr (a + c.toNat * 2 ^ (8 * i)) : Option (T_Code × T_reader) ⊕ Nat)) (fun i a => a < 2 ^ (8 * i)) (by omega)
    (fun i a c ha hc => by
      have hil := lt_of hc;obtain ⟨q1,q2⟩ := bits_step (hq c (List.mem_of_getElem? hc)) ha (by omega);refine ⟨?_,fun s' hs => by cases hs; exact q2⟩;have e : IntKind.i64.wrap (8 * (i : Int)) = ((8 * i : Nat) : Int) := by rw [wrap64_in (by omega) (by omega)]; omega
      simp only [F81_1_b,lt_dec hil,if_true,idx_some hc,Option.bind_some,e];rw [decide_eq_true (by omega)];simp only [when,if_true,Option.bind_some];rw [q1,wnat (by omega)]; rfl)
    (fun a ha => by simp only [F81_1_b,ge_dec,Bool.false_eq_true,if_false]) (s := 0) (by decide)
  rw [runs_le] at this;exact this
def pK (k : Int) (r : List Int) : Option (T_Code × List Int) :=
  if k = 1 then (pNum r).bind fun q0 => (pB8 q0.2).bind fun q1 => some ((⟨1,0,0,0,0,q0.1,0,0,q1.1⟩ : T_Code),q1.2)
  else if k = 2 then (pNum r).bind fun q0 => (pNum q0.2).bind fun q1 => some ((⟨2,0,0,0,0,q0.1,q1.1,0,0⟩ : T_Code),q1.2)
  else if k = 3 then (pByte r).bind fun q0 => (pByte q0.2).bind fun q1 => (pNum q1.2).bind fun q2 => (pNum q2.2).bind fun q3 => (pNum q3.2).bind fun q4 => some ((⟨3,q0.1,q1.1,0,0,q2.1,q3.1,q4.1,0⟩ : T_Code),q4.2)
  else if k = 4 then (pByte r).bind fun q0 => (pByte q0.2).bind fun q1 => (pNum q1.2).bind fun q2 => (pNum q2.2).bind fun q3 => some ((⟨4,0,q0.1,q1.1,0,q2.1,q3.1,0,0⟩ : T_Code),q3.2)
  else if k = 5 then (pNum r).bind fun q0 => (pNum q0.2).bind fun q1 => some ((⟨5,0,0,0,0,q0.1,q1.1,0,0⟩ : T_Code),q1.2)
  else if k = 6 then (pNum r).bind fun q0 => (pNum q0.2).bind fun q1 => some ((⟨6,0,0,0,0,q0.1,q1.1,0,0⟩ : T_Code),q1.2)
  else if k = 7 then (pNum r).bind fun q0 => (pNum q0.2).bind fun q1 => (pNum q1.2).bind fun q2 => (pNum q2.2).bind fun q3 => some ((⟨7,0,0,0,0,q0.1,q1.1,q2.1,IntKind.u64.wrap q3.1⟩ : T_Code),q3.2)
  else if k = 8 then (pNum r).bind fun q0 => (pNum q0.2).bind fun q1 => (pNum q1.2).bind fun q2 => (pNum q2.2).bind fun q3 => some ((⟨8,0,0,0,0,q0.1,q1.1,q2.1,IntKind.u64.wrap q3.1⟩ : T_Code),q3.2)
  else if k = 9 then (pNum r).bind fun q0 => (pNum q0.2).bind fun q1 => some ((⟨9,0,0,0,0,0,0,q0.1,IntKind.u64.wrap q1.1⟩ : T_Code),q1.2)
  else if k = 10 then (pNum r).bind fun q0 => (pNum q0.2).bind fun q1 => some ((⟨10,0,0,0,0,q0.1,q1.1,0,0⟩ : T_Code),q1.2)
  else if k = 11 then (pNum r).bind fun q0 => (pNum q0.2).bind fun q1 => some ((⟨11,0,0,0,0,q0.1,q1.1,0,0⟩ : T_Code),q1.2)
  else if k = 12 then (pNum r).bind fun q0 => some ((⟨12,0,0,0,0,q0.1,0,0,0⟩ : T_Code),q0.2)
  else if k = 13 then (pByte r).bind fun q0 => (pNum q0.2).bind fun q1 => some ((⟨13,0,q0.1,0,0,q1.1,0,0,0⟩ : T_Code),q1.2)
  else if k = 14 then (pNum r).bind fun q0 => some ((⟨14,0,0,0,0,q0.1,0,0,0⟩ : T_Code),q0.2)
  else if k = 15 then (pNum r).bind fun q0 => (pNum q0.2).bind fun q1 => (pNum q1.2).bind fun q2 => some ((⟨15,0,0,0,0,q0.1,q1.1,q2.1,0⟩ : T_Code),q2.2)
  else if k = 16 then (pNum r).bind fun q0 => some ((⟨16,0,0,0,0,q0.1,0,0,0⟩ : T_Code),q0.2)
  else if k = 17 then (pByte r).bind fun q0 => some ((⟨17,0,0,0,q0.1,0,0,0,0⟩ : T_Code),q0.2)
  else none
def pCode (r : List Int) : Option (T_Code × List Int) := (pByte r).bind fun q => pK q.1 q.2
theorem pK_no {k : Int} (h : ¬ (1 ≤ k ∧ k ≤ 17)) (r : List Int) : pK k r = none := by
  unfold pK;rw [if_neg (show ¬ k = 1 by omega)];rw [if_neg (show ¬ k = 2 by omega)];rw [if_neg (show ¬ k = 3 by omega)];rw [if_neg (show ¬ k = 4 by omega)];rw [if_neg (show ¬ k = 5 by omega)];rw [if_neg (show ¬ k = 6 by omega)];rw [if_neg (show ¬ k = 7 by omega)];rw [if_neg (show ¬ k = 8 by omega)];rw [if_neg (show ¬ k = 9 by omega)];rw [if_neg (show ¬ k = 10 by omega)];rw [if_neg (show ¬ k = 11 by omega)];rw [if_neg (show ¬ k = 12 by omega)];rw [if_neg (show ¬ k = 13 by omega)];rw [if_neg (show ¬ k = 14 by omega)];rw [if_neg (show ¬ k = 15 by omega)];rw [if_neg (show ¬ k = 16 by omega)];rw [if_neg (show ¬ k = 17 by omega)]
theorem F81_known {k : Int} (hk : 1 ≤ k ∧ k ≤ 17) {r : List Int} (hr : BL r) (h : pByte (k :: r) = some (k,r)) : F81 ⟨k :: r⟩ = res (pK k r) := by
  have hk' : k = 1 ∨ k = 2 ∨ k = 3 ∨ k = 4 ∨ k = 5 ∨ k = 6 ∨ k = 7 ∨ k = 8 ∨ k = 9 ∨ k = 10 ∨ k = 11 ∨ k = 12 ∨ k = 13 ∨ k = 14 ∨ k = 15 ∨ k = 16 ∨ k = 17 := by omega
  have h0 := hr;rcases hk' with rfl | rfl | rfl | rfl | rfl | rfl | rfl | rfl | rfl | rfl | rfl | rfl | rfl | rfl | rfl | rfl | rfl
  · unfold F81 pK;rw [take1,h];refine Eq.trans (b := pnd (F61 (⟨r⟩ : T_reader)) fun y0 => pnd (F80 y0.2 (8 : Int)) fun y1 => (iter (fun s : (Int × Int) => F81_1_b (1 : Int) (0 : Int) (0 : Int) (0 : Int) (0 : Int) y0.1 (0 : Int) (0 : Int) y1 s.1 s.2) FUEL ((0 : Int),(0 : Int))).bind fun o => match o with | .ret r => some r | .go w => some (some ((⟨(1 : Int),(0 : Int),(0 : Int),(0 : Int),(0 : Int),y0.1,(0 : Int),(0 : Int),w⟩ : T_Code),y1.2))) (by kernel_rfl) ?_;simp only [Int.reduceEq,if_false,if_true];rw [F61_is h0];cases e0 : pNum r with
    | none => rfl
    | some q =>
      obtain ⟨v0,r0⟩ := q;have h1 := pNum_suf.bl e0 h0;simp only [res,pnd,Option.map_some,Option.bind_some];rw [show (8 : Int) = ((8 : Nat) : Int) from rfl,F80_is];unfold pTake pB8;rw [pB8F_is]
      by_cases h8 : 8 ≤ r0.length
      · simp only [if_pos h8,res,pnd,Option.map_some,Option.bind_some];rw [bits_run _ _ _ _ _ _ _ _ _ (h1.take 8) (by rw [List.length_take]; omega)]
        rfl
      · simp only [if_neg h8]; rfl
  · unfold F81 pK;rw [take1,h];refine Eq.trans (b := pnd (F61 (⟨r⟩ : T_reader)) fun y0 => pnd (F61 y0.2) fun y1 => some (some ((⟨(2 : Int),(0 : Int),(0 : Int),(0 : Int),(0 : Int),y0.1,y1.1,(0 : Int),(0 : Int)⟩ : T_Code),y1.2))) (by kernel_rfl) ?_;simp only [Int.reduceEq,if_false,if_true];rw [F61_is h0];cases e0 : pNum r with
    | none => rfl
    | some q =>
      obtain ⟨v0,r0⟩ := q;have h1 := pNum_suf.bl e0 h0;simp only [res,pnd,Option.map_some,Option.bind_some];rw [F61_is h1];cases e1 : pNum r0 with
      | none => rfl
      | some q =>
        obtain ⟨v1,r1⟩ := q;have h2 := pNum_suf.bl e1 h1
        rfl
  · unfold F81 pK;rw [take1,h];refine Eq.trans (b := pnd (F80 (⟨r⟩ : T_reader) (1 : Int)) fun y0 => (idx y0.1 (0 : Int)).bind fun c0 => pnd (F80 y0.2 (1 : Int)) fun y1 => (idx y1.1 (0 : Int)).bind fun c1 => pnd (F61 y1.2) fun y2 => pnd (F61 y2.2) fun y3 => pnd (F61 y3.2) fun y4 => some (some ((⟨(3 : Int),c0,c1,(0 : Int),(0 : Int),y2.1,y3.1,y4.1,(0 : Int)⟩ : T_Code),y4.2))) (by kernel_rfl) ?_;simp only [Int.reduceEq,if_false,if_true];rw [take1];cases e0 : pByte r with
    | none => rfl
    | some q =>
      obtain ⟨v0,r0⟩ := q;have h1 := pByte_suf.bl e0 h0;simp only [pnd,Option.map_some,Option.bind_some,show idx [v0] (0 : Int) = some v0 from rfl];rw [take1];cases e1 : pByte r0 with
      | none => rfl
      | some q =>
        obtain ⟨v1,r1⟩ := q;have h2 := pByte_suf.bl e1 h1;simp only [pnd,Option.map_some,Option.bind_some,show idx [v1] (0 : Int) = some v1 from rfl];rw [F61_is h2];cases e2 : pNum r1 with
        | none => rfl
        | some q =>
          obtain ⟨v2,r2⟩ := q;have h3 := pNum_suf.bl e2 h2;simp only [res,pnd,Option.map_some,Option.bind_some];rw [F61_is h3];cases e3 : pNum r2 with
          | none => rfl
          | some q =>
            obtain ⟨v3,r3⟩ := q;have h4 := pNum_suf.bl e3 h3;simp only [res,pnd,Option.map_some,Option.bind_some];rw [F61_is h4];cases e4 : pNum r3 with
            | none => rfl
            | some q =>
              obtain ⟨v4,r4⟩ := q;have h5 := pNum_suf.bl e4 h4
              rfl
  · unfold F81 pK;rw [take1,h];refine Eq.trans (b := pnd (F80 (⟨r⟩ : T_reader) (1 : Int)) fun y0 => (idx y0.1 (0 : Int)).bind fun c0 => pnd (F80 y0.2 (1 : Int)) fun y1 => (idx y1.1 (0 : Int)).bind fun c1 => pnd (F61 y1.2) fun y2 => pnd (F61 y2.2) fun y3 => some (some ((⟨(4 : Int),(0 : Int),c0,c1,(0 : Int),y2.1,y3.1,(0 : Int),(0 : Int)⟩ : T_Code),y3.2))) (by kernel_rfl) ?_;simp only [Int.reduceEq,if_false,if_true];rw [take1];cases e0 : pByte r with
    | none => rfl
    | some q =>
      obtain ⟨v0,r0⟩ := q;have h1 := pByte_suf.bl e0 h0;simp only [pnd,Option.map_some,Option.bind_some,show idx [v0] (0 : Int) = some v0 from rfl];rw [take1];cases e1 : pByte r0 with
      | none => rfl
      | some q =>
        obtain ⟨v1,r1⟩ := q;have h2 := pByte_suf.bl e1 h1;simp only [pnd,Option.map_some,Option.bind_some,show idx [v1] (0 : Int) = some v1 from rfl];rw [F61_is h2];cases e2 : pNum r1 with
        | none => rfl
        | some q =>
          obtain ⟨v2,r2⟩ := q;have h3 := pNum_suf.bl e2 h2;simp only [res,pnd,Option.map_some,Option.bind_some];rw [F61_is h3];cases e3 : pNum r2 with
          | none => rfl
          | some q =>
            obtain ⟨v3,r3⟩ := q;have h4 := pNum_suf.bl e3 h3
            rfl
  · unfold F81 pK;rw [take1,h];refine Eq.trans (b := pnd (F61 (⟨r⟩ : T_reader)) fun y0 => pnd (F61 y0.2) fun y1 => some (some ((⟨(5 : Int),(0 : Int),(0 : Int),(0 : Int),(0 : Int),y0.1,y1.1,(0 : Int),(0 : Int)⟩ : T_Code),y1.2))) (by kernel_rfl) ?_;simp only [Int.reduceEq,if_false,if_true];rw [F61_is h0];cases e0 : pNum r with
    | none => rfl
    | some q =>
      obtain ⟨v0,r0⟩ := q;have h1 := pNum_suf.bl e0 h0;simp only [res,pnd,Option.map_some,Option.bind_some];rw [F61_is h1];cases e1 : pNum r0 with
      | none => rfl
      | some q =>
        obtain ⟨v1,r1⟩ := q;have h2 := pNum_suf.bl e1 h1
        rfl
  · unfold F81 pK;rw [take1,h];refine Eq.trans (b := pnd (F61 (⟨r⟩ : T_reader)) fun y0 => pnd (F61 y0.2) fun y1 => some (some ((⟨(6 : Int),(0 : Int),(0 : Int),(0 : Int),(0 : Int),y0.1,y1.1,(0 : Int),(0 : Int)⟩ : T_Code),y1.2))) (by kernel_rfl) ?_;simp only [Int.reduceEq,if_false,if_true];rw [F61_is h0];cases e0 : pNum r with
    | none => rfl
    | some q =>
      obtain ⟨v0,r0⟩ := q;have h1 := pNum_suf.bl e0 h0;simp only [res,pnd,Option.map_some,Option.bind_some];rw [F61_is h1];cases e1 : pNum r0 with
      | none => rfl
      | some q =>
        obtain ⟨v1,r1⟩ := q;have h2 := pNum_suf.bl e1 h1
        rfl
  · unfold F81 pK;rw [take1,h];refine Eq.trans (b := pnd (F61 (⟨r⟩ : T_reader)) fun y0 => pnd (F61 y0.2) fun y1 => pnd (F61 y1.2) fun y2 => pnd (F61 y2.2) fun y3 => some (some ((⟨(7 : Int),(0 : Int),(0 : Int),(0 : Int),(0 : Int),y0.1,y1.1,y2.1,(IntKind.u64.wrap y3.1)⟩ : T_Code),y3.2))) (by kernel_rfl) ?_;simp only [Int.reduceEq,if_false,if_true];rw [F61_is h0];cases e0 : pNum r with
    | none => rfl
    | some q =>
      obtain ⟨v0,r0⟩ := q;have h1 := pNum_suf.bl e0 h0;simp only [res,pnd,Option.map_some,Option.bind_some];rw [F61_is h1];cases e1 : pNum r0 with
      | none => rfl
      | some q =>
        obtain ⟨v1,r1⟩ := q;have h2 := pNum_suf.bl e1 h1;simp only [res,pnd,Option.map_some,Option.bind_some];rw [F61_is h2];cases e2 : pNum r1 with
        | none => rfl
        | some q =>
          obtain ⟨v2,r2⟩ := q;have h3 := pNum_suf.bl e2 h2;simp only [res,pnd,Option.map_some,Option.bind_some];rw [F61_is h3];cases e3 : pNum r2 with
          | none => rfl
          | some q =>
            obtain ⟨v3,r3⟩ := q;have h4 := pNum_suf.bl e3 h3
            rfl
  · unfold F81 pK;rw [take1,h];refine Eq.trans (b := pnd (F61 (⟨r⟩ : T_reader)) fun y0 => pnd (F61 y0.2) fun y1 => pnd (F61 y1.2) fun y2 => pnd (F61 y2.2) fun y3 => some (some ((⟨(8 : Int),(0 : Int),(0 : Int),(0 : Int),(0 : Int),y0.1,y1.1,y2.1,(IntKind.u64.wrap y3.1)⟩ : T_Code),y3.2))) (by kernel_rfl) ?_;simp only [Int.reduceEq,if_false,if_true];rw [F61_is h0];cases e0 : pNum r with
    | none => rfl
    | some q =>
      obtain ⟨v0,r0⟩ := q;have h1 := pNum_suf.bl e0 h0;simp only [res,pnd,Option.map_some,Option.bind_some];rw [F61_is h1];cases e1 : pNum r0 with
      | none => rfl
      | some q =>
        obtain ⟨v1,r1⟩ := q;have h2 := pNum_suf.bl e1 h1;simp only [res,pnd,Option.map_some,Option.bind_some];rw [F61_is h2];cases e2 : pNum r1 with
        | none => rfl
        | some q =>
          obtain ⟨v2,r2⟩ := q;have h3 := pNum_suf.bl e2 h2;simp only [res,pnd,Option.map_some,Option.bind_some];rw [F61_is h3];cases e3 : pNum r2 with
          | none => rfl
          | some q =>
            obtain ⟨v3,r3⟩ := q;have h4 := pNum_suf.bl e3 h3
            rfl
  · unfold F81 pK;rw [take1,h];refine Eq.trans (b := pnd (F61 (⟨r⟩ : T_reader)) fun y0 => pnd (F61 y0.2) fun y1 => some (some ((⟨(9 : Int),(0 : Int),(0 : Int),(0 : Int),(0 : Int),(0 : Int),(0 : Int),y0.1,(IntKind.u64.wrap y1.1)⟩ : T_Code),y1.2))) (by kernel_rfl) ?_;simp only [Int.reduceEq,if_false,if_true];rw [F61_is h0];cases e0 : pNum r with
    | none => rfl
    | some q =>
      obtain ⟨v0,r0⟩ := q;have h1 := pNum_suf.bl e0 h0;simp only [res,pnd,Option.map_some,Option.bind_some];rw [F61_is h1];cases e1 : pNum r0 with
      | none => rfl
      | some q =>
        obtain ⟨v1,r1⟩ := q;have h2 := pNum_suf.bl e1 h1
        rfl
  · unfold F81 pK;rw [take1,h];refine Eq.trans (b := pnd (F61 (⟨r⟩ : T_reader)) fun y0 => pnd (F61 y0.2) fun y1 => some (some ((⟨(10 : Int),(0 : Int),(0 : Int),(0 : Int),(0 : Int),y0.1,y1.1,(0 : Int),(0 : Int)⟩ : T_Code),y1.2))) (by kernel_rfl) ?_;simp only [Int.reduceEq,if_false,if_true];rw [F61_is h0];cases e0 : pNum r with
    | none => rfl
    | some q =>
      obtain ⟨v0,r0⟩ := q;have h1 := pNum_suf.bl e0 h0;simp only [res,pnd,Option.map_some,Option.bind_some];rw [F61_is h1];cases e1 : pNum r0 with
      | none => rfl
      | some q =>
        obtain ⟨v1,r1⟩ := q;have h2 := pNum_suf.bl e1 h1
        rfl
  · unfold F81 pK;rw [take1,h];refine Eq.trans (b := pnd (F61 (⟨r⟩ : T_reader)) fun y0 => pnd (F61 y0.2) fun y1 => some (some ((⟨(11 : Int),(0 : Int),(0 : Int),(0 : Int),(0 : Int),y0.1,y1.1,(0 : Int),(0 : Int)⟩ : T_Code),y1.2))) (by kernel_rfl) ?_;simp only [Int.reduceEq,if_false,if_true];rw [F61_is h0];cases e0 : pNum r with
    | none => rfl
    | some q =>
      obtain ⟨v0,r0⟩ := q;have h1 := pNum_suf.bl e0 h0;simp only [res,pnd,Option.map_some,Option.bind_some];rw [F61_is h1];cases e1 : pNum r0 with
      | none => rfl
      | some q =>
        obtain ⟨v1,r1⟩ := q;have h2 := pNum_suf.bl e1 h1
        rfl
  · unfold F81 pK;rw [take1,h];refine Eq.trans (b := pnd (F61 (⟨r⟩ : T_reader)) fun y0 => some (some ((⟨(12 : Int),(0 : Int),(0 : Int),(0 : Int),(0 : Int),y0.1,(0 : Int),(0 : Int),(0 : Int)⟩ : T_Code),y0.2))) (by kernel_rfl) ?_;simp only [Int.reduceEq,if_false,if_true];rw [F61_is h0];cases e0 : pNum r with
    | none => rfl
    | some q =>
      obtain ⟨v0,r0⟩ := q;have h1 := pNum_suf.bl e0 h0
      rfl
  · unfold F81 pK;rw [take1,h];refine Eq.trans (b := pnd (F80 (⟨r⟩ : T_reader) (1 : Int)) fun y0 => (idx y0.1 (0 : Int)).bind fun c0 => pnd (F61 y0.2) fun y1 => some (some ((⟨(13 : Int),(0 : Int),c0,(0 : Int),(0 : Int),y1.1,(0 : Int),(0 : Int),(0 : Int)⟩ : T_Code),y1.2))) (by kernel_rfl) ?_;simp only [Int.reduceEq,if_false,if_true];rw [take1];cases e0 : pByte r with
    | none => rfl
    | some q =>
      obtain ⟨v0,r0⟩ := q;have h1 := pByte_suf.bl e0 h0;simp only [pnd,Option.map_some,Option.bind_some,show idx [v0] (0 : Int) = some v0 from rfl];rw [F61_is h1];cases e1 : pNum r0 with
      | none => rfl
      | some q =>
        obtain ⟨v1,r1⟩ := q;have h2 := pNum_suf.bl e1 h1
        rfl
  · unfold F81 pK;rw [take1,h];refine Eq.trans (b := pnd (F61 (⟨r⟩ : T_reader)) fun y0 => some (some ((⟨(14 : Int),(0 : Int),(0 : Int),(0 : Int),(0 : Int),y0.1,(0 : Int),(0 : Int),(0 : Int)⟩ : T_Code),y0.2))) (by kernel_rfl) ?_;simp only [Int.reduceEq,if_false,if_true];rw [F61_is h0];cases e0 : pNum r with
    | none => rfl
    | some q =>
      obtain ⟨v0,r0⟩ := q;have h1 := pNum_suf.bl e0 h0
      rfl
  · unfold F81 pK;rw [take1,h];refine Eq.trans (b := pnd (F61 (⟨r⟩ : T_reader)) fun y0 => pnd (F61 y0.2) fun y1 => pnd (F61 y1.2) fun y2 => some (some ((⟨(15 : Int),(0 : Int),(0 : Int),(0 : Int),(0 : Int),y0.1,y1.1,y2.1,(0 : Int)⟩ : T_Code),y2.2))) (by kernel_rfl) ?_;simp only [Int.reduceEq,if_false,if_true];rw [F61_is h0];cases e0 : pNum r with
    | none => rfl
    | some q =>
      obtain ⟨v0,r0⟩ := q;have h1 := pNum_suf.bl e0 h0;simp only [res,pnd,Option.map_some,Option.bind_some];rw [F61_is h1];cases e1 : pNum r0 with
      | none => rfl
      | some q =>
        obtain ⟨v1,r1⟩ := q;have h2 := pNum_suf.bl e1 h1;simp only [res,pnd,Option.map_some,Option.bind_some];rw [F61_is h2];cases e2 : pNum r1 with
        | none => rfl
        | some q =>
          obtain ⟨v2,r2⟩ := q;have h3 := pNum_suf.bl e2 h2
          rfl
  · unfold F81 pK;rw [take1,h];refine Eq.trans (b := pnd (F61 (⟨r⟩ : T_reader)) fun y0 => some (some ((⟨(16 : Int),(0 : Int),(0 : Int),(0 : Int),(0 : Int),y0.1,(0 : Int),(0 : Int),(0 : Int)⟩ : T_Code),y0.2))) (by kernel_rfl) ?_;simp only [Int.reduceEq,if_false,if_true];rw [F61_is h0];cases e0 : pNum r with
    | none => rfl
    | some q =>
      obtain ⟨v0,r0⟩ := q;have h1 := pNum_suf.bl e0 h0
      rfl
  · unfold F81 pK;rw [take1,h];refine Eq.trans (b := pnd (F80 (⟨r⟩ : T_reader) (1 : Int)) fun y0 => (idx y0.1 (0 : Int)).bind fun c0 => some (some ((⟨(17 : Int),(0 : Int),(0 : Int),(0 : Int),c0,(0 : Int),(0 : Int),(0 : Int),(0 : Int)⟩ : T_Code),y0.2))) (by kernel_rfl) ?_;simp only [Int.reduceEq,if_false,if_true];rw [take1];cases e0 : pByte r with
    | none => rfl
    | some q =>
      obtain ⟨v0,r0⟩ := q;have h1 := pByte_suf.bl e0 h0
      rfl
theorem F81_is {r : List Int} (hr : BL r) : F81 ⟨r⟩ = res (pCode r) := by
  cases r with
  | nil => unfold F81; rw [take1]; rfl
  | cons k r =>
    by_cases hk : 1 ≤ k ∧ k ≤ 17
    · rw [F81_known hk hr.tail rfl]; rfl
    · unfold F81 pCode;rw [take1];simp only [pByte,Option.map_some,pnd,Option.bind_some,show idx [k] (0 : Int) = some k from rfl,F82_is,decide_eq_false hk,Bool.not_false,if_true,pK_no hk]
      rfl
end Go.Eng.Cop
namespace Go.Eng.Cop
open Go Go.Eng
set_option linter.unusedSectionVars false
set_option linter.unusedVariables false
set_option linter.unusedSimpArgs false
set_option maxRecDepth 20000
def Suw {α : Type} (P : List Int → Option (α × List Int)) : Prop := ∀ r x t,P r = some (x,t) → ∃ d,r = d ++ t
theorem Suf.w {α : Type} {P : List Int → Option (α × List Int)} (h : Suf P) : Suw P := fun r x t e => let ⟨d,_,h⟩ := h r x t e; ⟨d,h⟩
theorem Suw.bind {α β : Type} {P : List Int → Option (α × List Int)} {Q : α → List Int → Option (β × List Int)} (hP : Suw P) (hQ : ∀ a,Suw (Q a)) : Suw (fun r => (P r).bind fun q => Q q.1 q.2) := by
  intro r x t h;simp only [Option.bind_eq_some_iff] at h;obtain ⟨⟨a,r1⟩,h1,h2⟩ := h;obtain ⟨d,rfl⟩ := hP r a r1 h1;obtain ⟨d2,rfl⟩ := hQ a r1 x t h2;exact ⟨d ++ d2,by rw [List.append_assoc]⟩
theorem Suf.bindw {α β : Type} {P : List Int → Option (α × List Int)} {Q : α → List Int → Option (β × List Int)} (hP : Suf P) (hQ : ∀ a,Suw (Q a)) : Suf (fun r => (P r).bind fun q => Q q.1 q.2) := hP.bind fun a r x t h => hQ a r x t h
theorem suw_ret {α : Type} (f : List Int → α) : Suw (fun r => some (f r,r)) := fun r x t h => by cases h; exact ⟨[],rfl⟩
theorem Suw.bl {α : Type} {P : List Int → Option (α × List Int)} (hP : Suw P) {r t : List Int} {x : α} (h : P r = some (x,t)) (hr : BL r) : BL t := by
  obtain ⟨d,rfl⟩ := hP r x t h;exact fun c hc => hr c (by simp [hc])
theorem Suw.le {α : Type} {P : List Int → Option (α × List Int)} (hP : Suw P) {r t : List Int} {x : α} (h : P r = some (x,t)) : t.length ≤ r.length := by
  obtain ⟨d,rfl⟩ := hP r x t h;rw [List.length_append]; omega
theorem pTake_suw (n : Nat) : Suw (pTake n) := by
  intro r x t h;unfold pTake at h
  split at h
  · cases h; exact ⟨r.take n,(List.take_append_drop n r).symm⟩
  · cases h
def pRep {α : Type} (P : List Int → Option (α × List Int)) : Nat → List Int → Option (List α × List Int)
  | 0,r => some ([],r)
  | n + 1,r => (P r).bind fun q => (pRep P n q.2).bind fun q2 => some (q.1 :: q2.1,q2.2)
theorem pRep_suw {α : Type} {P : List Int → Option (α × List Int)} (hP : Suw P) : ∀ n,Suw (pRep P n)
  | 0,r,x,t,h => by cases h; exact ⟨[],rfl⟩
  | n + 1,r,x,t,h => by
    rw [pRep] at h;simp only [Option.bind_eq_some_iff] at h;obtain ⟨⟨a,r1⟩,h1,⟨b,r2⟩,h2,h3⟩ := h;simp only [Option.some.injEq,Prod.mk.injEq] at h3;obtain ⟨rfl,rfl⟩ := h3;obtain ⟨d,rfl⟩ := hP r a r1 h1;obtain ⟨d2,rfl⟩ := pRep_suw hP n r1 b r2 h2;exact ⟨d ++ d2,by rw [List.append_assoc]⟩
theorem pRep_len {α : Type} {P : List Int → Option (α × List Int)} (hP : Suf P) : ∀ (n : Nat) (r : List Int) (x : List α) (t : List Int),pRep P n r = some (x,t) → n + t.length ≤ r.length ∧ x.length = n
  | 0,r,x,t,h => by cases h; simp
  | n + 1,r,x,t,h => by
    rw [pRep] at h;simp only [Option.bind_eq_some_iff] at h;obtain ⟨⟨a,r1⟩,h1,⟨b,r2⟩,h2,h3⟩ := h;simp only [Option.some.injEq,Prod.mk.injEq] at h3;obtain ⟨rfl,rfl⟩ := h3;have := hP.lt h1;have := pRep_len hP n r1 b r2 h2
    simp; omega
theorem pNumF_rng : ∀ (k s a : Nat) (r : List Int) (n : Int) (t : List Int),s + 7 * k = 35 → a < 2 ^ s → pNumF k s a r = some (n,t) → 0 ≤ n ∧ n < 34359738368
  | 0,s,a,r,n,t,_,_,h => by simp [pNumF] at h
  | k + 1,s,a,[],n,t,_,_,h => by simp [pNumF] at h
  | k + 1,s,a,c :: r,n,t,hs,ha,h => by
    have h7 : (c % 128).toNat < 128 := by omega
    have hp := pow_le (show s + 7 ≤ 35 by omega);have hmul : (c % 128).toNat * 2 ^ s ≤ 127 * 2 ^ s := Nat.mul_le_mul_right _ (by omega);have hpos : 0 < 2 ^ s := Nat.pow_pos (by decide);rw [pNumF] at h
    split at h
    · cases h; omega
    · exact pNumF_rng k (s + 7) _ r n t (by omega) (by rw [Nat.pow_add]; omega) h
theorem pNum_rng {r : List Int} {n : Int} {t : List Int} (h : pNum r = some (n,t)) : 0 ≤ n ∧ n < 34359738368 := pNumF_rng 5 0 0 r n t (by omega) (by decide) h
def toByte (n : Int) : UInt8 := UInt8.ofNat n.toNat
theorem bstr_bl {l : List Int} (h : BL l) : bstr l = some (l.map toByte) := by
  unfold bstr;exact omap_to fun n hn => by rw [if_pos (h n hn)]; rfl
def pUnit (r : List Int) : Option (T_Unit × List Int) :=
  (pNum r).bind fun n => (pTake n.1.toNat n.2).bind fun nm => (pNum nm.2).bind fun p => (pTake p.1.toNat p.2).bind fun ps => (pByte ps.2).bind fun rs => (pNum rs.2).bind fun f => (pNum f.2).bind fun m =>
    (pRep pCode m.1.toNat m.2).bind fun cs => some ((⟨nm.1.map toByte,ps.1,rs.1,f.1,cs.1⟩ : T_Unit),cs.2)
def pUnits (r : List Int) : Option (List T_Unit × List Int) := (pNum r).bind fun n => pRep pUnit n.1.toNat n.2
theorem pK_suw (k : Int) : Suw (pK k) := by
  intro r x t h;unfold pK at h;have N := pNum_suf.w;have B := pByte_suf.w;have E := pB8_suf.w;have fin : ∀ {α : Type} {v w : α} {s t : List Int},some (v,s) = some (w,t) → ∃ d,s = d ++ t := fun h => by cases h; exact ⟨[],rfl⟩
  have go : ∀ {α β : Type} {P : List Int → Option (α × List Int)} {r t : List Int} {x : β} {Q : α × List Int → Option (β × List Int)},Suw P → (P r).bind Q = some (x,t) → (∀ q,P r = some q → Q q = some (x,t) → ∃ d,q.2 = d ++ t) → ∃ d,r = d ++ t := by
    intro α β P r t x Q hP hb hq;simp only [Option.bind_eq_some_iff] at hb;obtain ⟨q,h1,h2⟩ := hb;obtain ⟨d,hd⟩ := hP r q.1 q.2 h1;obtain ⟨d2,hd2⟩ := hq q h1 h2;exact ⟨d ++ d2,by rw [hd,hd2,List.append_assoc]⟩
  by_cases h1 : k = 1
  · rw [if_pos h1] at h;exact go N h fun q _ h => go E h fun q _ h => fin h
  rw [if_neg h1] at h
  by_cases h2 : k = 2
  · rw [if_pos h2] at h;exact go N h fun q _ h => go N h fun q _ h => fin h
  rw [if_neg h2] at h
  by_cases h3 : k = 3
  · rw [if_pos h3] at h;exact go B h fun q _ h => go B h fun q _ h => go N h fun q _ h => go N h fun q _ h => go N h fun q _ h => fin h
  rw [if_neg h3] at h
  by_cases h4 : k = 4
  · rw [if_pos h4] at h;exact go B h fun q _ h => go B h fun q _ h => go N h fun q _ h => go N h fun q _ h => fin h
  rw [if_neg h4] at h
  by_cases h5 : k = 5
  · rw [if_pos h5] at h;exact go N h fun q _ h => go N h fun q _ h => fin h
  rw [if_neg h5] at h
  by_cases h6 : k = 6
  · rw [if_pos h6] at h;exact go N h fun q _ h => go N h fun q _ h => fin h
  rw [if_neg h6] at h
  by_cases h7 : k = 7
  · rw [if_pos h7] at h;exact go N h fun q _ h => go N h fun q _ h => go N h fun q _ h => go N h fun q _ h => fin h
  rw [if_neg h7] at h
  by_cases h8 : k = 8
  · rw [if_pos h8] at h;exact go N h fun q _ h => go N h fun q _ h => go N h fun q _ h => go N h fun q _ h => fin h
  rw [if_neg h8] at h
  by_cases h9 : k = 9
  · rw [if_pos h9] at h;exact go N h fun q _ h => go N h fun q _ h => fin h
  rw [if_neg h9] at h
  by_cases h10 : k = 10
  · rw [if_pos h10] at h;exact go N h fun q _ h => go N h fun q _ h => fin h
  rw [if_neg h10] at h
  by_cases h11 : k = 11
  · rw [if_pos h11] at h;exact go N h fun q _ h => go N h fun q _ h => fin h
  rw [if_neg h11] at h
  by_cases h12 : k = 12
  · rw [if_pos h12] at h;exact go N h fun q _ h => fin h
  rw [if_neg h12] at h
  by_cases h13 : k = 13
  · rw [if_pos h13] at h;exact go B h fun q _ h => go N h fun q _ h => fin h
  rw [if_neg h13] at h
  by_cases h14 : k = 14
  · rw [if_pos h14] at h;exact go N h fun q _ h => fin h
  rw [if_neg h14] at h
  by_cases h15 : k = 15
  · rw [if_pos h15] at h;exact go N h fun q _ h => go N h fun q _ h => go N h fun q _ h => fin h
  rw [if_neg h15] at h
  by_cases h16 : k = 16
  · rw [if_pos h16] at h;exact go N h fun q _ h => fin h
  rw [if_neg h16] at h
  by_cases h17 : k = 17
  · rw [if_pos h17] at h;exact go B h fun q _ h => fin h
  rw [if_neg h17] at h;cases h
theorem pCode_suf : Suf pCode := pByte_suf.bindw pK_suw
theorem pUnit_suf : Suf pUnit := by
  refine pNum_suf.bindw (Q := fun n r => (pTake n.toNat r).bind fun nm => (pNum nm.2).bind fun p => (pTake p.1.toNat p.2).bind fun ps => (pByte ps.2).bind fun rs => (pNum rs.2).bind fun f => (pNum f.2).bind fun m =>
    (pRep pCode m.1.toNat m.2).bind fun cs => some ((⟨nm.1.map toByte,ps.1,rs.1,f.1,cs.1⟩ : T_Unit),cs.2)) fun n => ?_
  refine (pTake_suw n.toNat).bind (Q := fun nm r => (pNum r).bind fun p => (pTake p.1.toNat p.2).bind fun ps => (pByte ps.2).bind fun rs => (pNum rs.2).bind fun f => (pNum f.2).bind fun m =>
    (pRep pCode m.1.toNat m.2).bind fun cs => some ((⟨nm.map toByte,ps.1,rs.1,f.1,cs.1⟩ : T_Unit),cs.2)) fun nm => ?_
  refine pNum_suf.w.bind (Q := fun p r => (pTake p.toNat r).bind fun ps => (pByte ps.2).bind fun rs => (pNum rs.2).bind fun f => (pNum f.2).bind fun m =>
    (pRep pCode m.1.toNat m.2).bind fun cs => some ((⟨nm.map toByte,ps.1,rs.1,f.1,cs.1⟩ : T_Unit),cs.2)) fun p => ?_
  refine (pTake_suw p.toNat).bind (Q := fun ps r => (pByte r).bind fun rs => (pNum rs.2).bind fun f => (pNum f.2).bind fun m =>
    (pRep pCode m.1.toNat m.2).bind fun cs => some ((⟨nm.map toByte,ps,rs.1,f.1,cs.1⟩ : T_Unit),cs.2)) fun ps => ?_
  refine pByte_suf.w.bind (Q := fun rs r => (pNum r).bind fun f => (pNum f.2).bind fun m =>
    (pRep pCode m.1.toNat m.2).bind fun cs => some ((⟨nm.map toByte,ps,rs,f.1,cs.1⟩ : T_Unit),cs.2)) fun rs => ?_
  refine pNum_suf.w.bind (Q := fun f r => (pNum r).bind fun m =>
    (pRep pCode m.1.toNat m.2).bind fun cs => some ((⟨nm.map toByte,ps,rs,f,cs.1⟩ : T_Unit),cs.2)) fun f => ?_
  refine pNum_suf.w.bind (Q := fun m r => (pRep pCode m.toNat r).bind fun cs => some ((⟨nm.map toByte,ps,rs,f,cs.1⟩ : T_Unit),cs.2)) fun m => ?_
  exact (pRep_suw pCode_suf.w m.toNat).bind (Q := fun cs r => some ((⟨nm.map toByte,ps,rs,f,cs⟩ : T_Unit),r)) fun cs => suw_ret _
def repO {α R : Type} (l : List α) : Option (List α × List Int) → Out (Option R) (List Int × List α)
  | none => .ret none
  | some q => .go (q.2,l ++ q.1)
def repS {α R : Type} (l : List α) (i : Nat) : Option (α × List Int) → Stp (List Int × List α × Int) (Option R) (List Int × List α)
  | none => .ret none
  | some q => .next (q.2,l ++ [q.1],((i + 1 : Nat) : Int))
theorem rep_run {α R : Type} {f : List Int × List α × Int → Option (Stp (List Int × List α × Int) (Option R) (List Int × List α))} {P : List Int → Option (α × List Int)} (hP : Suf P) {n : Int} (K : Nat)
    (h1 : ∀ (r : List Int) (l : List α) (i : Nat),BL r → (i : Int) < n → r.length ≤ K → l.length + r.length ≤ K → f (r,l,(i : Int)) = some (repS l i (P r)))
    (h2 : ∀ (r : List Int) (l : List α) (i : Nat),¬ (i : Int) < n → f (r,l,(i : Int)) = some (.go (r,l))) : ∀ (m j i : Nat) (r : List Int) (l : List α),i + m = n.toNat → m < j → BL r → l.length + r.length ≤ K →
      iter f j (r,l,(i : Int)) = some (repO l (pRep P m r))
  | 0,j + 1,i,r,l,hi,hj,hr,hk => by
    rw [iter_succ,h2 r l i (by omega)]
    simp [pRep,repO]
  | m + 1,j + 1,i,r,l,hi,hj,hr,hk => by
    rw [iter_succ,h1 r l i hr (by omega) (by omega) hk,pRep];cases e : P r with
    | none => rfl
    | some q =>
      obtain ⟨x,t⟩ := q;have hl := hP.lt e;have := rep_run hP K h1 h2 m j (i + 1) t (l ++ [x]) (by omega) (by omega) (hP.w.bl e hr) (by simp; omega);simp only [Option.bind_some,repS];rw [this];cases pRep P m t with
      | none => rfl
      | some q2 => simp [repO]
theorem codes_run (y0 : List UInt8) (l0 : List Int) (y1 : Int) (y2 y3 : Int × T_reader) {r : List Int} (hr : BL r) (hl : r.length ≤ 10000000) (h0 : 0 ≤ y3.1 ∧ y3.1 < 34359738368) :
    iter (fun s : ((List Int) × (List T_Code) × Int) => F62_2_b y0 l0 y1 y2 y3 s.1 s.2.1 s.2.2) FUEL (r,[],(0 : Int)) = some (repO [] (pRep pCode y3.1.toNat r)) := by
  have := rep_run (f := fun s : ((List Int) × (List T_Code) × Int) => F62_2_b y0 l0 y1 y2 y3 s.1 s.2.1 s.2.2) pCode_suf (n := y3.1) 10000000
    (fun r l i hb hi hk hlk => by
      simp only [F62_2_b];rw [decide_eq_true hi,if_pos rfl,F81_is hb];cases e : pCode r with
      | none => rfl
      | some q =>
        simp only [res,pndL,Option.map_some,Option.bind_some];rw [more_nat (by simp; omega),Option.bind_some,wnat (by omega)]; rfl)
    (fun r l i hi => by simp only [F62_2_b]; rw [decide_eq_false hi,if_neg (by simp)]) y3.1.toNat FUEL 0 r [] (by omega) (by unfold FUEL; omega) hr (by simpa using hl)
  exact this
theorem params_run (y0 : List UInt8) (q : List Int × T_reader) (h : q.1.length ≤ 10000000) : iter (fun s : ((List Int) × Int) => F62_1_b y0 q s.1 s.2) FUEL ([],(0 : Int)) = some (.go q.1) := by
  have e := Ap.loop (l := q.1) (f := fun s : ((List Int) × Int) => F62_1_b y0 q s.1 s.2) (fun l => l) (fun i => (i : Int)) (fun _ a => [a]) (by omega)
    (fun j a y hj hy => by
      have := lt_of hj;simp only [F62_1_b,lt_dec this,if_true,idx_some hj,Option.bind_some];rw [more1 (by simpa using hy),Option.bind_some,wnat (by omega)])
    (fun y => by simp only [F62_1_b,ge_dec,Bool.false_eq_true,if_false]) []
  have e0 : (q.1.mapIdx fun _ a => [a]).flatten = q.1 := by rw [mapIdx_c]; simp
  rw [e0] at e;exact e (by show 0 + q.1.length ≤ 140737488355328; omega)
theorem F62_is {r : List Int} (hr : BL r) (hl : r.length ≤ 10000000) : F62 ⟨r⟩ = res (pUnit r) := by
  unfold F62 pUnit;rw [F61_is hr];cases e0 : pNum r with
  | none => rfl
  | some q =>
    obtain ⟨n,r0⟩ := q;have b0 := pNum_suf.bl e0 hr;have l0 := pNum_suf.w.le e0;obtain ⟨n',rfl⟩ := Int.eq_ofNat_of_zero_le (pNum_rng e0).1;simp only [res,pnd,Option.map_some,Option.bind_some,Int.toNat_natCast];rw [F80_is];cases e1 : pTake n' r0 with
    | none => rfl
    | some q =>
      obtain ⟨nm,r1⟩ := q;have b1 := (pTake_suw n').bl e1 b0;have l1 := (pTake_suw n').le e1;have bn : BL nm := by
        unfold pTake at e1
        split at e1
        · cases e1; exact b0.take _
        · cases e1
      simp only [res,pnd,Option.map_some,Option.bind_some];rw [bstr_bl bn];simp only [Option.bind_some];rw [F61_is b1];cases e2 : pNum r1 with
      | none => rfl
      | some q =>
        obtain ⟨p,r2⟩ := q;have b2 := pNum_suf.bl e2 b1;have l2 := pNum_suf.w.le e2;obtain ⟨p',rfl⟩ := Int.eq_ofNat_of_zero_le (pNum_rng e2).1;simp only [res,pnd,Option.map_some,Option.bind_some,Int.toNat_natCast];rw [F80_is];cases e3 : pTake p' r2 with
        | none => rfl
        | some q =>
          obtain ⟨ps,r3⟩ := q;have b3 := (pTake_suw p').bl e3 b2;have l3 := (pTake_suw p').le e3;have lp : ps.length ≤ 10000000 := by
            unfold pTake at e3
            split at e3
            · cases e3; rw [List.length_take]; omega
            · cases e3
          simp only [res,pnd,Option.map_some,Option.bind_some];rw [params_run _ _ lp];simp only [Option.bind_some];rw [take1];cases e4 : pByte r3 with
          | none => rfl
          | some q =>
            obtain ⟨rs,r4⟩ := q;have b4 := pByte_suf.bl e4 b3;have l4 := pByte_suf.w.le e4;simp only [pnd,Option.map_some,Option.bind_some,show idx [rs] (0 : Int) = some rs from rfl];rw [F61_is b4];cases e5 : pNum r4 with
            | none => rfl
            | some q =>
              obtain ⟨f,r5⟩ := q;have b5 := pNum_suf.bl e5 b4;have l5 := pNum_suf.w.le e5;simp only [res,pnd,Option.map_some,Option.bind_some];rw [F61_is b5];cases e6 : pNum r5 with
              | none => rfl
              | some q =>
                obtain ⟨m,r6⟩ := q;have b6 := pNum_suf.bl e6 b5;have l6 := pNum_suf.w.le e6;simp only [res,pnd,Option.map_some,Option.bind_some];rw [codes_run _ _ _ _ _ b6 (by omega) (pNum_rng e6)];cases pRep pCode m.toNat r6 with
                | none => rfl
                | some q => rfl
theorem F39_is {r : List Int} (hr : BL r) (hl : r.length ≤ 10000000) : F39 ⟨r⟩ = some (match pUnits r with | none => ([],false) | some q => (q.1,true)) := by
  unfold F39 pUnits;rw [F61_is hr];cases e0 : pNum r with
  | none => rfl
  | some q =>
    obtain ⟨n,r0⟩ := q;have b0 := pNum_suf.bl e0 hr;have l0 := pNum_suf.w.le e0;have hn := pNum_rng e0;simp only [res,Option.map_some,Option.bind_some];have := rep_run (f := fun s : ((List Int) × (List T_Unit) × Int) => F39_1_b (n,(⟨r0⟩ : T_reader)) s.1 s.2.1 s.2.2) pUnit_suf (n := n) 10000000
      (fun r l i hb hi hk hlk => by
        simp only [F39_1_b];rw [decide_eq_true hi,if_pos rfl,F62_is hb hk];cases e : pUnit r with
        | none => rfl
        | some q =>
          simp only [res,pndL,Option.map_some,Option.bind_some];rw [more_nat (by simp; omega),Option.bind_some,wnat (by omega)]; rfl)
      (fun r l i hi => by simp only [F39_1_b]; rw [decide_eq_false hi,if_neg (by simp)]) n.toNat FUEL 0 r0 [] (by omega) (by unfold FUEL; omega) b0 (by rw [List.length_nil,Nat.zero_add]; omega)
    have this : iter (fun s : ((List Int) × (List T_Unit) × Int) => F39_1_b (n,(⟨r0⟩ : T_reader)) s.1 s.2.1 s.2.2) FUEL (r0,[],(0 : Int)) = some (repO [] (pRep pUnit n.toNat r0)) := this;rw [this];cases pRep pUnit n.toNat r0 with
    | none => rfl
    | some q => rfl
end Go.Eng.Cop
namespace Go.Eng.Cop
open Go Go.Eng
set_option linter.unusedSectionVars false
set_option linter.unusedVariables false
set_option linter.unusedSimpArgs false
set_option maxRecDepth 20000
theorem ex_ite {α : Type} {c : Prop} [Decidable c] {a b : Option α} (h1 : ∃ r,a = some r) (h2 : ∃ r,b = some r) : ∃ r,(if c then a else b) = some r := by
  by_cases h : c
  · rw [if_pos h]; exact h1
  · rw [if_neg h]; exact h2
theorem of_some (op t : Int) : ∃ r,F84 op t = some r := by
  have w : ∃ r,F92 t = some r := ⟨_,F92_is t⟩;obtain ⟨w,hw⟩ := w;unfold F84;simp only [F84_j1,F84_j2,F84_j3,F84_j4,F84_j5,F84_j6,hw,Option.bind_some]
  repeat' (first | exact ⟨_,rfl⟩ | refine ex_ite ?_ ?_)
theorem tn_some (a b : Int) : ∃ r,F83 a b = some r := by
  unfold F83;simp only [F92_is,Option.bind_some]
  repeat' (first | exact ⟨_,rfl⟩ | refine ex_ite ?_ ?_)
theorem stv_1 (op ty to tr a b c bits : Int) (u : T_Unit) (n : Int) : F69 ⟨1,op,ty,to,tr,a,b,c,bits⟩ u n = some ((op == 0) && ((ty == 0) && ((to == 0) && ((tr == 0) && ((b == 0) && ((c == 0) && rb a 8)))))) := by
  simp only [F69,F69_j1,F69_j2,F69_j3,F69_j4,F69_j5,F69_j6,F69_j7,F69_j8,F69_j9,F85,F82_is,F75_is,F93_is,g1,ge_iff_le,gt_iff_lt,lt_not,Int.reduceBEq,Int.reduceLE,and_self,decide_true,Option.bind_some,Bool.not_true,Bool.false_eq_true,if_false,if_true,bne_not,Bool.not_not,Bool.not_false,beq_self_eq_true,Go.Eng.Cop.ty]
  generalize (op == 0) = p0
  generalize (ty == 0) = p1
  generalize (to == 0) = p2
  generalize (tr == 0) = p3
  generalize (b == 0) = p4
  generalize (c == 0) = p5
  generalize rb a 8 = p6
  cases p0 <;> cases p1 <;> cases p2 <;> cases p3 <;> cases p4 <;> cases p5 <;> cases p6 <;> rfl
theorem stv_2 (op ty to tr a b c bits : Int) (u : T_Unit) (n : Int) : F69 ⟨2,op,ty,to,tr,a,b,c,bits⟩ u n = some ((op == 0) && ((ty == 0) && ((to == 0) && ((tr == 0) && ((c == 0) && ((bits == 0) && (rb a 8 && rb b 8))))))) := by
  simp only [F69,F69_j1,F69_j2,F69_j3,F69_j4,F69_j5,F69_j6,F69_j7,F69_j8,F69_j9,F85,F82_is,F75_is,F93_is,g2,ge_iff_le,gt_iff_lt,lt_not,Int.reduceBEq,Int.reduceLE,and_self,decide_true,Option.bind_some,Bool.not_true,Bool.false_eq_true,if_false,if_true,bne_not,Bool.not_not,Bool.not_false,beq_self_eq_true,Go.Eng.Cop.ty]
  generalize (op == 0) = p0
  generalize (ty == 0) = p1
  generalize (to == 0) = p2
  generalize (tr == 0) = p3
  generalize (c == 0) = p4
  generalize (bits == 0) = p5
  generalize rb a 8 = p6
  generalize rb b 8 = p7
  cases p0 <;> cases p1 <;> cases p2 <;> cases p3 <;> cases p4 <;> cases p5 <;> cases p6 <;> cases p7 <;> rfl
theorem stv_3 (op ty to tr a b c bits : Int) (u : T_Unit) (n : Int) {r42 : Int × Bool} (h42 : F84 op ty = some r42) : F69 ⟨3,op,ty,to,tr,a,b,c,bits⟩ u n = some (r42.2 && ((to == 0) && ((tr == 0) && ((bits == 0) && (rb a 8 && (rb b 8 && (if sg op = true then (c == 0) else rb c 8))))))) := by
  simp only [F69,F69_j1,F69_j2,F69_j3,F69_j4,F69_j5,F69_j6,F69_j7,F69_j8,F69_j9,F85,F82_is,F75_is,F93_is,g3,h42,ge_iff_le,gt_iff_lt,lt_not,Int.reduceBEq,Int.reduceLE,and_self,decide_true,Option.bind_some,Bool.not_true,Bool.false_eq_true,if_false,if_true,bne_not,Bool.not_not,Bool.not_false,beq_self_eq_true,Go.Eng.Cop.ty]
  generalize (to == 0) = p0
  generalize (tr == 0) = p1
  generalize (bits == 0) = p2
  generalize r42.2 = p3
  generalize rb a 8 = p4
  generalize rb b 8 = p5
  generalize sg op = p6
  generalize (c == 0) = p7
  generalize rb c 8 = p8
  cases p0 <;> cases p1 <;> cases p2 <;> cases p3 <;> cases p4 <;> cases p5 <;> cases p6 <;> cases p7 <;> cases p8 <;> rfl
theorem stv_4 (op ty to tr a b c bits : Int) (u : T_Unit) (n : Int) {v41 : Bool} (h41 : F83 to ty = some v41) : F69 ⟨4,op,ty,to,tr,a,b,c,bits⟩ u n = some (v41 && ((op == 0) && ((tr == 0) && ((c == 0) && ((bits == 0) && (rb a 8 && rb b 8)))))) := by
  simp only [F69,F69_j1,F69_j2,F69_j3,F69_j4,F69_j5,F69_j6,F69_j7,F69_j8,F69_j9,F85,F82_is,F75_is,F93_is,g4,h41,ge_iff_le,gt_iff_lt,lt_not,Int.reduceBEq,Int.reduceLE,and_self,decide_true,Option.bind_some,Bool.not_true,Bool.false_eq_true,if_false,if_true,bne_not,Bool.not_not,Bool.not_false,beq_self_eq_true,Go.Eng.Cop.ty]
  generalize (op == 0) = p0
  generalize (tr == 0) = p1
  generalize (c == 0) = p2
  generalize (bits == 0) = p3
  generalize v41 = p4
  generalize rb a 8 = p5
  generalize rb b 8 = p6
  cases p0 <;> cases p1 <;> cases p2 <;> cases p3 <;> cases p4 <;> cases p5 <;> cases p6 <;> rfl
theorem stv_5 (op ty to tr a b c bits : Int) (u : T_Unit) (n : Int) : F69 ⟨5,op,ty,to,tr,a,b,c,bits⟩ u n = some ((op == 0) && ((ty == 0) && ((to == 0) && ((tr == 0) && ((c == 0) && ((bits == 0) && (rb a 8 && rb b u.fFrame))))))) := by
  simp only [F69,F69_j1,F69_j2,F69_j3,F69_j4,F69_j5,F69_j6,F69_j7,F69_j8,F69_j9,F85,F82_is,F75_is,F93_is,g5,ge_iff_le,gt_iff_lt,lt_not,Int.reduceBEq,Int.reduceLE,and_self,decide_true,Option.bind_some,Bool.not_true,Bool.false_eq_true,if_false,if_true,bne_not,Bool.not_not,Bool.not_false,beq_self_eq_true,Go.Eng.Cop.ty]
  generalize (op == 0) = p0
  generalize (ty == 0) = p1
  generalize (to == 0) = p2
  generalize (tr == 0) = p3
  generalize (c == 0) = p4
  generalize (bits == 0) = p5
  generalize rb a 8 = p6
  generalize rb b u.fFrame = p7
  cases p0 <;> cases p1 <;> cases p2 <;> cases p3 <;> cases p4 <;> cases p5 <;> cases p6 <;> cases p7 <;> rfl
theorem stv_6 (op ty to tr a b c bits : Int) (u : T_Unit) (n : Int) : F69 ⟨6,op,ty,to,tr,a,b,c,bits⟩ u n = some ((op == 0) && ((ty == 0) && ((to == 0) && ((tr == 0) && ((c == 0) && ((bits == 0) && (rb a u.fFrame && rb b 8))))))) := by
  simp only [F69,F69_j1,F69_j2,F69_j3,F69_j4,F69_j5,F69_j6,F69_j7,F69_j8,F69_j9,F85,F82_is,F75_is,F93_is,g6,ge_iff_le,gt_iff_lt,lt_not,Int.reduceBEq,Int.reduceLE,and_self,decide_true,Option.bind_some,Bool.not_true,Bool.false_eq_true,if_false,if_true,bne_not,Bool.not_not,Bool.not_false,beq_self_eq_true,Go.Eng.Cop.ty]
  generalize (op == 0) = p0
  generalize (ty == 0) = p1
  generalize (to == 0) = p2
  generalize (tr == 0) = p3
  generalize (c == 0) = p4
  generalize (bits == 0) = p5
  generalize rb a u.fFrame = p6
  generalize rb b 8 = p7
  cases p0 <;> cases p1 <;> cases p2 <;> cases p3 <;> cases p4 <;> cases p5 <;> cases p6 <;> cases p7 <;> rfl
theorem stv_7 (op ty to tr a b c bits : Int) (u : T_Unit) (n : Int) : F69 ⟨7,op,ty,to,tr,a,b,c,bits⟩ u n = some ((op == 0) && ((ty == 0) && ((to == 0) && ((tr == 0) && (rb a 8 && (rb b 8 && (decide (1 ≤ bits) && (decide (bits ≤ 256) && (decide (0 ≤ c) && decide (c ≤ IntKind.i64.wrap (u.fFrame - IntKind.i64.wrap bits))))))))))) := by
  simp only [F69,F69_j1,F69_j2,F69_j3,F69_j4,F69_j5,F69_j6,F69_j7,F69_j8,F69_j9,F85,F82_is,F75_is,F93_is,g7,ge_iff_le,gt_iff_lt,lt_not,Int.reduceBEq,Int.reduceLE,and_self,decide_true,Option.bind_some,Bool.not_true,Bool.false_eq_true,if_false,if_true,bne_not,Bool.not_not,Bool.not_false,beq_self_eq_true,Go.Eng.Cop.ty]
  generalize (op == 0) = p0
  generalize (ty == 0) = p1
  generalize (to == 0) = p2
  generalize (tr == 0) = p3
  generalize rb a 8 = p4
  generalize rb b 8 = p5
  generalize decide (1 ≤ bits) = p6
  generalize decide (bits ≤ 256) = p7
  generalize decide (0 ≤ c) = p8
  generalize decide (c ≤ IntKind.i64.wrap (u.fFrame - IntKind.i64.wrap bits)) = p9
  cases p0 <;> cases p1 <;> cases p2 <;> cases p3 <;> cases p4 <;> cases p5 <;> cases p6 <;> cases p7 <;> cases p8 <;> cases p9 <;> rfl
theorem stv_8 (op ty to tr a b c bits : Int) (u : T_Unit) (n : Int) : F69 ⟨8,op,ty,to,tr,a,b,c,bits⟩ u n = some ((op == 0) && ((ty == 0) && ((to == 0) && ((tr == 0) && (rb a 8 && (rb b 8 && (decide (1 ≤ bits) && (decide (bits ≤ 256) && (decide (0 ≤ c) && decide (c ≤ IntKind.i64.wrap (u.fFrame - IntKind.i64.wrap bits))))))))))) := by
  simp only [F69,F69_j1,F69_j2,F69_j3,F69_j4,F69_j5,F69_j6,F69_j7,F69_j8,F69_j9,F85,F82_is,F75_is,F93_is,g8,ge_iff_le,gt_iff_lt,lt_not,Int.reduceBEq,Int.reduceLE,and_self,decide_true,Option.bind_some,Bool.not_true,Bool.false_eq_true,if_false,if_true,bne_not,Bool.not_not,Bool.not_false,beq_self_eq_true,Go.Eng.Cop.ty]
  generalize (op == 0) = p0
  generalize (ty == 0) = p1
  generalize (to == 0) = p2
  generalize (tr == 0) = p3
  generalize rb a 8 = p4
  generalize rb b 8 = p5
  generalize decide (1 ≤ bits) = p6
  generalize decide (bits ≤ 256) = p7
  generalize decide (0 ≤ c) = p8
  generalize decide (c ≤ IntKind.i64.wrap (u.fFrame - IntKind.i64.wrap bits)) = p9
  cases p0 <;> cases p1 <;> cases p2 <;> cases p3 <;> cases p4 <;> cases p5 <;> cases p6 <;> cases p7 <;> cases p8 <;> cases p9 <;> rfl
theorem stv_9 (op ty to tr a b c bits : Int) (u : T_Unit) (n : Int) : F69 ⟨9,op,ty,to,tr,a,b,c,bits⟩ u n = some ((op == 0) && ((ty == 0) && ((to == 0) && ((tr == 0) && ((a == 0) && ((b == 0) && (decide (1 ≤ bits) && (decide (bits ≤ 256) && (decide (0 ≤ c) && decide (c ≤ IntKind.i64.wrap (u.fFrame - IntKind.i64.wrap bits))))))))))) := by
  simp only [F69,F69_j1,F69_j2,F69_j3,F69_j4,F69_j5,F69_j6,F69_j7,F69_j8,F69_j9,F85,F82_is,F75_is,F93_is,g9,ge_iff_le,gt_iff_lt,lt_not,Int.reduceBEq,Int.reduceLE,and_self,decide_true,Option.bind_some,Bool.not_true,Bool.false_eq_true,if_false,if_true,bne_not,Bool.not_not,Bool.not_false,beq_self_eq_true,Go.Eng.Cop.ty]
  generalize (op == 0) = p0
  generalize (ty == 0) = p1
  generalize (to == 0) = p2
  generalize (tr == 0) = p3
  generalize (a == 0) = p4
  generalize (b == 0) = p5
  generalize decide (1 ≤ bits) = p6
  generalize decide (bits ≤ 256) = p7
  generalize decide (0 ≤ c) = p8
  generalize decide (c ≤ IntKind.i64.wrap (u.fFrame - IntKind.i64.wrap bits)) = p9
  cases p0 <;> cases p1 <;> cases p2 <;> cases p3 <;> cases p4 <;> cases p5 <;> cases p6 <;> cases p7 <;> cases p8 <;> cases p9 <;> rfl
theorem stv_10 (op ty to tr a b c bits : Int) (u : T_Unit) (n : Int) : F69 ⟨10,op,ty,to,tr,a,b,c,bits⟩ u n = some ((op == 0) && ((ty == 0) && ((to == 0) && ((tr == 0) && ((c == 0) && ((bits == 0) && (rb a 8 && rb b ((List.length u.fParams : Nat) : Int)))))))) := by
  simp only [F69,F69_j1,F69_j2,F69_j3,F69_j4,F69_j5,F69_j6,F69_j7,F69_j8,F69_j9,F85,F82_is,F75_is,F93_is,g10,ge_iff_le,gt_iff_lt,lt_not,Int.reduceBEq,Int.reduceLE,and_self,decide_true,Option.bind_some,Bool.not_true,Bool.false_eq_true,if_false,if_true,bne_not,Bool.not_not,Bool.not_false,beq_self_eq_true,Go.Eng.Cop.ty]
  generalize (op == 0) = p0
  generalize (ty == 0) = p1
  generalize (to == 0) = p2
  generalize (tr == 0) = p3
  generalize (c == 0) = p4
  generalize (bits == 0) = p5
  generalize rb a 8 = p6
  generalize rb b ((List.length u.fParams : Nat) : Int) = p7
  cases p0 <;> cases p1 <;> cases p2 <;> cases p3 <;> cases p4 <;> cases p5 <;> cases p6 <;> cases p7 <;> rfl
theorem stv_11 (op ty to tr a b c bits : Int) (u : T_Unit) (n : Int) : F69 ⟨11,op,ty,to,tr,a,b,c,bits⟩ u n = some ((op == 0) && ((ty == 0) && ((to == 0) && ((tr == 0) && ((c == 0) && ((bits == 0) && (rb a 8 && rb b 8))))))) := by
  simp only [F69,F69_j1,F69_j2,F69_j3,F69_j4,F69_j5,F69_j6,F69_j7,F69_j8,F69_j9,F85,F82_is,F75_is,F93_is,g11,ge_iff_le,gt_iff_lt,lt_not,Int.reduceBEq,Int.reduceLE,and_self,decide_true,Option.bind_some,Bool.not_true,Bool.false_eq_true,if_false,if_true,bne_not,Bool.not_not,Bool.not_false,beq_self_eq_true,Go.Eng.Cop.ty]
  generalize (op == 0) = p0
  generalize (ty == 0) = p1
  generalize (to == 0) = p2
  generalize (tr == 0) = p3
  generalize (c == 0) = p4
  generalize (bits == 0) = p5
  generalize rb a 8 = p6
  generalize rb b 8 = p7
  cases p0 <;> cases p1 <;> cases p2 <;> cases p3 <;> cases p4 <;> cases p5 <;> cases p6 <;> cases p7 <;> rfl
theorem stv_12 (op ty to tr a b c bits : Int) (u : T_Unit) (n : Int) : F69 ⟨12,op,ty,to,tr,a,b,c,bits⟩ u n = some ((op == 0) && ((ty == 0) && ((to == 0) && ((tr == 0) && ((b == 0) && ((c == 0) && ((bits == 0) && rb a n))))))) := by
  simp only [F69,F69_j1,F69_j2,F69_j3,F69_j4,F69_j5,F69_j6,F69_j7,F69_j8,F69_j9,F85,F82_is,F75_is,F93_is,g12,ge_iff_le,gt_iff_lt,lt_not,Int.reduceBEq,Int.reduceLE,and_self,decide_true,Option.bind_some,Bool.not_true,Bool.false_eq_true,if_false,if_true,bne_not,Bool.not_not,Bool.not_false,beq_self_eq_true,Go.Eng.Cop.ty]
  generalize (op == 0) = p0
  generalize (ty == 0) = p1
  generalize (to == 0) = p2
  generalize (tr == 0) = p3
  generalize (b == 0) = p4
  generalize (c == 0) = p5
  generalize (bits == 0) = p6
  generalize rb a n = p7
  cases p0 <;> cases p1 <;> cases p2 <;> cases p3 <;> cases p4 <;> cases p5 <;> cases p6 <;> cases p7 <;> rfl
theorem stv_13 (op ty to tr a b c bits : Int) (u : T_Unit) (n : Int) : F69 ⟨13,op,ty,to,tr,a,b,c,bits⟩ u n = some ((op == 0) && ((to == 0) && ((tr == 0) && ((b == 0) && ((c == 0) && ((bits == 0) && (rb a 8 && (decide (1 ≤ ty) && decide (ty ≤ 5))))))))) := by
  simp only [F69,F69_j1,F69_j2,F69_j3,F69_j4,F69_j5,F69_j6,F69_j7,F69_j8,F69_j9,F85,F82_is,F75_is,F93_is,g13,ge_iff_le,gt_iff_lt,lt_not,Int.reduceBEq,Int.reduceLE,and_self,decide_true,Option.bind_some,Bool.not_true,Bool.false_eq_true,if_false,if_true,bne_not,Bool.not_not,Bool.not_false,beq_self_eq_true,Go.Eng.Cop.ty]
  generalize (op == 0) = p0
  generalize (to == 0) = p1
  generalize (tr == 0) = p2
  generalize (b == 0) = p3
  generalize (c == 0) = p4
  generalize (bits == 0) = p5
  generalize rb a 8 = p6
  generalize decide (1 ≤ ty) = p7
  generalize decide (ty ≤ 5) = p8
  cases p0 <;> cases p1 <;> cases p2 <;> cases p3 <;> cases p4 <;> cases p5 <;> cases p6 <;> cases p7 <;> cases p8 <;> rfl
theorem stv_14 (op ty to tr a b c bits : Int) (u : T_Unit) (n : Int) : F69 ⟨14,op,ty,to,tr,a,b,c,bits⟩ u n = some ((op == 0) && ((ty == 0) && ((to == 0) && ((tr == 0) && ((b == 0) && ((c == 0) && ((bits == 0) && rb a ((List.length u.fCode : Nat) : Int)))))))) := by
  simp only [F69,F69_j1,F69_j2,F69_j3,F69_j4,F69_j5,F69_j6,F69_j7,F69_j8,F69_j9,F85,F82_is,F75_is,F93_is,g14,ge_iff_le,gt_iff_lt,lt_not,Int.reduceBEq,Int.reduceLE,and_self,decide_true,Option.bind_some,Bool.not_true,Bool.false_eq_true,if_false,if_true,bne_not,Bool.not_not,Bool.not_false,beq_self_eq_true,Go.Eng.Cop.ty]
  generalize (op == 0) = p0
  generalize (ty == 0) = p1
  generalize (to == 0) = p2
  generalize (tr == 0) = p3
  generalize (b == 0) = p4
  generalize (c == 0) = p5
  generalize (bits == 0) = p6
  generalize rb a ((List.length u.fCode : Nat) : Int) = p7
  cases p0 <;> cases p1 <;> cases p2 <;> cases p3 <;> cases p4 <;> cases p5 <;> cases p6 <;> cases p7 <;> rfl
theorem stv_15 (op ty to tr a b c bits : Int) (u : T_Unit) (n : Int) : F69 ⟨15,op,ty,to,tr,a,b,c,bits⟩ u n = some ((op == 0) && ((ty == 0) && ((to == 0) && ((tr == 0) && ((bits == 0) && (rb a 8 && (rb b ((List.length u.fCode : Nat) : Int) && rb c ((List.length u.fCode : Nat) : Int)))))))) := by
  simp only [F69,F69_j1,F69_j2,F69_j3,F69_j4,F69_j5,F69_j6,F69_j7,F69_j8,F69_j9,F85,F82_is,F75_is,F93_is,g15,ge_iff_le,gt_iff_lt,lt_not,Int.reduceBEq,Int.reduceLE,and_self,decide_true,Option.bind_some,Bool.not_true,Bool.false_eq_true,if_false,if_true,bne_not,Bool.not_not,Bool.not_false,beq_self_eq_true,Go.Eng.Cop.ty]
  generalize (op == 0) = p0
  generalize (ty == 0) = p1
  generalize (to == 0) = p2
  generalize (tr == 0) = p3
  generalize (bits == 0) = p4
  generalize rb a 8 = p5
  generalize rb b ((List.length u.fCode : Nat) : Int) = p6
  generalize rb c ((List.length u.fCode : Nat) : Int) = p7
  cases p0 <;> cases p1 <;> cases p2 <;> cases p3 <;> cases p4 <;> cases p5 <;> cases p6 <;> cases p7 <;> rfl
theorem stv_16 (op ty to tr a b c bits : Int) (u : T_Unit) (n : Int) : F69 ⟨16,op,ty,to,tr,a,b,c,bits⟩ u n = some ((op == 0) && ((ty == 0) && ((to == 0) && ((tr == 0) && ((b == 0) && ((c == 0) && ((bits == 0) && rb a 8))))))) := by
  simp only [F69,F69_j1,F69_j2,F69_j3,F69_j4,F69_j5,F69_j6,F69_j7,F69_j8,F69_j9,F85,F82_is,F75_is,F93_is,g16,ge_iff_le,gt_iff_lt,lt_not,Int.reduceBEq,Int.reduceLE,and_self,decide_true,Option.bind_some,Bool.not_true,Bool.false_eq_true,if_false,if_true,bne_not,Bool.not_not,Bool.not_false,beq_self_eq_true,Go.Eng.Cop.ty]
  generalize (op == 0) = p0
  generalize (ty == 0) = p1
  generalize (to == 0) = p2
  generalize (tr == 0) = p3
  generalize (b == 0) = p4
  generalize (c == 0) = p5
  generalize (bits == 0) = p6
  generalize rb a 8 = p7
  cases p0 <;> cases p1 <;> cases p2 <;> cases p3 <;> cases p4 <;> cases p5 <;> cases p6 <;> cases p7 <;> rfl
theorem stv_17 (op ty to tr a b c bits : Int) (u : T_Unit) (n : Int) : F69 ⟨17,op,ty,to,tr,a,b,c,bits⟩ u n = some ((op == 0) && ((ty == 0) && ((to == 0) && ((a == 0) && ((b == 0) && ((c == 0) && ((bits == 0) && (decide (1 ≤ tr) && decide (tr ≤ 3))))))))) := by
  simp only [F69,F69_j1,F69_j2,F69_j3,F69_j4,F69_j5,F69_j6,F69_j7,F69_j8,F69_j9,F85,F82_is,F75_is,F93_is,g17,ge_iff_le,gt_iff_lt,lt_not,Int.reduceBEq,Int.reduceLE,and_self,decide_true,Option.bind_some,Bool.not_true,Bool.false_eq_true,if_false,if_true,bne_not,Bool.not_not,Bool.not_false,beq_self_eq_true,Go.Eng.Cop.ty]
  generalize (op == 0) = p0
  generalize (ty == 0) = p1
  generalize (to == 0) = p2
  generalize (a == 0) = p3
  generalize (b == 0) = p4
  generalize (c == 0) = p5
  generalize (bits == 0) = p6
  generalize decide (1 ≤ tr) = p7
  generalize decide (tr ≤ 3) = p8
  cases p0 <;> cases p1 <;> cases p2 <;> cases p3 <;> cases p4 <;> cases p5 <;> cases p6 <;> cases p7 <;> cases p8 <;> rfl
end Go.Eng.Cop
