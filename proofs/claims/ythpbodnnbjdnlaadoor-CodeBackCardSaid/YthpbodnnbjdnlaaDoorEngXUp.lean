/- Functions of this seat, run on unknown values by the rules of the small machine (no condition beyond those stated). -/
import Derived.Test.YthpbodnnbjdnlaaDoorEngCUp
import Derived.Laws.StructEq
import Derived.ChangeKeysEq
import Derived.Test.YthpbodnnbjdnlaaDoorEngHUp
import Derived.MapKept
namespace Go.Eng
open Go
set_option linter.unusedSectionVars false
set_option linter.unusedVariables false
set_option linter.unusedSimpArgs false
variable [Glob]
theorem nan_iff (w : Nat) : (Ieee.double.read w).isNaN = decide (9218868437227405312 < w % 9223372036854775808) := by
  have hs : Ieee.double.signWeight = 9223372036854775808 := by decide
  have hb : Ieee.double.binade = 4503599627370496 := by decide
  have hi : Ieee.double.infRung = 9218868437227405312 := by decide
  unfold Ieee.Format.read;simp only [hs,hb,hi]
  generalize w % 9223372036854775808 = r
  by_cases h1 : r < 4503599627370496
  · rw [if_pos h1]; symm; simp only [Ieee.Datum.isNaN]; exact decide_eq_false (by omega)
  · rw [if_neg h1]
    by_cases h2 : r < 9218868437227405312
    · rw [if_pos h2]; symm; simp only [Ieee.Datum.isNaN]; exact decide_eq_false (by omega)
    · rw [if_neg h2]
      by_cases h3 : r = 9218868437227405312
      · rw [if_pos h3]; symm; simp only [Ieee.Datum.isNaN]; exact decide_eq_false (by omega)
      · rw [if_neg h3]; symm; simp only [Ieee.Datum.isNaN]; exact decide_eq_true (by omega)
theorem nan_neg {b : Nat} (h : (Ieee.double.read b).isNaN = true) : (Ieee.double.read (b ^^^ 9223372036854775808)).isNaN = true := by
  rw [nan_iff] at h ⊢;have e : (b ^^^ 9223372036854775808) % 9223372036854775808 = b % 9223372036854775808 := by
    have := Nat.xor_mod_two_pow (a := b) (b := 9223372036854775808) (n := 63)
    simpa using this
  rw [e]; exact h
theorem nan_cut (x y t : Nat) : (Ieee.double.read ((Question.nanBits .f64 x y).cut t)).isNaN = true := by
  rw [nan_iff];simp only [Question.cut];apply decide_eq_true;have h1 : t / 2 % (2 ^ 52 - 1) < 2 ^ 52 - 1 := Nat.mod_lt _ (by decide);have h2 : t % 2 < 2 := Nat.mod_lt _ (by decide)
  generalize t / 2 % (2 ^ 52 - 1) = r at *
  generalize t % 2 = s at *
  have : s = 0 ∨ s = 1 := by omega
  rcases this with rfl | rfl <;> omega
theorem quiet_nan (s : Bool) (t : Nat) : (Ieee.double.read (Ieee.double.write (.nan s (Ieee.double.quiet t)))).isNaN = true := by
  have hs : Ieee.double.signWeight = 9223372036854775808 := by decide
  have hb : Ieee.double.binade = 2 ^ 52 := by decide
  have hi : Ieee.double.infRung = 9218868437227405312 := by decide
  rw [nan_iff];simp only [Ieee.Format.write,Ieee.Format.word,hs,hb,hi];have hq : (Ieee.double.quiet t % 2 ^ 52).testBit 51 = true := by
    rw [Nat.testBit_mod_two_pow];show (decide (51 < 52) && (t ||| 2 ^ 51).testBit 51) = true;have h51 : Nat.testBit (2 ^ 51) 51 = true := by decide
    rw [Nat.testBit_or,h51]; simp
  have h0 : Ieee.double.quiet t % 2 ^ 52 ≠ 0 := by intro h; rw [h] at hq; simp at hq
  have h1 : Ieee.double.quiet t % 2 ^ 52 < 2 ^ 52 := Nat.mod_lt _ (by decide)
  generalize Ieee.double.quiet t % 2 ^ 52 = r at *
  apply decide_eq_true;cases s
  · simp only [Bool.false_eq_true,if_false]; omega
  · simp only [if_true]; omega
section
variable {wr : Nat → Prop} {W : World} {own : Own} {P : Program}
theorem fl_val {a : Option Nat} {v' : Value} (h : VR wr W own (.fl a) v') : ∃ b,v' = .float .f64 b ∧ ((a = some b) ∨ (a = none ∧ (Ieee.double.read b).isNaN = true)) := by
  cases h with
  | flt b => exact ⟨b,rfl,.inl rfl⟩
  | fnan b h => exact ⟨b,rfl,.inr ⟨rfl,h⟩⟩
theorem sum_nan {d e : Ieee.Datum} (h : d.isNaN = true ∨ e.isNaN = true) : d.sum e = none := by
  cases d <;> cases e <;> simp [Ieee.Datum.isNaN,Ieee.Datum.sum] at h ⊢
theorem prod_nan {d e : Ieee.Datum} (h : d.isNaN = true ∨ e.isNaN = true) : d.product e = none := by
  cases d <;> cases e <;> simp [Ieee.Datum.isNaN,Ieee.Datum.product] at h ⊢
theorem quot_nan {d e : Ieee.Datum} (n : Nat) (h : d.isNaN = true ∨ e.isNaN = true) : d.quotient n e = none := by
  cases d <;> cases e <;> simp [Ieee.Datum.isNaN,Ieee.Datum.quotient] at h ⊢
theorem ord_nan {d e : Ieee.Datum} (h : d.isNaN = true ∨ e.isNaN = true) : d.order e = none := by
  cases d <;> cases e <;> simp [Ieee.Datum.isNaN,Ieee.Datum.order] at h ⊢
theorem opp_nan (d : Ieee.Datum) : d.opposite.isNaN = d.isNaN := by cases d <;> rfl
theorem flA_eq {f : Nat → Nat → Option Nat} (hf : ∀ x y,(Ieee.double.read x).isNaN = true ∨ (Ieee.double.read y).isNaN = true → f x y = none) {a b : Option Nat} {x y : Nat}
    (ha : a = some x ∨ (a = none ∧ (Ieee.double.read x).isNaN = true)) (hb : b = some y ∨ (b = none ∧ (Ieee.double.read y).isNaN = true)) : flA f a b = f x y := by
  rcases ha with rfl | ⟨rfl,ha⟩ <;> rcases hb with rfl | ⟨rfl,hb⟩
  · rfl
  · rw [hf x y (.inr hb)]; rfl
  · rw [hf x y (.inl ha)]; rfl
  · rw [hf x y (.inl ha)]; rfl
theorem flO_eq {a b : Option Nat} {x y : Nat} (ha : a = some x ∨ (a = none ∧ (Ieee.double.read x).isNaN = true)) (hb : b = some y ∨ (b = none ∧ (Ieee.double.read y).isNaN = true)) :
    flO a b = Ieee.double.order x y := by
  have hf : ∀ x y,(Ieee.double.read x).isNaN = true ∨ (Ieee.double.read y).isNaN = true → Ieee.double.order x y = none := fun x y h => ord_nan h
  rcases ha with rfl | ⟨rfl,ha⟩ <;> rcases hb with rfl | ⟨rfl,hb⟩
  · rfl
  · rw [hf x y (.inr hb)]; rfl
  · rw [hf x y (.inl ha)]; rfl
  · rw [hf x y (.inl ha)]; rfl
theorem ari_run (op : BinOp) (f : Nat → Nat → Option Nat) {x y : Nat} (h : Op.floatArith op .f64 x y = ((match f x y with | some r => pure (.float .f64 r) | none => do pure (.float .f64 (← choose (.nanBits .f64 x y)))) : Sem Value)) :
    ∃ v' W',(Op.floatArith op .f64 x y).run P W = .ok v' W' ∧ Gl W W' ∧ VR wr W' own (.fl (f x y)) v' := by
  rw [h];cases hf : f x y with
  | some r => exact ⟨_,W,rfl,Gl.refl _,.flt r⟩
  | none =>
    refine ⟨.float .f64 ((Question.nanBits .f64 x y).cut (W.tape W.drawn (.nanBits .f64 x y))),{ W with drawn := W.drawn + 1 },rfl,Gl.drawn _ _,.fnan _ (nan_cut _ _ _)⟩
theorem eqGuard_float (op : BinOp) (t : TypeId) (xo yo : Operand) (k k' : FloatKind) (a b : Nat) : eqGuard op t xo yo (.float k a) (.float k' b) = pure () := by
  cases op <;> rfl
theorem fbin_run {op : BinOp} {x y v : V} {x' y' : Value} {t : TypeId} {xo yo : Operand} (hx : VR wr W own x x') (hy : VR wr W own y y') (h : fbinV op x y = some v) :
    ∃ v' W',(do eqGuard op t xo yo x' y'; binOp op t x' y' : Sem Value).run P W = .ok v' W' ∧ Gl W W' ∧ VR wr W' own v v' := by
  unfold fbinV at h
  split at h
  case h_2 => cases h
  rename_i a b
  obtain ⟨m,rfl,hm⟩ := fl_val hx;obtain ⟨n,rfl,hn⟩ := fl_val hy;rw [eqGuard_float];have ho := flO_eq hm hn;cases op <;> dsimp only at h <;> (try (cases h; done)) <;> cases h
  · rw [flA_eq (f := Ieee.double.add) (fun x y h => by show ((Ieee.double.read x).sum (Ieee.double.read y)).map _ = none; rw [sum_nan h]; rfl) hm hn];exact ari_run .add Ieee.double.add rfl
  · rw [flA_eq (f := Ieee.double.sub) (fun x y h => by show ((Ieee.double.read x).sum (Ieee.double.read y).opposite).map _ = none; rw [sum_nan (by rw [opp_nan]; exact h)]; rfl) hm hn];exact ari_run .sub Ieee.double.sub rfl
  · rw [flA_eq (f := Ieee.double.mul) (fun x y h => by show ((Ieee.double.read x).product (Ieee.double.read y)).map _ = none; rw [prod_nan h]; rfl) hm hn];exact ari_run .mul Ieee.double.mul rfl
  · rw [flA_eq (f := Ieee.double.div) (fun x y h => by show ((Ieee.double.read x).quotient _ (Ieee.double.read y)).map _ = none; rw [quot_nan _ h]; rfl) hm hn];exact ari_run .quo Ieee.double.div rfl
  all_goals (rw [ho]; exact ⟨_,W,rfl,Gl.refl _,.bool _⟩)
theorem fneg_run {x v : V} {x' : Value} (hx : VR wr W own x x') (h : fnegV x = some v) : ∃ v',(Op.unary .neg x').run P W = .ok v' W ∧ VR wr W own v v' := by
  unfold fnegV at h
  split at h
  · cases hx; cases h; exact ⟨_,rfl,.flt _⟩
  · cases hx with
    | fnan b hb => cases h; exact ⟨_,rfl,.fnan _ (nan_neg hb)⟩
  · cases h
theorem i2f_run {s d : TypeId} (hs : hasT P s = true) (hd : P.underlying d = some (.float .f64)) {x v : V} {x' : Value} (hx : VR wr W own x x') (h : i2fV x = some v) :
    ∃ v',(convert s d x').run P W = .ok v' W ∧ VR wr W own v v' := by
  unfold i2fV at h
  split at h
  · rename_i k n
    cases hx; cases h;obtain ⟨ds,hds⟩ := Option.isSome_iff_exists.mp (show (P.underlying s).isSome = true from hs);refine ⟨.float .f64 (Ieee.double.write (.number (n < 0) n.natAbs 0)),?_,.flt _⟩;simp only [convert,Sem.run_bind,run_underlying hds,run_underlying hd,Result.andThen_ok];cases ds <;> rfl
  · cases h
theorem f2i_run {s d : TypeId} {k : IntKind} (hs : hasT P s = true) (hd : P.underlying d = some (.int k)) {x v : V} {x' : Value} (hx : VR wr W own x x') (h : f2iV k x = some v) :
    ∃ v',(convert s d x').run P W = .ok v' W ∧ VR wr W own v v' := by
  unfold f2iV at h
  split at h
  · rename_i b
    cases hx
    split at h
    · rename_i n hn
      split at h
      · rename_i hk
        cases h;obtain ⟨ds,hds⟩ := Option.isSome_iff_exists.mp (show (P.underlying s).isSome = true from hs);refine ⟨.int k n,?_,.int _ _⟩;have e : (Conv.floatToInt .f64 b k).run P W = .ok (.int k n) W := by
          unfold Conv.floatToInt;show (match (Ieee.double.read b).toInt .zero with | some n => _ | none => _ : Sem Value).run P W = _;rw [hn];simp only [hk,and_self,if_true]; rfl
        simp only [convert,Sem.run_bind,run_underlying hds,run_underlying hd,Result.andThen_ok];cases ds <;> exact e
      · cases h
    · cases h
  · cases h
theorem xc_rows : (Extern.allNextRows.lookup "math.Float64bits").isNone = true ∧ (Extern.allNextRows.lookup "math.Float64frombits").isNone = true ∧ (Extern.allNextRows.lookup "math.archTrunc").isNone = true ∧ (Extern.allNextRows.lookup "").isNone = true := by
  refine ⟨?_,?_,?_,?_⟩ <;> decide +kernel
theorem xc_gen : (Extern.allGenericRows.lookup "math.Float64bits").isNone = true ∧ (Extern.allGenericRows.lookup "math.Float64frombits").isNone = true ∧ (Extern.allGenericRows.lookup "math.archTrunc").isNone = true := by
  refine ⟨?_,?_,?_⟩ <;> decide +kernel
theorem xc_typ : (Extern.allTypedRows.lookup "math.Float64bits").isNone = true ∧ (Extern.allTypedRows.lookup "math.Float64frombits").isNone = true ∧ (Extern.allTypedRows.lookup "math.archTrunc").isNone = true := by
  refine ⟨?_,?_,?_⟩ <;> decide +kernel
theorem xc_all : Extern.allRows.lookup "math.Float64bits" = some Extern.MathFloatBits.float64bits ∧ Extern.allRows.lookup "math.Float64frombits" = some Extern.MathFloatBits.float64frombits ∧ Extern.allRows.lookup "math.archTrunc" = some (Extern.MathFloor.toIntegral "math.archTrunc" .zero) := by
  refine ⟨?_,?_,?_⟩ <;> kernel_rfl
def XF.fn : XF → Array Value → Sem Value
  | .bits => Extern.MathFloatBits.float64bits
  | .frombits => Extern.MathFloatBits.float64frombits
  | .trunc => Extern.MathFloor.toIntegral "math.archTrunc" .zero
theorem xc_next {fn : Func} {e : XF} (h1 : fn.name = e.name) (h2 : fn.origin = "") : Extern.findNext fn = none := by
  obtain ⟨a,b,c,d⟩ := xc_rows;rw [Option.isNone_iff_eq_none] at a b c d;cases e <;> simp only [XF.name] at h1 <;> simp [Extern.findNext,h1,h2,a,b,c,d]
theorem xc_find {fn : Func} {e : XF} (h1 : fn.name = e.name) : Extern.find fn = some e.fn := by
  obtain ⟨a,b,c⟩ := xc_gen;obtain ⟨a',b',c'⟩ := xc_typ;obtain ⟨a2,b2,c2⟩ := xc_all;rw [Option.isNone_iff_eq_none] at a b c a' b' c';cases e <;> simp only [XF.name] at h1 <;> simp [Extern.find,h1,a,b,c,a',b',c',a2,b2,c2,XF.fn]
theorem trunc_eq (b : Nat) : Extern.MathFloor.toIntegral "math.archTrunc" .zero #[.float .f64 b] = (match Ieee.double.read b with
    | .nan s t =>
      if FloatKind.f64.format.quiet t = t then pure (.float .f64 b) else do
      let kept ← choose (.extern "math.Floor,Ceil,Trunc,RoundToEven.signallingNaN kept" 2)
      pure (.float .f64 (if kept == 1 then b else FloatKind.f64.encode (.nan s (FloatKind.f64.format.quiet t))))
    | d => pure (.float .f64 (FloatKind.f64.encode (d.integral .zero))) : Sem Value) := rfl
theorem xc_run {e : XF} {x v : V} {x' : Value} (hx : VR wr W own x x') (h : xcV e x = some v) :
    ∃ v' W',(e.fn #[x']).run P W = .ok v' W' ∧ Gl W W' ∧ VR wr W' own v v' := by
  unfold xcV at h
  split at h
  · cases hx; cases h; exact ⟨_,W,rfl,Gl.refl _,.int _ _⟩
  · cases hx with
    | fnan b hb => cases h; exact ⟨_,W,rfl,Gl.refl _,.nanw b hb⟩
  · cases hx; cases h; exact ⟨_,W,rfl,Gl.refl _,.flt _⟩
  · cases hx with
    | nanw b hb => cases h; exact ⟨_,W,rfl,Gl.refl _,.fnan b hb⟩
  · rename_i b
    cases hx; cases h;unfold truncB;show ∃ v' W', (Extern.MathFloor.toIntegral "math.archTrunc" .zero #[.float .f64 b]).run P W = .ok v' W' ∧ _;rw [trunc_eq];cases hd : Ieee.double.read b with
    | nan s t =>
      dsimp only
      by_cases hq : FloatKind.f64.format.quiet t = t
      · rw [if_pos hq]; exact ⟨_,W,rfl,Gl.refl _,.fnan b (by rw [hd]; rfl)⟩
      · rw [if_neg hq];refine ⟨.float .f64 (if (Question.extern "math.Floor,Ceil,Trunc,RoundToEven.signallingNaN kept" 2).cut (W.tape W.drawn (.extern "math.Floor,Ceil,Trunc,RoundToEven.signallingNaN kept" 2)) == 1 then b else FloatKind.f64.encode (.nan s (FloatKind.f64.format.quiet t))), { W with drawn := W.drawn + 1 }, rfl, Gl.drawn _ _, .fnan _ ?_⟩
        split
        · rw [hd]; rfl
        · exact quiet_nan s t
    | number s m p => exact ⟨_,W,rfl,Gl.refl _,.flt _⟩
    | infinity s => exact ⟨_,W,rfl,Gl.refl _,.flt _⟩
  · cases hx with
    | fnan b hb =>
      cases h;show ∃ v' W', (Extern.MathFloor.toIntegral "math.archTrunc" .zero #[.float .f64 b]).run P W = .ok v' W' ∧ _;rw [trunc_eq];cases hd : Ieee.double.read b with
      | nan s t =>
        dsimp only
        by_cases hq : FloatKind.f64.format.quiet t = t
        · rw [if_pos hq]; exact ⟨_,W,rfl,Gl.refl _,.fnan b hb⟩
        · rw [if_neg hq];refine ⟨.float .f64 (if (Question.extern "math.Floor,Ceil,Trunc,RoundToEven.signallingNaN kept" 2).cut (W.tape W.drawn (.extern "math.Floor,Ceil,Trunc,RoundToEven.signallingNaN kept" 2)) == 1 then b else FloatKind.f64.encode (.nan s (FloatKind.f64.format.quiet t))), { W with drawn := W.drawn + 1 }, rfl, Gl.drawn _ _, .fnan _ ?_⟩
          split
          · exact hb
          · exact quiet_nan s t
      | number s m p => rw [hd] at hb; simp [Ieee.Datum.isNaN] at hb
      | infinity s => rw [hd] at hb; simp [Ieee.Datum.isNaN] at hb
  · cases h
theorem xcall_run {c : Call} {ty : TypeId} {a : Act} {f : FuncId} {e : XF} {x' : Operand} (hc : c.callee = .value (.func f)) (hf : chkX P f e = true) (ha : c.args = #[x']) {v' : Value} {W' : World}
    (h : (e.fn #[a.eval x']).run P W = .ok v' W') : (do let d ← resolve a.eval c ty; invoke d.target d.args : Sem Next).run P W = .ok (.value v') W' := by
  unfold chkX at hf
  split at hf
  · rename_i fn hfn
    simp only [Bool.and_eq_true,beq_iff_eq] at hf;obtain ⟨⟨h1,h2⟩,h3⟩ := hf;have hr : resolve a.eval c ty = pure { target := .fn (.func f) #[],args := #[a.eval x'] } := by
      simp [resolve,hc,ha,Deferred.ofValue]
      rfl
    have hne : (fn.name == "runtime.NumGoroutine") = false := by rw [h1]; cases e <;> decide
    rw [hr];simp only [pure_bind,invoke,callFunc,Sem.run_bind,run_program,Result.andThen_ok,hfn,Array.append_empty];rw [if_neg (by simp [hne]),if_pos (by simpa using h3)];simp only [Sem.run_bind,xc_next h1 h2,xc_find h1]
    simp [mark,Sem.run,h]
  · cases hf
theorem ixb_rows : (Extern.allNextRows.lookup "internal/bytealg.IndexByteString").isNone = true ∧ (Extern.allNextRows.lookup "").isNone = true ∧ (Extern.allGenericRows.lookup "internal/bytealg.IndexByteString").isNone = true ∧ (Extern.allTypedRows.lookup "internal/bytealg.IndexByteString").isNone = true := by
  refine ⟨?_,?_,?_,?_⟩ <;> decide +kernel
theorem ixb_all : Extern.allRows.lookup "internal/bytealg.IndexByteString" = some Extern.BytealgIndexByte.indexByte := by kernel_rfl
theorem ixb_eq (b c : Value) : Extern.BytealgIndexByte.indexByte #[b,c] = (do
    let b ← Extern.Bytes.bytesOf b
    let c ← Extern.Bytes.asByte c
    match (List.range b.size).find? fun i => b[i]! == c with
    | some i => pure (goInt i)
    | none => pure (goInt (-1))) := rfl
theorem ixb_run {x y v : V} {x' y' : Value} (hx : VR wr W own x x') (hy : VR wr W own y y') (h : ixbV x y = some v) :
    ∃ v',(Extern.BytealgIndexByte.indexByte #[x',y']).run P W = .ok v' W ∧ VR wr W own v v' := by
  unfold ixbV at h
  split at h
  · cases hx; cases hy
    rename_i s n
    split at h
    · rename_i hn
      cases h;refine ⟨_,?_,.int _ _⟩;rw [ixb_eq];simp only [Extern.Bytes.bytesOf,Extern.Bytes.asByte,pure_bind];cases (List.range s.size).find? fun i => s[i]! == UInt8.ofNat n.toNat <;> rfl
    · cases h
  · cases h
theorem ixb_call {c : Call} {ty : TypeId} {a : Act} {f : FuncId} {x' y' : Operand} (hc : c.callee = .value (.func f)) (hf : chkXB P f = true) (ha : c.args = #[x',y']) {v' : Value} {W' : World}
    (h : (Extern.BytealgIndexByte.indexByte #[a.eval x',a.eval y']).run P W = .ok v' W') : (do let d ← resolve a.eval c ty; invoke d.target d.args : Sem Next).run P W = .ok (.value v') W' := by
  unfold chkXB at hf
  split at hf
  · rename_i fn hfn
    simp only [Bool.and_eq_true,beq_iff_eq] at hf;obtain ⟨⟨h1,h2⟩,h3⟩ := hf;have hr : resolve a.eval c ty = pure { target := .fn (.func f) #[],args := #[a.eval x',a.eval y'] } := by
      simp [resolve,hc,ha,Deferred.ofValue]
      rfl
    have hne : (fn.name == "runtime.NumGoroutine") = false := by rw [h1]; decide
    obtain ⟨r1,r2,r3,r4⟩ := ixb_rows;rw [Option.isNone_iff_eq_none] at r1 r2 r3 r4;have hn : Extern.findNext fn = none := by simp [Extern.findNext,h1,h2,r1,r2]
    have hfd : Extern.find fn = some Extern.BytealgIndexByte.indexByte := by simp [Extern.find,h1,r3,r4,ixb_all]
    rw [hr];simp only [pure_bind,invoke,callFunc,Sem.run_bind,run_program,Result.andThen_ok,hfn,Array.append_empty];rw [if_neg (by simp [hne]),if_pos (by simpa using h3)];simp only [Sem.run_bind,hn,hfd]
    simp [mark,Sem.run,h]
  · cases hf
theorem eqLeaf_run {d : Nat} {t : TypeId} {l : Leaf} (ht : leafT P t l = true) {x y : V} {x' y' : Value} (hx : VR wr W own x x') (hy : VR wr W own y y') {r : Bool} (h : eqLeaf l x y = some r) :
    (Op.equalIn (d + 1) t x' y').run P W = .ok r W := by
  unfold eqLeaf at h
  split at h
  · cases hx; cases hy; cases h;cases hu : P.underlying t with
    | none => simp [leafT,hu] at ht
    | some u => cases u <;> simp [leafT,hu] at ht; exact run_equalIn_bool' W d t _ _ hu
  · cases hx; cases hy
    split at h
    · rename_i hk; subst hk; cases h
      cases hu : P.underlying t with
      | none => simp [leafT,hu] at ht
      | some u => cases u <;> simp [leafT,hu] at ht; exact run_equalIn_int W d t _ _ _ _ hu
    · cases h
  · cases hx; cases hy; cases h;cases hu : P.underlying t with
    | none => simp [leafT,hu] at ht
    | some u => cases u <;> simp [leafT,hu] at ht; exact run_equalIn_string W d t _ _ hu
  · cases h
theorem eqLeafs_split : ∀ (z : Nat) {sig : List Leaf} {xs ys : List V} {r : Bool},eqLeafs sig xs ys = some r → z ≤ sig.length →
    ∃ p q,eqLeafs (sig.take z) (xs.take z) (ys.take z) = some p ∧ eqLeafs (sig.drop z) (xs.drop z) (ys.drop z) = some q ∧ r = (p && q)
  | 0,sig,xs,ys,r,h,_ => ⟨true,r,by simp [eqLeafs],by simpa using h,by simp⟩
  | z + 1,[],xs,ys,r,h,hz => by simp at hz
  | z + 1,l :: sig,[],ys,r,h,hz => by simp [eqLeafs] at h
  | z + 1,l :: sig,x :: xs,[],r,h,hz => by simp [eqLeafs] at h
  | z + 1,l :: sig,x :: xs,y :: ys,r,h,hz => by
    simp only [eqLeafs] at h
    split at h
    · rename_i p q hp hq
      cases h;obtain ⟨p',q',h1,h2,rfl⟩ := eqLeafs_split z hq (by simpa using hz);exact ⟨p && p',q',by simp [eqLeafs,hp,h1],by simpa using h2,by rw [Bool.and_assoc]⟩
    · cases h
theorem eqLeafs_len : ∀ {sig : List Leaf} {xs ys : List V} {r : Bool},eqLeafs sig xs ys = some r → xs.length = sig.length ∧ ys.length = sig.length
  | [],[],[],_,_ => ⟨rfl,rfl⟩
  | l :: sig,x :: xs,y :: ys,r,h => by
    simp only [eqLeafs] at h
    split at h
    · rename_i p q hp hq
      obtain ⟨h1,h2⟩ := eqLeafs_len hq;exact ⟨by simp [h1],by simp [h2]⟩
    · cases h
  | [],_ :: _,_,_,h => by simp [eqLeafs] at h
  | [],[],_ :: _,_,h => by simp [eqLeafs] at h
  | _ :: _,[],_,_,h => by simp [eqLeafs] at h
  | _ :: _,_ :: _,[],_,h => by simp [eqLeafs] at h
def asV (P : Program) (t : TypeId) (cs : List V) (x : V) : Prop := if agOf P t then x = .ag cs else cs = [x]
theorem take_as {t : TypeId} {z o : Nat} {xs : List V} (hs : chkSh P t (if agOf P t then some z else none) = true) (hz : szOf P t = some z) (h : o + z ≤ xs.length) : ∃ v,takeSh xs o (if agOf P t then some z else none) = some v ∧ asV P t ((xs.drop o).take z) v := by
  unfold asV;cases hag : agOf P t with
  | true => exact ⟨.ag ((xs.drop o).take z),by simp [takeSh,h],by simp⟩
  | false =>
    rw [hag] at hs;simp only [Bool.false_eq_true,if_false,chkSh,Bool.and_eq_true,beq_iff_eq] at hs;have hz1 : z = 1 := by have := hs.2; rw [hz] at this; cases this; rfl
    subst hz1;have hlt : o < xs.length := by omega
    refine ⟨xs[o],by simp [takeSh,List.getElem?_eq_getElem hlt],?_⟩;simp only [Bool.false_eq_true,if_false];rw [List.drop_eq_getElem_cons hlt]; rfl
theorem eqT_run : ∀ (n : Nat) {t : TypeId} {sig : List Leaf},chkEqT P n t sig = true → ∀ (d : Nat) {xs ys : List V} {x y : V} {x' y' : Value} {r : Bool},asV P t xs x → asV P t ys y → VR wr W own x x' → VR wr W own y y' → eqLeafs sig xs ys = some r →
    (Op.equalIn (d + n) t x' y').run P W = .ok r W
  | 0,t,sig,hc,_,_,_,_,_,_,_,_,_,_,_,_,_ => by simp [chkEqT] at hc
  | n + 1,t,sig,hc,d,xs,ys,x,y,x',y',r,hax,hay,hx,hy,h => by
    have hlen := eqLeafs_len h;cases hu : P.underlying t with
    | none =>
      simp only [chkEqT,hu] at hc
      split at hc
      · rename_i l; cases l <;> simp [leafT,hu] at hc
      · cases hc
    | some u =>
      cases u with
      | struct fs =>
        simp only [chkEqT,hu,Bool.and_eq_true,Bool.not_eq_true'] at hc;have hag : agOf P t = true := by unfold agOf; rw [hu]
        unfold asV at hax hay;rw [if_pos hag] at hax hay;subst hax; subst hay;cases hx with
        | ag hxl hxv =>
          cases hy with
          | ag hyl hyv =>
            rename_i xa ya
            have hf : P.fieldsOf t = fs := by unfold Program.fieldsOf; rw [hu]
            have e := run_equalIn_struct (P := P) W (d + n) t xa ya (by rw [hf]; exact hu) hc.1;rw [show d + (n + 1) = (d + n) + 1 from rfl,e,hf];have key : ∀ (fl : List Field) (o : Nat) (sg : List Leaf) (r : Bool),chkEqF P (chkEqT P n) o fl sg = true → eqLeafs sg (xs.drop o) (ys.drop o) = some r → (Op.eqFields (d + n) xa ya fl).run P W = .ok r W := by
              intro fl
              induction fl with
              | nil =>
                intro o sg r hk hr;cases sg with
                | nil =>
                  have : r = true := by
                    cases hxs : xs.drop o <;> cases hys : ys.drop o <;> rw [hxs,hys] at hr <;> simp [eqLeafs] at hr; exact hr
                  subst this; rfl
                | cons l sg => simp [chkEqF] at hk
              | cons f fl ih =>
                intro o sg r hk hr;simp only [chkEqF] at hk
                split at hk
                · rename_i z hz
                  simp only [Bool.and_eq_true,bne_iff_ne,ne_eq,beq_iff_eq,decide_eq_true_eq] at hk;obtain ⟨⟨⟨⟨⟨hn,ho⟩,hz0,hzl⟩,hsh⟩,hrec⟩,hrest⟩ := hk;obtain ⟨p,q,hp,hq,rfl⟩ := eqLeafs_split z hr hzl;have hl2 := eqLeafs_len hr;rw [List.length_drop,List.length_drop] at hl2;obtain ⟨va,ta,aa⟩ := take_as (P := P) (xs := xs) (o := o) hsh hz (by omega);obtain ⟨vb,tb,ab⟩ := take_as (P := P) (xs := ys) (o := o) hsh hz (by omega);obtain ⟨va',ra,wa⟩ := run_part (P := P) hsh hxl hxv ta;obtain ⟨vb',rb,wb⟩ := run_part (P := P) hsh hyl hyv tb;have h1 := eqT_run n hrec d aa ab wa wb hp;have ih2 := ih (o + z) _ q hrest (by rw [← List.drop_drop,← List.drop_drop]; exact hq);subst ho;simp only [Op.eqFields,hn,not_false_eq_true,ne_eq,if_true,Sem.run_bind,ra,rb,h1,Result.andThen_ok];cases p
                  · simp
                  · simpa using ih2
                · cases hk
            exact key fs.toList 0 sig r hc.2 (by simpa using h)
      | array l e =>
        simp only [chkEqT,hu] at hc
        split at hc
        · rename_i z hz
          simp only [Bool.and_eq_true,beq_iff_eq,List.all_eq_true,List.mem_range] at hc;obtain ⟨⟨hsl,hsh⟩,hrec⟩ := hc;have hag : agOf P t = true := by unfold agOf; rw [hu]
          unfold asV at hax hay;rw [if_pos hag] at hax hay;subst hax; subst hay;cases hx with
          | ag hxl hxv =>
            cases hy with
            | ag hyl hyv =>
              rename_i xa ya
              obtain ⟨i,hi,hci⟩ : ∃ i,P.info? e = some i ∧ P.cellsOf e = z := by
                unfold szOf at hz;cases hi : P.info? e with
                | none => rw [hi] at hz; cases hz
                | some i => rw [hi] at hz; exact ⟨i,rfl,by unfold Program.cellsOf; rw [hi]; simpa using hz⟩
              rw [show d + (n + 1) = (d + n) + 1 from rfl,run_equalIn_array (P := P) (w := W) (d + n) xa ya hu hi,hci,List.range_eq_range'];have key : ∀ (k s : Nat) (r : Bool),s + k = l → eqLeafs (sig.drop (s * z)) (xs.drop (s * z)) (ys.drop (s * z)) = some r → (Op.eqItems (d + n) e z xa ya (List.range' s k)).run P W = .ok r W := by
                intro k
                induction k with
                | zero =>
                  intro s r hs hr;have hs0 : s = l := by omega
                  subst hs0;rw [List.drop_of_length_le (by omega)] at hr;have : r = true := by
                    cases hxs : xs.drop (s * z) <;> cases hys : ys.drop (s * z) <;> rw [hxs,hys] at hr <;> simp [eqLeafs] at hr; exact hr
                  subst this; simp [Op.eqItems]
                | succ k ih =>
                  intro s r hs hr;have hzl : z ≤ (sig.drop (s * z)).length := by
                    rw [List.length_drop,hsl,← hs,Nat.add_mul,Nat.add_mul]; omega
                  obtain ⟨p,q,hp,hq,rfl⟩ := eqLeafs_split z hr hzl;have hl2 := eqLeafs_len hr;rw [List.length_drop,List.length_drop] at hl2;rw [List.length_drop] at hzl hl2;have hb : s * z + z ≤ sig.length := by rw [hsl,← hs,Nat.add_mul,Nat.add_mul]; omega
                  obtain ⟨va,ta,aa⟩ := take_as (P := P) (xs := xs) (o := s * z) hsh hz (by omega);obtain ⟨vb,tb,ab⟩ := take_as (P := P) (xs := ys) (o := s * z) hsh hz (by omega);obtain ⟨va',ra,wa⟩ := run_part (P := P) hsh hxl hxv ta;obtain ⟨vb',rb,wb⟩ := run_part (P := P) hsh hyl hyv tb;have h1 := eqT_run n (hrec s (by omega)) d aa ab wa wb hp;have ih2 := ih (s + 1) q (by omega) (by rw [Nat.succ_mul,← List.drop_drop,← List.drop_drop,← List.drop_drop]; exact hq);rw [List.range'_succ];simp only [Op.eqItems,Sem.run_bind,ra,rb,h1,Result.andThen_ok];cases p
                  · simp
                  · simpa using ih2
              exact key l 0 r (by omega) (by simpa using h)
        · cases hc
      | _ =>
        simp only [chkEqT,hu] at hc
        split at hc
        · rename_i l
          have hag : agOf P t = false := by unfold agOf; rw [hu]
          unfold asV at hax hay;rw [hag] at hax hay;simp only [Bool.false_eq_true,if_false] at hax hay;subst hax; subst hay;have hr : eqLeaf l x y = some r := by
            simp only [eqLeafs] at h
            split at h
            · rename_i p q hp hq
              cases hq; cases h; rw [hp]; simp
            · cases h
          exact eqLeaf_run (d := d + n) hc hx hy hr
        · cases hc
theorem eqs_run {t : TypeId} {ne : Bool} {sig : List Leaf} (hag : agOf P t = true) (hg : P.eqGuardType P.depth t = false) (hl : chkEqT P 8 t sig = true)
    {x y v : V} {x' y' : Value} {xo yo : Operand} (hx : VR wr W own x x') (hy : VR wr W own y y') (h : eqsV ne sig x y = some v) :
    ∃ v',(do eqGuard (if ne then .neq else .eql) t xo yo x' y'; binOp (if ne then .neq else .eql) t x' y' : Sem Value).run P W = .ok v' W ∧ VR wr W own v v' := by
  unfold eqsV at h
  split at h
  · rename_i xs ys
    simp only [Option.map_eq_some_iff] at h;obtain ⟨r,hr,rfl⟩ := h;have e := eqT_run (P := P) 8 hl 9992 (xs := xs) (ys := ys) (by unfold asV; rw [if_pos hag]) (by unfold asV; rw [if_pos hag]) hx hy hr;cases hx with
    | ag hxl hxv =>
      cases hy with
      | ag hyl hyv =>
        rename_i xa ya
        refine ⟨.bool (if ne then !r else r),?_,.bool _⟩;rw [Sem.run_bind,run_eqGuard_agg W _ t xo yo xa ya hg,Result.andThen_ok];cases ne
        · simp only [Bool.false_eq_true,if_false]; rw [run_eql_struct,e]; rfl
        · simp only [if_true]; rw [run_neq_struct,e]; rfl
  · cases h
end
end Go.Eng
namespace Go.Eng
open Go
set_option linter.unusedSectionVars false
set_option linter.unusedVariables false
set_option linter.unusedSimpArgs false
variable [Glob]
section
variable {wr : Nat → Prop} {W : World} {own : Own} {P : Program}
theorem getObj_mp {r : Nat} {es : Array MapEntry} {clock : Nat} (h : W.heap[r]? = some (.map es clock)) : (getObj r).run P W = .ok (.map es clock) W := by simp [getObj,Sem.run,h]
theorem setObj_mp {r : Nat} {es : Array MapEntry} {clock : Nat} (o : Obj) (h : W.heap[r]? = some (.map es clock)) : (setObj r o).run P W = .ok () { W with heap := W.heap.setIfInBounds r o } := by simp [setObj,Sem.run,h]
theorem mpB_spec {H : Heap} {m : V} {b : Nat} {ks vs : List V} (h : mpB H m = some (b,ks,vs)) : m = .mp b ∧ ∃ g,H[b]? = some (g,[.mpb ks vs]) := by
  unfold mpB at h
  split at h
  · split at h
    · rename_i hb; cases h; exact ⟨rfl,_,hb⟩
    · cases h
  · cases h
theorem mp_live {H : Heap} (s : Rd wr W own H) {m : V} {m' : Value} {b : Nat} {ks vs : List V} (h : mpB H m = some (b,ks,vs)) (hm : VR wr W own m m') :
    H[b]? = some (1,[.mpb ks vs]) ∧ LiveM wr W own b 1 [.mpb ks vs] ∧ ∃ cb es clock,m' = .map (some cb) ∧ own b 0 = some (cb,0,0) ∧ W.heap[cb]? = some (.map es clock) ∧ MapR wr W own ks vs es.toList := by
  obtain ⟨rfl,g,hb⟩ := mpB_spec h;rcases s.live b g _ hb with ⟨cb,sh,N,ho,hN,ccs,ty,lo,hi,hheap,hsz,hfr,hc⟩ | hM | hd
  · obtain ⟨cv,_,hv⟩ := hc 0 (.mpb ks vs) rfl;cases hv
  · have hM' := hM;obtain ⟨rfl,h0,ks',vs',cb,hcs,ho,es,clock,hheap,hr⟩ := hM;cases hcs;refine ⟨hb,hM',cb,es,clock,?_,ho,hheap,hr⟩;cases hm with
    | mp h => rw [ho] at h; cases h; rfl
  · cases hm with
    | mp h => rw [hd 0] at h; cases h
theorem isMapI_eq {t : TypeId} (h : isMapI P t = true) : ∃ kt et q,P.underlying t = some (.map kt et) ∧ P.underlying kt = some (.int q) := by
  unfold isMapI at h
  split at h
  · rename_i kt et hu
    cases hk : P.underlying kt with
    | none => simp [hk] at h
    | some d => cases d <;> simp [hk] at h; exact ⟨kt,et,_,hu,hk⟩
  · cases h
theorem checkKey_int {kt : TypeId} {q : IntKind} (hk : P.underlying kt = some (.int q)) (e : Bool) (k : IntKind) (n : Int) : (Instr.checkKey e 10000 kt (.int k n)).run P W = .ok () W := by
  show (Instr.checkKey e (9999 + 1) kt (.int k n)).run P W = _;unfold Instr.checkKey
  simp [run_underlying hk]
theorem mfind_sim {q : IntKind} {k : IntKind} {n : Int} : ∀ (ks : List V) (es : List MapEntry),es.length = ks.length → (∀ (j : Nat) (x : V) (e : MapEntry),ks[j]? = some x → es[j]? = some e → VR wr W own x e.key) → ∀ (i : Nat) (r : Option Nat),mfind k n ks = some r →
    Instr.findNow (.int q) (.int k n) es i = some (match r with | none => none | some j => (es[j]?).map fun e => (i + j,e.val)) ∧ (∀ j,r = some j → ∃ e,es[j]? = some e ∧ e.key = .int k n)
  | [],[],_,_,i,r,h => by
    simp only [mfind,Option.some.injEq] at h; subst h;exact ⟨rfl,fun j h => by cases h⟩
  | [],e :: es,hl,_,_,_,_ => by simp at hl
  | x :: ks,[],hl,_,_,_,_ => by simp at hl
  | x :: ks,e :: es,hl,hv,i,r,h => by
    have h0 := hv 0 x e rfl rfl;cases x <;> (try (simp only [mfind] at h; cases h; done))
    rename_i k' m
    simp only [mfind] at h;have he : e.key = .int k' m := by generalize e.key = y at h0; cases h0; rfl
    split at h
    · rename_i hk
      subst hk
      split at h
      · rename_i hnm
        cases h;rw [beq_iff_eq] at hnm;subst hnm;refine ⟨?_,fun j hj => by cases hj; exact ⟨e,rfl,he⟩⟩
        simp [Instr.findNow,he,Instr.sameNow]
      · rename_i hnm
        simp only [Option.map_eq_some_iff] at h;obtain ⟨o,ho,rfl⟩ := h;obtain ⟨g1,g2⟩ := mfind_sim (q := q) ks es (by simpa using hl) (fun j x e' a b => hv (j + 1) x e' (by simpa using a) (by simpa using b)) (i + 1) o ho;refine ⟨?_,fun j hj => ?_⟩
        · have hnm' : (n == m) = false := by simpa using hnm
          simp only [Instr.findNow,he,Instr.sameNow,if_true,hnm',g1];cases o with
          | none => rfl
          | some j => simp only [Option.map_some,List.getElem?_cons_succ]; congr 1; congr 1; funext z; rw [show i + 1 + j = i + (j + 1) by omega]
        · cases o with
          | none => cases hj
          | some j0 =>
            cases hj;obtain ⟨e',a,b⟩ := g2 j0 rfl;exact ⟨e',by simpa using a,b⟩
    · cases h
theorem findKey_int {kt : TypeId} {q : IntKind} (hk : P.underlying kt = some (.int q)) {key : Value} {es : List MapEntry} {r : Option (Nat × Value)} (h : Instr.findNow (.int q) key es 0 = some r) : (Instr.findKey kt key es).run P W = .ok r W := by
  unfold Instr.findKey;simp only [Sem.run_bind,run_underlying hk,Result.andThen_ok,h]; rfl
theorem mget_run {H : Heap} (s : Rd wr W own H) {t kt et : TypeId} {q : IntKind} {z : Value} (hu : P.underlying t = some (.map kt et)) (hk : P.underlying kt = some (.int q)) (hz : zeroOf P et = some z) {zero : V} (hzv : isV z zero = true) {ok : Bool} {m k v : V} {m' k' : Value} (hm : VR wr W own m m') (hkv : VR wr W own k k')
    (h : mgetV H m k zero ok = some v) : ∃ v',(Instr.lookup t m' k' ok).run P W = .ok v' W ∧ VR wr W own v v' := by
  unfold mgetV at h
  split at h
  case h_2 => cases h
  rename_i kk n
  simp only [Option.bind_eq_some_iff] at h;obtain ⟨⟨b,ks,vs⟩,hb,r,hr,h⟩ := h;cases hkv;obtain ⟨_,_,cb,es,clock,rfl,ho,hheap,hM⟩ := mp_live s hb hm;obtain ⟨f1,f2⟩ := mfind_sim (q := q) ks es.toList hM.len hM.key 0 r hr;have hg := getObj_mp (P := P) hheap;have pre : ∀ (w : Value) (o : Bool) (x : Option (Nat × Value)),Instr.findNow (.int q) (.int kk n) es.toList 0 = some x → (x = none → w = z ∧ o = false) → (∀ p,x = some p → w = p.2 ∧ o = true) →
      (Instr.lookup t (.map (some cb)) (.int kk n) ok).run P W = .ok (if ok then .tuple #[w,.bool o] else w) W := by
    intro w o x hx hn hs;have hf := findKey_int (W := W) hk hx;unfold Instr.lookup;simp only [Sem.run_bind,run_underlying hu,Result.andThen_ok,hg,Sem.run_pure,checkKey_int hk,hf];cases x with
    | none => obtain ⟨rfl,rfl⟩ := hn rfl; simp [run_zeroValue' hz]
    | some p => obtain ⟨rfl,rfl⟩ := hs p rfl; rfl
  cases r with
  | none =>
    simp only [Option.some.injEq] at h;subst h;refine ⟨_,pre z false none (by simpa using f1) (fun _ => ⟨rfl,rfl⟩) (fun p h => by cases h),?_⟩;cases ok
    · exact isV_sound hzv
    · refine .tup rfl (fun j c hj => ?_)
      match j,hj with
      | 0,hj => cases hj; exact isV_sound hzv
      | 1,hj => cases hj; exact .bool false
      | j + 2,hj => simp at hj
  | some j =>
    obtain ⟨e,he,hke⟩ := f2 j rfl;simp only [Option.map_eq_some_iff] at h;obtain ⟨x,hx,rfl⟩ := h;have hv := hM.val j x e hx he;refine ⟨_,pre e.val true (some (j,e.val)) (by rw [f1]; simp [he]) (fun h => by cases h) (fun p h => by cases h; exact ⟨rfl,rfl⟩),?_⟩;cases ok
    · exact hv
    · refine .tup rfl (fun j c hj => ?_)
      match j,hj with
      | 0,hj => cases hj; exact hv
      | 1,hj => cases hj; exact .bool true
      | j + 2,hj => simp at hj
theorem mlen_run {H : Heap} (s : Rd wr W own H) {t ty : TypeId} (hu : isMapI P t = true) {m v : V} {m' : Value} (hm : VR wr W own m m') (h : mlenV H m = some v) : ∃ v',(Builtin.len_ #[t] ty #[m']).run P W = .ok v' W ∧ VR wr W own v v' := by
  obtain ⟨kt,et,q,hu,hk⟩ := isMapI_eq hu;simp only [mlenV,Option.map_eq_some_iff] at h;obtain ⟨⟨b,ks,vs⟩,hb,rfl⟩ := h;obtain ⟨_,_,cb,es,clock,rfl,ho,hheap,hM⟩ := mp_live s hb hm;refine ⟨.int .i64 (ks.length : Int),?_,.int _ _⟩;have hl := hM.len;simp only [Array.length_toList] at hl
  simp [Builtin.len_,run_underlying hu,getObj_mp (P := P) hheap,goInt,hl]
theorem heap_set {W : World} {cb : Nat} {o : Obj} (h : cb < W.heap.size) : ({ W with heap := W.heap.setIfInBounds cb o } : World).heap[cb]? = some o := by simp [h]
theorem mkmp_run {H : Heap} (s : St wr W own H) {t : TypeId} : ∃ v' W',(Instr.makeMap t none).run P W = .ok v' W' ∧ ∃ wr' own',Ext wr W own wr' W' own' ∧ St wr' W' own' (H ++ [(1,[.mpb [] []])]) ∧ VR wr' W' own' (.mp H.length) v' := by
  obtain ⟨wr',own',h1,h2,h3⟩ := s.changeM (b := H.length) (ks' := []) (vs' := []) (cb' := W.heap.size) (H' := H ++ [(1,[.mpb [] []])]) (W' := W.alloc (.map #[] 0)) (es := #[]) (clock := 0)
    (fun x hx => by
      rcases Nat.lt_or_ge x H.length with h | h
      · rw [List.getElem?_append_left h]
      · rw [List.getElem?_eq_none h,List.getElem?_eq_none (by simp; omega)]) (by simp) (by simp) (Gl.alloc _ _).io (Gl.alloc _ _).size (fun x hx _ => (Gl.alloc _ _).same x hx) (.inl ⟨Nat.le_refl _,fun y => by
      cases ho : own H.length y with
      | none => rfl
      | some z => have := (s.fut _ _ _ ho).1; omega⟩)
    (alloc_get _ _) ⟨rfl,rfl,fun j k e h => by simp at h,fun j k e h => by simp at h⟩
  refine ⟨.map (some W.heap.size),W.alloc (.map #[] 0),?_,wr',own',h1,h2,.mp h3⟩
  simp [Instr.makeMap,run_newObj_alloc]
theorem set_map {H : Heap} (s : St wr W own H) {b cb : Nat} {ks vs ks' vs' : List V} {es es' : Array MapEntry} {clock clock' : Nat} (hb : H[b]? = some (1,[.mpb ks vs])) (hl : LiveM wr W own b 1 [.mpb ks vs]) (ho : own b 0 = some (cb,0,0)) (hheap : W.heap[cb]? = some (.map es clock)) (hm : MapR wr W own ks' vs' es'.toList) :
    ∃ W',(setObj cb (.map es' clock')).run P W = .ok () W' ∧ ∃ wr' own',Ext wr W own wr' W' own' ∧ St wr' W' own' (H.set b (1,[.mpb ks' vs'])) := by
  have hcb : cb < W.heap.size := s.wr_lt _ (s.own_wr _ _ _ _ _ ho);have hbl : b < H.length := (List.getElem?_eq_some_iff.mp hb).1;refine ⟨_,setObj_mp _ hheap,?_⟩;obtain ⟨wr',own',h1,h2,_⟩ := s.changeM (b := b) (ks' := ks') (vs' := vs') (cb' := cb) (H' := H.set b (1,[.mpb ks' vs'])) (W' := { W with heap := W.heap.setIfInBounds cb (.map es' clock') }) (es := es') (clock := clock')
    (fun x hx => by rw [List.getElem?_set_ne (Ne.symm hx)]) (by rw [List.getElem?_set_self hbl]) (by simp) ⟨rfl,rfl,rfl⟩ (by simp) (fun x hx hne => by simp [Array.getElem?_setIfInBounds_ne (Ne.symm hne)]) (.inr ⟨_,hb,hl,ho⟩) (heap_set hcb) hm
  exact ⟨wr',own',h1,h2⟩
theorem mset_run {H H' : Heap} (s : St wr W own H) {t : TypeId} (ht : isMapI P t = true) {m k x : V} {m' k' x' : Value} (hm : VR wr W own m m') (hkv : VR wr W own k k') (hx : VR wr W own x x') (h : msetV H m k x = some H') :
    ∃ W',(Instr.mapUpdate t m' k' x').run P W = .ok () W' ∧ ∃ wr' own',Ext wr W own wr' W' own' ∧ St wr' W' own' H' := by
  obtain ⟨kt,et,q,hu,hk⟩ := isMapI_eq ht;unfold msetV at h
  split at h
  case h_2 => cases h
  rename_i kk n
  simp only [Option.bind_eq_some_iff] at h;obtain ⟨⟨b,ks,vs⟩,hb,r,hr,h⟩ := h;have hkv0 := hkv;cases hkv;obtain ⟨hH,hl,cb,es,clock,rfl,ho,hheap,hM⟩ := mp_live s.toRd hb hm;obtain ⟨f1,f2⟩ := mfind_sim (q := q) ks es.toList hM.len hM.key 0 r hr;have hg := getObj_mp (P := P) hheap;cases r with
  | none =>
    simp only [Option.some.injEq] at h;subst h;have hf := findKey_int (W := W) hk (show Instr.findNow (.int q) (.int kk n) es.toList 0 = some none by simpa using f1);have hM' : MapR wr W own (ks ++ [.int kk n]) (vs ++ [x]) (es.push { key := .int kk n,val := x',born := clock }).toList := by
      rw [Array.toList_push];have hlen := hM.len;have hvl := hM.vlen;refine ⟨by simp [hlen],by simp [hvl],fun j y e hy he => ?_,fun j y e hy he => ?_⟩
      · rcases Nat.lt_or_ge j ks.length with h | h
        · rw [List.getElem?_append_left h] at hy;rw [List.getElem?_append_left (by omega)] at he;exact hM.key j y e hy he
        · rw [List.getElem?_append_right h] at hy;rw [List.getElem?_append_right (by omega)] at he;cases hj : j - ks.length with
          | zero =>
            rw [hj] at hy; rw [show j - es.toList.length = 0 by omega] at he;cases hy; cases he; exact .int _ _
          | succ d => rw [hj] at hy; simp at hy
      · rcases Nat.lt_or_ge j vs.length with h | h
        · rw [List.getElem?_append_left h] at hy;rw [List.getElem?_append_left (by omega)] at he;exact hM.val j y e hy he
        · rw [List.getElem?_append_right h] at hy;rw [List.getElem?_append_right (by omega)] at he;cases hj : j - vs.length with
          | zero =>
            rw [hj] at hy; rw [show j - es.toList.length = 0 by omega] at he;cases hy; cases he; exact hx
          | succ d => rw [hj] at hy; simp at hy
    obtain ⟨W',g1,g2⟩ := set_map (P := P) s (clock' := clock + 1) hH hl ho hheap hM';refine ⟨W',?_,g2⟩;unfold Instr.mapUpdate;simp only [Sem.run_bind,run_underlying hu,Result.andThen_ok,hg,checkKey_int hk,hf,g1]
  | some i =>
    simp only [Option.some.injEq] at h;subst h;obtain ⟨e,he,hke⟩ := f2 i rfl;have hf := findKey_int (W := W) hk (show Instr.findNow (.int q) (.int kk n) es.toList 0 = some (some (i,e.val)) by rw [f1]; simp [he]);have he' : es[i]? = some e := by simpa using he
    have hil : i < es.size := (Array.getElem?_eq_some_iff.mp he').1;have hM' : MapR wr W own ks (vs.set i x) (es.modify i fun e => { e with key := .int kk n,val := x' }).toList := by
      have hlen := hM.len;have hvl := hM.vlen;have hget : ∀ j,(es.modify i fun e => { e with key := .int kk n,val := x' }).toList[j]? = if i = j then (es.toList[j]?).map (fun e => { e with key := .int kk n,val := x' }) else es.toList[j]? := by
        intro j;simp only [Array.getElem?_toList,Array.getElem?_modify]
      refine ⟨by simpa using hlen,by simpa using hvl,fun j y e2 hy he2 => ?_,fun j y e2 hy he2 => ?_⟩
      · rw [hget] at he2
        split at he2
        · rename_i hij; subst hij
          rw [he] at he2; cases he2;have := hM.key i y e hy he;rw [hke] at this; exact this
        · exact hM.key j y e2 hy he2
      · rw [hget] at he2
        split at he2
        · rename_i hij; subst hij
          rw [he] at he2; cases he2;have hl2 : i < vs.length := by simp at hlen; omega
          rw [List.getElem?_set_self hl2] at hy; cases hy;exact hx
        · rename_i hij
          rw [List.getElem?_set_ne hij] at hy;exact hM.val j y e2 hy he2
    obtain ⟨W',g1,g2⟩ := set_map (P := P) s (clock' := clock) hH hl ho hheap hM';refine ⟨W',?_,g2⟩;have hsame : Instr.sameBits 10000 (Value.int kk n) (Value.int kk n) = true := by
      show Instr.sameBits (9999 + 1) (Value.int kk n) (Value.int kk n) = true
      simp [Instr.sameBits]
    have hstay : (Instr.keyThatStays (Value.int kk n) (Value.int kk n)).run P W = .ok (.int kk n) W := by
      unfold Instr.keyThatStays; rw [if_pos hsame]; rfl
    unfold Instr.mapUpdate;simp only [Sem.run_bind,run_underlying hu,Result.andThen_ok,hg,checkKey_int hk,hf,he',Option.map_some,Option.getD_some,hke,hstay,g1]
theorem mdel_run {H H' : Heap} (s : St wr W own H) {t ty : TypeId} {ts : Array TypeId} (h0 : ts[0]? = some t) (ht : isMapI P t = true) {m k : V} {m' k' : Value} (hm : VR wr W own m m') (hkv : VR wr W own k k') (h : mdelV H m k = some H') :
    ∃ W',(Builtin.delete_ ts ty #[m',k']).run P W = .ok (.tuple #[]) W' ∧ ∃ wr' own',Ext wr W own wr' W' own' ∧ St wr' W' own' H' := by
  obtain ⟨kt,et,q,hu,hk⟩ := isMapI_eq ht;unfold mdelV at h
  split at h
  case h_2 => cases h
  rename_i kk n
  simp only [Option.bind_eq_some_iff] at h;obtain ⟨⟨b,ks,vs⟩,hb,r,hr,h⟩ := h;cases hkv;obtain ⟨hH,hl,cb,es,clock,rfl,ho,hheap,hM⟩ := mp_live s.toRd hb hm;obtain ⟨f1,f2⟩ := mfind_sim (q := q) ks es.toList hM.len hM.key 0 r hr;have hg := getObj_mp (P := P) hheap;cases r with
  | none =>
    simp only [Option.some.injEq] at h;subst h;have hf := findKey_int (W := W) hk (show Instr.findNow (.int q) (.int kk n) es.toList 0 = some none by simpa using f1);obtain ⟨W',g1,wr',own',g2,g3⟩ := set_map (P := P) s (clock' := clock) hH hl ho hheap hM;have hset : H.set b (1,[.mpb ks vs]) = H := by
      refine List.ext_getElem? fun j => ?_
      by_cases hij : b = j
      · subst hij; rw [List.getElem?_set_self (List.getElem?_eq_some_iff.mp hH).1,hH]
      · rw [List.getElem?_set_ne hij]
    rw [hset] at g3;refine ⟨W',?_,wr',own',g2,g3⟩;unfold Builtin.delete_
    simp [h0,run_underlying hu,hg,checkKey_int hk,hf,g1]
  | some i =>
    simp only [Option.some.injEq] at h;subst h;obtain ⟨e,he,hke⟩ := f2 i rfl;have hf := findKey_int (W := W) hk (show Instr.findNow (.int q) (.int kk n) es.toList 0 = some (some (i,e.val)) by rw [f1]; simp [he]);have he' : es[i]? = some e := by simpa using he
    have hil : i < es.size := (Array.getElem?_eq_some_iff.mp he').1;have hto : (es.eraseIdxIfInBounds i).toList = es.toList.eraseIdx i := by
      simp [Array.eraseIdxIfInBounds,hil,Array.toList_eraseIdx]
    have hM' : MapR wr W own (ks.eraseIdx i) (vs.eraseIdx i) (es.eraseIdxIfInBounds i).toList := by
      rw [hto];have hlen := hM.len;have hvl := hM.vlen;have up : ∀ {α : Type} {l : List α} {j : Nat} {y : α},(l.eraseIdx i)[j]? = some y → l[if j < i then j else j + 1]? = some y := by
        intro α l j y h;rw [List.getElem?_eraseIdx] at h
        split at h
        · rename_i hj; rw [if_pos hj]; exact h
        · rename_i hj; rw [if_neg hj]; exact h
      have hil' : i < es.toList.length := by simpa using hil
      refine ⟨by rw [List.length_eraseIdx,List.length_eraseIdx,hlen],by rw [List.length_eraseIdx,List.length_eraseIdx,hvl],fun j y e2 hy he2 => hM.key _ y e2 (up hy) (up he2),fun j y e2 hy he2 => hM.val _ y e2 (up hy) (up he2)⟩
    obtain ⟨W',g1,g2⟩ := set_map (P := P) s (clock' := clock) hH hl ho hheap hM';refine ⟨W',?_,g2⟩;unfold Builtin.delete_
    simp [h0,run_underlying hu,hg,checkKey_int hk,hf,g1]
theorem slca_run {H : Heap} (s : Rd wr W own H) {t e : TypeId} {n z : Nat} {ag : Bool} (hu : P.underlying t = some (.array n e)) (hz : szOf P e = some z) {x v : V} {x' : Value} {lo hi : Option V} {lo' hi' : Option Value} (hx : VR wr W own x x') (hl : OptR wr W own lo lo') (hh : OptR wr W own hi hi')
    (h : slcaV H x lo hi n z ag = some v) : ∃ v',(Instr.sliceAt t x' lo' hi' none).run P W = .ok v' W ∧ VR wr W own v v' := by
  unfold slcaV at h
  split at h
  case h_2 => cases h
  rename_i b g off
  simp only [Option.bind_eq_some_iff] at h;obtain ⟨l,h1,hh',h2,cs,hcs,h⟩ := h
  split at h
  · rename_i hc
    cases h;obtain ⟨hle,hhn,hfit⟩ := hc;cases hx with
    | ptr ho =>
      rename_i cb sh N
      obtain ⟨cb2,sh2,N2,ho2,hN,_⟩ := s.cells (rdB_some hcs) ho;rw [ho] at ho2; cases ho2;have hb := bounds_run (P := P) (isS := false) (cap := n) hl hh h1 h2 hle hhn;refine ⟨.slice (some (if n = l then ⟨cb,sh + off,none⟩ else (⟨cb,sh + off,none⟩ : Addr).add (l * z))) (hh' - l) (n - l),?_,?_⟩
      · simp [Instr.sliceAt,run_underlying hu,Instr.sureAddr,hb,run_sizeOf' hz]
      · refine .sl ho (by omega) ?_ ?_
        · by_cases hnl : n = l
          · left; omega
          · right; rw [if_neg hnl,add_none,Nat.add_assoc]
        · by_cases hnl : n = l
          · left; omega
          · right
            have : (n - l) * z + l * z = n * z := by rw [← Nat.add_mul]; congr 1; omega
            omega
  · cases h
end
end Go.Eng
