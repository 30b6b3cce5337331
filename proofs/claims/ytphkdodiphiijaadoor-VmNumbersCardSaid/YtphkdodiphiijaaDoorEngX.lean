/- Floats, functions without a text, and comparable structs: what the small machine tells is what the model tells (no condition beyond those stated). -/
import Derived.Test.YtphkdodiphiijaaDoorEngE
import Derived.Laws.StructEq
import Derived.ChangeKeysEq
namespace Go.Eng
open Go
set_option linter.unusedSectionVars false
set_option linter.unusedVariables false
set_option linter.unusedSimpArgs false
variable [Glob]

theorem nan_iff (w : Nat) : (Ieee.double.read w).isNaN = decide (9218868437227405312 < w % 9223372036854775808) := by
  have hs : Ieee.double.signWeight = 9223372036854775808 := by decide
  have hb : Ieee.double.binade = 4503599627370496 := by decide
  have hi : Ieee.double.infRung = 9218868437227405312 := by decide
  unfold Ieee.Format.read
  simp only [hs, hb, hi]
  generalize w % 9223372036854775808 = r
  by_cases h1 : r < 4503599627370496
  · rw [if_pos h1]; symm; simp only [Ieee.Datum.isNaN]; exact decide_eq_false (by omega)
  · rw [if_neg h1]
    by_cases h2 : r < 9218868437227405312
    · rw [if_pos h2]; symm; simp only [Ieee.Datum.isNaN]; exact decide_eq_false (by omega)
    · rw [if_neg h2]
      by_cases h3 : r = 9218868437227405312
      · rw [if_pos h3]; symm; simp only [Ieee.Datum.isNaN]; exact decide_eq_false (by omega)
      · rw [if_neg h3]; symm; simp only [Ieee.Datum.isNaN]; exact decide_eq_true (by omega)

theorem nan_neg {b : Nat} (h : (Ieee.double.read b).isNaN = true) : (Ieee.double.read (b ^^^ 9223372036854775808)).isNaN = true := by
  rw [nan_iff] at h ⊢
  have e : (b ^^^ 9223372036854775808) % 9223372036854775808 = b % 9223372036854775808 := by
    have := Nat.xor_mod_two_pow (a := b) (b := 9223372036854775808) (n := 63)
    simpa using this
  rw [e]; exact h

theorem nan_cut (x y t : Nat) : (Ieee.double.read ((Question.nanBits .f64 x y).cut t)).isNaN = true := by
  rw [nan_iff]
  simp only [Question.cut]
  apply decide_eq_true
  have h1 : t / 2 % (2 ^ 52 - 1) < 2 ^ 52 - 1 := Nat.mod_lt _ (by decide)
  have h2 : t % 2 < 2 := Nat.mod_lt _ (by decide)
  generalize t / 2 % (2 ^ 52 - 1) = r at *
  generalize t % 2 = s at *
  have : s = 0 ∨ s = 1 := by omega
  rcases this with rfl | rfl <;> omega

theorem quiet_nan (s : Bool) (t : Nat) : (Ieee.double.read (Ieee.double.write (.nan s (Ieee.double.quiet t)))).isNaN = true := by
  have hs : Ieee.double.signWeight = 9223372036854775808 := by decide
  have hb : Ieee.double.binade = 2 ^ 52 := by decide
  have hi : Ieee.double.infRung = 9218868437227405312 := by decide
  rw [nan_iff]
  simp only [Ieee.Format.write, Ieee.Format.word, hs, hb, hi]
  have hq : (Ieee.double.quiet t % 2 ^ 52).testBit 51 = true := by
    rw [Nat.testBit_mod_two_pow]
    show (decide (51 < 52) && (t ||| 2 ^ 51).testBit 51) = true
    have h51 : Nat.testBit (2 ^ 51) 51 = true := by decide
    rw [Nat.testBit_or, h51]; simp
  have h0 : Ieee.double.quiet t % 2 ^ 52 ≠ 0 := by intro h; rw [h] at hq; simp at hq
  have h1 : Ieee.double.quiet t % 2 ^ 52 < 2 ^ 52 := Nat.mod_lt _ (by decide)
  generalize Ieee.double.quiet t % 2 ^ 52 = r at *
  apply decide_eq_true
  cases s
  · simp only [Bool.false_eq_true, if_false]; omega
  · simp only [if_true]; omega

section
variable {wr : Nat → Prop} {W : World} {own : Own} {P : Program}

/-- what stands for a float -/
theorem fl_val {a : Option Nat} {v' : Value} (h : VR wr W own (.fl a) v') : ∃ b, v' = .float .f64 b ∧ ((a = some b) ∨ (a = none ∧ (Ieee.double.read b).isNaN = true)) := by
  cases h with
  | flt b => exact ⟨b, rfl, .inl rfl⟩
  | fnan b h => exact ⟨b, rfl, .inr ⟨rfl, h⟩⟩

theorem sum_nan {d e : Ieee.Datum} (h : d.isNaN = true ∨ e.isNaN = true) : d.sum e = none := by
  cases d <;> cases e <;> simp [Ieee.Datum.isNaN, Ieee.Datum.sum] at h ⊢
theorem prod_nan {d e : Ieee.Datum} (h : d.isNaN = true ∨ e.isNaN = true) : d.product e = none := by
  cases d <;> cases e <;> simp [Ieee.Datum.isNaN, Ieee.Datum.product] at h ⊢
theorem quot_nan {d e : Ieee.Datum} (n : Nat) (h : d.isNaN = true ∨ e.isNaN = true) : d.quotient n e = none := by
  cases d <;> cases e <;> simp [Ieee.Datum.isNaN, Ieee.Datum.quotient] at h ⊢
theorem ord_nan {d e : Ieee.Datum} (h : d.isNaN = true ∨ e.isNaN = true) : d.order e = none := by
  cases d <;> cases e <;> simp [Ieee.Datum.isNaN, Ieee.Datum.order] at h ⊢
theorem opp_nan (d : Ieee.Datum) : d.opposite.isNaN = d.isNaN := by cases d <;> rfl

theorem flA_eq {f : Nat → Nat → Option Nat} (hf : ∀ x y, (Ieee.double.read x).isNaN = true ∨ (Ieee.double.read y).isNaN = true → f x y = none) {a b : Option Nat} {x y : Nat}
    (ha : a = some x ∨ (a = none ∧ (Ieee.double.read x).isNaN = true)) (hb : b = some y ∨ (b = none ∧ (Ieee.double.read y).isNaN = true)) : flA f a b = f x y := by
  rcases ha with rfl | ⟨rfl, ha⟩ <;> rcases hb with rfl | ⟨rfl, hb⟩
  · rfl
  · rw [hf x y (.inr hb)]; rfl
  · rw [hf x y (.inl ha)]; rfl
  · rw [hf x y (.inl ha)]; rfl
theorem flO_eq {a b : Option Nat} {x y : Nat} (ha : a = some x ∨ (a = none ∧ (Ieee.double.read x).isNaN = true)) (hb : b = some y ∨ (b = none ∧ (Ieee.double.read y).isNaN = true)) :
    flO a b = Ieee.double.order x y := by
  have hf : ∀ x y, (Ieee.double.read x).isNaN = true ∨ (Ieee.double.read y).isNaN = true → Ieee.double.order x y = none := fun x y h => ord_nan h
  rcases ha with rfl | ⟨rfl, ha⟩ <;> rcases hb with rfl | ⟨rfl, hb⟩
  · rfl
  · rw [hf x y (.inr hb)]; rfl
  · rw [hf x y (.inl ha)]; rfl
  · rw [hf x y (.inl ha)]; rfl

theorem ari_run (op : BinOp) (f : Nat → Nat → Option Nat) {x y : Nat} (h : Op.floatArith op .f64 x y = ((match f x y with | some r => pure (.float .f64 r) | none => do pure (.float .f64 (← choose (.nanBits .f64 x y)))) : Sem Value)) :
    ∃ v' W', (Op.floatArith op .f64 x y).run P W = .ok v' W' ∧ Gl W W' ∧ VR wr W' own (.fl (f x y)) v' := by
  rw [h]
  cases hf : f x y with
  | some r => exact ⟨_, W, rfl, Gl.refl _, .flt r⟩
  | none =>
    refine ⟨.float .f64 ((Question.nanBits .f64 x y).cut (W.tape W.drawn (.nanBits .f64 x y))), { W with drawn := W.drawn + 1 }, rfl, Gl.drawn _ _, .fnan _ (nan_cut _ _ _)⟩

theorem eqGuard_float (op : BinOp) (t : TypeId) (xo yo : Operand) (k k' : FloatKind) (a b : Nat) : eqGuard op t xo yo (.float k a) (.float k' b) = pure () := by
  cases op <;> rfl

theorem fbin_run {op : BinOp} {x y v : V} {x' y' : Value} {t : TypeId} {xo yo : Operand} (hx : VR wr W own x x') (hy : VR wr W own y y') (h : fbinV op x y = some v) :
    ∃ v' W', (do eqGuard op t xo yo x' y'; binOp op t x' y' : Sem Value).run P W = .ok v' W' ∧ Gl W W' ∧ VR wr W' own v v' := by
  unfold fbinV at h
  split at h
  case h_2 => cases h
  rename_i a b
  obtain ⟨m, rfl, hm⟩ := fl_val hx
  obtain ⟨n, rfl, hn⟩ := fl_val hy
  rw [eqGuard_float]
  have ho := flO_eq hm hn
  cases op <;> dsimp only at h <;> (try (cases h; done)) <;> cases h
  · rw [flA_eq (f := Ieee.double.add) (fun x y h => by show ((Ieee.double.read x).sum (Ieee.double.read y)).map _ = none; rw [sum_nan h]; rfl) hm hn]
    exact ari_run .add Ieee.double.add rfl
  · rw [flA_eq (f := Ieee.double.sub) (fun x y h => by show ((Ieee.double.read x).sum (Ieee.double.read y).opposite).map _ = none; rw [sum_nan (by rw [opp_nan]; exact h)]; rfl) hm hn]
    exact ari_run .sub Ieee.double.sub rfl
  · rw [flA_eq (f := Ieee.double.mul) (fun x y h => by show ((Ieee.double.read x).product (Ieee.double.read y)).map _ = none; rw [prod_nan h]; rfl) hm hn]
    exact ari_run .mul Ieee.double.mul rfl
  · rw [flA_eq (f := Ieee.double.div) (fun x y h => by show ((Ieee.double.read x).quotient _ (Ieee.double.read y)).map _ = none; rw [quot_nan _ h]; rfl) hm hn]
    exact ari_run .quo Ieee.double.div rfl
  all_goals (rw [ho]; exact ⟨_, W, rfl, Gl.refl _, .bool _⟩)

theorem fneg_run {x v : V} {x' : Value} (hx : VR wr W own x x') (h : fnegV x = some v) : ∃ v', (Op.unary .neg x').run P W = .ok v' W ∧ VR wr W own v v' := by
  unfold fnegV at h
  split at h
  · cases hx; cases h; exact ⟨_, rfl, .flt _⟩
  · cases hx with
    | fnan b hb => cases h; exact ⟨_, rfl, .fnan _ (nan_neg hb)⟩
  · cases h

theorem i2f_run {s d : TypeId} (hs : hasT P s = true) (hd : P.underlying d = some (.float .f64)) {x v : V} {x' : Value} (hx : VR wr W own x x') (h : i2fV x = some v) :
    ∃ v', (convert s d x').run P W = .ok v' W ∧ VR wr W own v v' := by
  unfold i2fV at h
  split at h
  · rename_i k n
    cases hx; cases h
    obtain ⟨ds, hds⟩ := Option.isSome_iff_exists.mp (show (P.underlying s).isSome = true from hs)
    refine ⟨.float .f64 (Ieee.double.write (.number (n < 0) n.natAbs 0)), ?_, .flt _⟩
    simp only [convert, Sem.run_bind, run_underlying hds, run_underlying hd, Result.andThen_ok]
    cases ds <;> rfl
  · cases h

theorem f2i_run {s d : TypeId} {k : IntKind} (hs : hasT P s = true) (hd : P.underlying d = some (.int k)) {x v : V} {x' : Value} (hx : VR wr W own x x') (h : f2iV k x = some v) :
    ∃ v', (convert s d x').run P W = .ok v' W ∧ VR wr W own v v' := by
  unfold f2iV at h
  split at h
  · rename_i b
    cases hx
    split at h
    · rename_i n hn
      split at h
      · rename_i hk
        cases h
        obtain ⟨ds, hds⟩ := Option.isSome_iff_exists.mp (show (P.underlying s).isSome = true from hs)
        refine ⟨.int k n, ?_, .int _ _⟩
        have e : (Conv.floatToInt .f64 b k).run P W = .ok (.int k n) W := by
          unfold Conv.floatToInt
          show (match (Ieee.double.read b).toInt .zero with | some n => _ | none => _ : Sem Value).run P W = _
          rw [hn]
          simp only [hk, and_self, if_true]; rfl
        simp only [convert, Sem.run_bind, run_underlying hds, run_underlying hd, Result.andThen_ok]
        cases ds <;> exact e
      · cases h
    · cases h
  · cases h

theorem xc_rows : (Extern.allNextRows.lookup "math.Float64bits").isNone = true ∧ (Extern.allNextRows.lookup "math.Float64frombits").isNone = true ∧ (Extern.allNextRows.lookup "math.archTrunc").isNone = true ∧ (Extern.allNextRows.lookup "").isNone = true := by
  refine ⟨?_, ?_, ?_, ?_⟩ <;> decide +kernel
theorem xc_gen : (Extern.allGenericRows.lookup "math.Float64bits").isNone = true ∧ (Extern.allGenericRows.lookup "math.Float64frombits").isNone = true ∧ (Extern.allGenericRows.lookup "math.archTrunc").isNone = true := by
  refine ⟨?_, ?_, ?_⟩ <;> decide +kernel
theorem xc_typ : (Extern.allTypedRows.lookup "math.Float64bits").isNone = true ∧ (Extern.allTypedRows.lookup "math.Float64frombits").isNone = true ∧ (Extern.allTypedRows.lookup "math.archTrunc").isNone = true := by
  refine ⟨?_, ?_, ?_⟩ <;> decide +kernel
theorem xc_all : Extern.allRows.lookup "math.Float64bits" = some Extern.MathFloatBits.float64bits ∧ Extern.allRows.lookup "math.Float64frombits" = some Extern.MathFloatBits.float64frombits ∧ Extern.allRows.lookup "math.archTrunc" = some (Extern.MathFloor.toIntegral "math.archTrunc" .zero) := by
  refine ⟨?_, ?_, ?_⟩ <;> kernel_rfl

def XF.fn : XF → Array Value → Sem Value
  | .bits => Extern.MathFloatBits.float64bits
  | .frombits => Extern.MathFloatBits.float64frombits
  | .trunc => Extern.MathFloor.toIntegral "math.archTrunc" .zero

theorem xc_next {fn : Func} {e : XF} (h1 : fn.name = e.name) (h2 : fn.origin = "") : Extern.findNext fn = none := by
  obtain ⟨a, b, c, d⟩ := xc_rows
  rw [Option.isNone_iff_eq_none] at a b c d
  cases e <;> simp only [XF.name] at h1 <;> simp [Extern.findNext, h1, h2, a, b, c, d]
theorem xc_find {fn : Func} {e : XF} (h1 : fn.name = e.name) : Extern.find fn = some e.fn := by
  obtain ⟨a, b, c⟩ := xc_gen
  obtain ⟨a', b', c'⟩ := xc_typ
  obtain ⟨a2, b2, c2⟩ := xc_all
  rw [Option.isNone_iff_eq_none] at a b c a' b' c'
  cases e <;> simp only [XF.name] at h1 <;> simp [Extern.find, h1, a, b, c, a', b', c', a2, b2, c2, XF.fn]

theorem trunc_eq (b : Nat) : Extern.MathFloor.toIntegral "math.archTrunc" .zero #[.float .f64 b] = (match Ieee.double.read b with
    | .nan s t =>
      if FloatKind.f64.format.quiet t = t then pure (.float .f64 b) else do
      let kept ← choose (.extern "math.Floor,Ceil,Trunc,RoundToEven.signallingNaN kept" 2)
      pure (.float .f64 (if kept == 1 then b else FloatKind.f64.encode (.nan s (FloatKind.f64.format.quiet t))))
    | d => pure (.float .f64 (FloatKind.f64.encode (d.integral .zero))) : Sem Value) := rfl

theorem xc_run {e : XF} {x v : V} {x' : Value} (hx : VR wr W own x x') (h : xcV e x = some v) :
    ∃ v' W', (e.fn #[x']).run P W = .ok v' W' ∧ Gl W W' ∧ VR wr W' own v v' := by
  unfold xcV at h
  split at h
  · cases hx; cases h; exact ⟨_, W, rfl, Gl.refl _, .int _ _⟩
  · cases hx with
    | fnan b hb => cases h; exact ⟨_, W, rfl, Gl.refl _, .nanw b hb⟩
  · cases hx; cases h; exact ⟨_, W, rfl, Gl.refl _, .flt _⟩
  · cases hx with
    | nanw b hb => cases h; exact ⟨_, W, rfl, Gl.refl _, .fnan b hb⟩
  · rename_i b
    cases hx; cases h
    unfold truncB
    show ∃ v' W', (Extern.MathFloor.toIntegral "math.archTrunc" .zero #[.float .f64 b]).run P W = .ok v' W' ∧ _
    rw [trunc_eq]
    cases hd : Ieee.double.read b with
    | nan s t =>
      dsimp only
      by_cases hq : FloatKind.f64.format.quiet t = t
      · rw [if_pos hq]; exact ⟨_, W, rfl, Gl.refl _, .fnan b (by rw [hd]; rfl)⟩
      · rw [if_neg hq]
        refine ⟨.float .f64 (if (Question.extern "math.Floor,Ceil,Trunc,RoundToEven.signallingNaN kept" 2).cut (W.tape W.drawn (.extern "math.Floor,Ceil,Trunc,RoundToEven.signallingNaN kept" 2)) == 1 then b else FloatKind.f64.encode (.nan s (FloatKind.f64.format.quiet t))), { W with drawn := W.drawn + 1 }, rfl, Gl.drawn _ _, .fnan _ ?_⟩
        split
        · rw [hd]; rfl
        · exact quiet_nan s t
    | number s m p => exact ⟨_, W, rfl, Gl.refl _, .flt _⟩
    | infinity s => exact ⟨_, W, rfl, Gl.refl _, .flt _⟩
  · cases hx with
    | fnan b hb =>
      cases h
      show ∃ v' W', (Extern.MathFloor.toIntegral "math.archTrunc" .zero #[.float .f64 b]).run P W = .ok v' W' ∧ _
      rw [trunc_eq]
      cases hd : Ieee.double.read b with
      | nan s t =>
        dsimp only
        by_cases hq : FloatKind.f64.format.quiet t = t
        · rw [if_pos hq]; exact ⟨_, W, rfl, Gl.refl _, .fnan b hb⟩
        · rw [if_neg hq]
          refine ⟨.float .f64 (if (Question.extern "math.Floor,Ceil,Trunc,RoundToEven.signallingNaN kept" 2).cut (W.tape W.drawn (.extern "math.Floor,Ceil,Trunc,RoundToEven.signallingNaN kept" 2)) == 1 then b else FloatKind.f64.encode (.nan s (FloatKind.f64.format.quiet t))), { W with drawn := W.drawn + 1 }, rfl, Gl.drawn _ _, .fnan _ ?_⟩
          split
          · exact hb
          · exact quiet_nan s t
      | number s m p => rw [hd] at hb; simp [Ieee.Datum.isNaN] at hb
      | infinity s => rw [hd] at hb; simp [Ieee.Datum.isNaN] at hb
  · cases h

/-- the model's call of what has no text -/
theorem xcall_run {c : Call} {ty : TypeId} {a : Act} {f : FuncId} {e : XF} {x' : Operand} (hc : c.callee = .value (.func f)) (hf : chkX P f e = true) (ha : c.args = #[x']) {v' : Value} {W' : World}
    (h : (e.fn #[a.eval x']).run P W = .ok v' W') : (do let d ← resolve a.eval c ty; invoke d.target d.args : Sem Next).run P W = .ok (.value v') W' := by
  unfold chkX at hf
  split at hf
  · rename_i fn hfn
    simp only [Bool.and_eq_true, beq_iff_eq] at hf
    obtain ⟨⟨h1, h2⟩, h3⟩ := hf
    have hr : resolve a.eval c ty = pure { target := .fn (.func f) #[], args := #[a.eval x'] } := by
      simp [resolve, hc, ha, Deferred.ofValue]
      rfl
    have hne : (fn.name == "runtime.NumGoroutine") = false := by rw [h1]; cases e <;> decide
    rw [hr]
    simp only [pure_bind, invoke, callFunc, Sem.run_bind, run_program, Result.andThen_ok, hfn, Array.append_empty]
    rw [if_neg (by simp [hne]), if_pos (by simpa using h3)]
    simp only [Sem.run_bind, xc_next h1 h2, xc_find h1]
    simp [mark, Sem.run, h]
  · cases hf

theorem ixb_rows : (Extern.allNextRows.lookup "internal/bytealg.IndexByteString").isNone = true ∧ (Extern.allNextRows.lookup "").isNone = true ∧ (Extern.allGenericRows.lookup "internal/bytealg.IndexByteString").isNone = true ∧ (Extern.allTypedRows.lookup "internal/bytealg.IndexByteString").isNone = true := by
  refine ⟨?_, ?_, ?_, ?_⟩ <;> decide +kernel
theorem ixb_all : Extern.allRows.lookup "internal/bytealg.IndexByteString" = some Extern.BytealgIndexByte.indexByte := by kernel_rfl
theorem ixb_eq (b c : Value) : Extern.BytealgIndexByte.indexByte #[b, c] = (do
    let b ← Extern.Bytes.bytesOf b
    let c ← Extern.Bytes.asByte c
    match (List.range b.size).find? fun i => b[i]! == c with
    | some i => pure (goInt i)
    | none => pure (goInt (-1))) := rfl
theorem ixb_run {x y v : V} {x' y' : Value} (hx : VR wr W own x x') (hy : VR wr W own y y') (h : ixbV x y = some v) :
    ∃ v', (Extern.BytealgIndexByte.indexByte #[x', y']).run P W = .ok v' W ∧ VR wr W own v v' := by
  unfold ixbV at h
  split at h
  · cases hx; cases hy
    rename_i s n
    split at h
    · rename_i hn
      cases h
      refine ⟨_, ?_, .int _ _⟩
      rw [ixb_eq]
      simp only [Extern.Bytes.bytesOf, Extern.Bytes.asByte, pure_bind]
      cases (List.range s.size).find? fun i => s[i]! == UInt8.ofNat n.toNat <;> rfl
    · cases h
  · cases h
theorem ixb_call {c : Call} {ty : TypeId} {a : Act} {f : FuncId} {x' y' : Operand} (hc : c.callee = .value (.func f)) (hf : chkXB P f = true) (ha : c.args = #[x', y']) {v' : Value} {W' : World}
    (h : (Extern.BytealgIndexByte.indexByte #[a.eval x', a.eval y']).run P W = .ok v' W') : (do let d ← resolve a.eval c ty; invoke d.target d.args : Sem Next).run P W = .ok (.value v') W' := by
  unfold chkXB at hf
  split at hf
  · rename_i fn hfn
    simp only [Bool.and_eq_true, beq_iff_eq] at hf
    obtain ⟨⟨h1, h2⟩, h3⟩ := hf
    have hr : resolve a.eval c ty = pure { target := .fn (.func f) #[], args := #[a.eval x', a.eval y'] } := by
      simp [resolve, hc, ha, Deferred.ofValue]
      rfl
    have hne : (fn.name == "runtime.NumGoroutine") = false := by rw [h1]; decide
    obtain ⟨r1, r2, r3, r4⟩ := ixb_rows
    rw [Option.isNone_iff_eq_none] at r1 r2 r3 r4
    have hn : Extern.findNext fn = none := by simp [Extern.findNext, h1, h2, r1, r2]
    have hfd : Extern.find fn = some Extern.BytealgIndexByte.indexByte := by simp [Extern.find, h1, r3, r4, ixb_all]
    rw [hr]
    simp only [pure_bind, invoke, callFunc, Sem.run_bind, run_program, Result.andThen_ok, hfn, Array.append_empty]
    rw [if_neg (by simp [hne]), if_pos (by simpa using h3)]
    simp only [Sem.run_bind, hn, hfd]
    simp [mark, Sem.run, h]
  · cases hf

theorem eqLeaf_run {d : Nat} {t : TypeId} {l : Leaf} (ht : leafT P t l = true) {x y : V} {x' y' : Value} (hx : VR wr W own x x') (hy : VR wr W own y y') {r : Bool} (h : eqLeaf l x y = some r) :
    (Op.equalIn (d + 1) t x' y').run P W = .ok r W := by
  unfold eqLeaf at h
  split at h
  · cases hx; cases hy; cases h
    cases hu : P.underlying t with
    | none => simp [leafT, hu] at ht
    | some u => cases u <;> simp [leafT, hu] at ht; exact run_equalIn_bool' W d t _ _ hu
  · cases hx; cases hy
    split at h
    · rename_i hk; subst hk; cases h
      cases hu : P.underlying t with
      | none => simp [leafT, hu] at ht
      | some u => cases u <;> simp [leafT, hu] at ht; exact run_equalIn_int W d t _ _ _ _ hu
    · cases h
  · cases hx; cases hy; cases h
    cases hu : P.underlying t with
    | none => simp [leafT, hu] at ht
    | some u => cases u <;> simp [leafT, hu] at ht; exact run_equalIn_string W d t _ _ hu
  · cases h

theorem eqLeafs_split : ∀ (z : Nat) {sig : List Leaf} {xs ys : List V} {r : Bool}, eqLeafs sig xs ys = some r → z ≤ sig.length →
    ∃ p q, eqLeafs (sig.take z) (xs.take z) (ys.take z) = some p ∧ eqLeafs (sig.drop z) (xs.drop z) (ys.drop z) = some q ∧ r = (p && q)
  | 0, sig, xs, ys, r, h, _ => ⟨true, r, by simp [eqLeafs], by simpa using h, by simp⟩
  | z + 1, [], xs, ys, r, h, hz => by simp at hz
  | z + 1, l :: sig, [], ys, r, h, hz => by simp [eqLeafs] at h
  | z + 1, l :: sig, x :: xs, [], r, h, hz => by simp [eqLeafs] at h
  | z + 1, l :: sig, x :: xs, y :: ys, r, h, hz => by
    simp only [eqLeafs] at h
    split at h
    · rename_i p q hp hq
      cases h
      obtain ⟨p', q', h1, h2, rfl⟩ := eqLeafs_split z hq (by simpa using hz)
      exact ⟨p && p', q', by simp [eqLeafs, hp, h1], by simpa using h2, by rw [Bool.and_assoc]⟩
    · cases h
theorem eqLeafs_len : ∀ {sig : List Leaf} {xs ys : List V} {r : Bool}, eqLeafs sig xs ys = some r → xs.length = sig.length ∧ ys.length = sig.length
  | [], [], [], _, _ => ⟨rfl, rfl⟩
  | l :: sig, x :: xs, y :: ys, r, h => by
    simp only [eqLeafs] at h
    split at h
    · rename_i p q hp hq
      obtain ⟨h1, h2⟩ := eqLeafs_len hq
      exact ⟨by simp [h1], by simp [h2]⟩
    · cases h
  | [], _ :: _, _, _, h => by simp [eqLeafs] at h
  | [], [], _ :: _, _, h => by simp [eqLeafs] at h
  | _ :: _, [], _, _, h => by simp [eqLeafs] at h
  | _ :: _, _ :: _, [], _, h => by simp [eqLeafs] at h
/-- a value that stands as these cells -/
def asV (P : Program) (t : TypeId) (cs : List V) (x : V) : Prop := if agOf P t then x = .ag cs else cs = [x]
theorem take_as {t : TypeId} {z o : Nat} {xs : List V} (hs : chkSh P t (if agOf P t then some z else none) = true) (hz : szOf P t = some z) (h : o + z ≤ xs.length) : ∃ v, takeSh xs o (if agOf P t then some z else none) = some v ∧ asV P t ((xs.drop o).take z) v := by
  unfold asV
  cases hag : agOf P t with
  | true => exact ⟨.ag ((xs.drop o).take z), by simp [takeSh, h], by simp⟩
  | false =>
    rw [hag] at hs
    simp only [Bool.false_eq_true, if_false, chkSh, Bool.and_eq_true, beq_iff_eq] at hs
    have hz1 : z = 1 := by have := hs.2; rw [hz] at this; cases this; rfl
    subst hz1
    have hlt : o < xs.length := by omega
    refine ⟨xs[o], by simp [takeSh, List.getElem?_eq_getElem hlt], ?_⟩
    simp only [Bool.false_eq_true, if_false]
    rw [List.drop_eq_getElem_cons hlt]; rfl
theorem eqT_run : ∀ (n : Nat) {t : TypeId} {sig : List Leaf}, chkEqT P n t sig = true → ∀ (d : Nat) {xs ys : List V} {x y : V} {x' y' : Value} {r : Bool}, asV P t xs x → asV P t ys y → VR wr W own x x' → VR wr W own y y' → eqLeafs sig xs ys = some r →
    (Op.equalIn (d + n) t x' y').run P W = .ok r W
  | 0, t, sig, hc, _, _, _, _, _, _, _, _, _, _, _, _, _ => by simp [chkEqT] at hc
  | n + 1, t, sig, hc, d, xs, ys, x, y, x', y', r, hax, hay, hx, hy, h => by
    have hlen := eqLeafs_len h
    cases hu : P.underlying t with
    | none =>
      simp only [chkEqT, hu] at hc
      split at hc
      · rename_i l; cases l <;> simp [leafT, hu] at hc
      · cases hc
    | some u =>
      cases u with
      | struct fs =>
        simp only [chkEqT, hu, Bool.and_eq_true, Bool.not_eq_true'] at hc
        have hag : agOf P t = true := by unfold agOf; rw [hu]
        unfold asV at hax hay
        rw [if_pos hag] at hax hay
        subst hax; subst hay
        cases hx with
        | ag hxl hxv =>
          cases hy with
          | ag hyl hyv =>
            rename_i xa ya
            have hf : P.fieldsOf t = fs := by unfold Program.fieldsOf; rw [hu]
            have e := run_equalIn_struct (P := P) W (d + n) t xa ya (by rw [hf]; exact hu) hc.1
            rw [show d + (n + 1) = (d + n) + 1 from rfl, e, hf]
            have key : ∀ (fl : List Field) (o : Nat) (sg : List Leaf) (r : Bool), chkEqF P (chkEqT P n) o fl sg = true → eqLeafs sg (xs.drop o) (ys.drop o) = some r → (Op.eqFields (d + n) xa ya fl).run P W = .ok r W := by
              intro fl
              induction fl with
              | nil =>
                intro o sg r hk hr
                cases sg with
                | nil =>
                  have : r = true := by
                    cases hxs : xs.drop o <;> cases hys : ys.drop o <;> rw [hxs, hys] at hr <;> simp [eqLeafs] at hr; exact hr
                  subst this; rfl
                | cons l sg => simp [chkEqF] at hk
              | cons f fl ih =>
                intro o sg r hk hr
                simp only [chkEqF] at hk
                split at hk
                · rename_i z hz
                  simp only [Bool.and_eq_true, bne_iff_ne, ne_eq, beq_iff_eq, decide_eq_true_eq] at hk
                  obtain ⟨⟨⟨⟨⟨hn, ho⟩, hz0, hzl⟩, hsh⟩, hrec⟩, hrest⟩ := hk
                  obtain ⟨p, q, hp, hq, rfl⟩ := eqLeafs_split z hr hzl
                  have hl2 := eqLeafs_len hr
                  rw [List.length_drop, List.length_drop] at hl2
                  obtain ⟨va, ta, aa⟩ := take_as (P := P) (xs := xs) (o := o) hsh hz (by omega)
                  obtain ⟨vb, tb, ab⟩ := take_as (P := P) (xs := ys) (o := o) hsh hz (by omega)
                  obtain ⟨va', ra, wa⟩ := run_part (P := P) hsh hxl hxv ta
                  obtain ⟨vb', rb, wb⟩ := run_part (P := P) hsh hyl hyv tb
                  have h1 := eqT_run n hrec d aa ab wa wb hp
                  have ih2 := ih (o + z) _ q hrest (by rw [← List.drop_drop, ← List.drop_drop]; exact hq)
                  subst ho
                  simp only [Op.eqFields, hn, not_false_eq_true, ne_eq, if_true, Sem.run_bind, ra, rb, h1, Result.andThen_ok]
                  cases p
                  · simp
                  · simpa using ih2
                · cases hk
            exact key fs.toList 0 sig r hc.2 (by simpa using h)
      | array l e =>
        simp only [chkEqT, hu] at hc
        split at hc
        · rename_i z hz
          simp only [Bool.and_eq_true, beq_iff_eq, List.all_eq_true, List.mem_range] at hc
          obtain ⟨⟨hsl, hsh⟩, hrec⟩ := hc
          have hag : agOf P t = true := by unfold agOf; rw [hu]
          unfold asV at hax hay
          rw [if_pos hag] at hax hay
          subst hax; subst hay
          cases hx with
          | ag hxl hxv =>
            cases hy with
            | ag hyl hyv =>
              rename_i xa ya
              obtain ⟨i, hi, hci⟩ : ∃ i, P.info? e = some i ∧ P.cellsOf e = z := by
                unfold szOf at hz
                cases hi : P.info? e with
                | none => rw [hi] at hz; cases hz
                | some i => rw [hi] at hz; exact ⟨i, rfl, by unfold Program.cellsOf; rw [hi]; simpa using hz⟩
              rw [show d + (n + 1) = (d + n) + 1 from rfl, run_equalIn_array (P := P) (w := W) (d + n) xa ya hu hi, hci, List.range_eq_range']
              have key : ∀ (k s : Nat) (r : Bool), s + k = l → eqLeafs (sig.drop (s * z)) (xs.drop (s * z)) (ys.drop (s * z)) = some r → (Op.eqItems (d + n) e z xa ya (List.range' s k)).run P W = .ok r W := by
                intro k
                induction k with
                | zero =>
                  intro s r hs hr
                  have hs0 : s = l := by omega
                  subst hs0
                  rw [List.drop_of_length_le (by omega)] at hr
                  have : r = true := by
                    cases hxs : xs.drop (s * z) <;> cases hys : ys.drop (s * z) <;> rw [hxs, hys] at hr <;> simp [eqLeafs] at hr; exact hr
                  subst this; simp [Op.eqItems]
                | succ k ih =>
                  intro s r hs hr
                  have hzl : z ≤ (sig.drop (s * z)).length := by
                    rw [List.length_drop, hsl, ← hs, Nat.add_mul, Nat.add_mul]; omega
                  obtain ⟨p, q, hp, hq, rfl⟩ := eqLeafs_split z hr hzl
                  have hl2 := eqLeafs_len hr
                  rw [List.length_drop, List.length_drop] at hl2
                  rw [List.length_drop] at hzl hl2
                  have hb : s * z + z ≤ sig.length := by rw [hsl, ← hs, Nat.add_mul, Nat.add_mul]; omega
                  obtain ⟨va, ta, aa⟩ := take_as (P := P) (xs := xs) (o := s * z) hsh hz (by omega)
                  obtain ⟨vb, tb, ab⟩ := take_as (P := P) (xs := ys) (o := s * z) hsh hz (by omega)
                  obtain ⟨va', ra, wa⟩ := run_part (P := P) hsh hxl hxv ta
                  obtain ⟨vb', rb, wb⟩ := run_part (P := P) hsh hyl hyv tb
                  have h1 := eqT_run n (hrec s (by omega)) d aa ab wa wb hp
                  have ih2 := ih (s + 1) q (by omega) (by rw [Nat.succ_mul, ← List.drop_drop, ← List.drop_drop, ← List.drop_drop]; exact hq)
                  rw [List.range'_succ]
                  simp only [Op.eqItems, Sem.run_bind, ra, rb, h1, Result.andThen_ok]
                  cases p
                  · simp
                  · simpa using ih2
              exact key l 0 r (by omega) (by simpa using h)
        · cases hc
      | _ =>
        simp only [chkEqT, hu] at hc
        split at hc
        · rename_i l
          have hag : agOf P t = false := by unfold agOf; rw [hu]
          unfold asV at hax hay
          rw [hag] at hax hay
          simp only [Bool.false_eq_true, if_false] at hax hay
          subst hax; subst hay
          have hr : eqLeaf l x y = some r := by
            simp only [eqLeafs] at h
            split at h
            · rename_i p q hp hq
              cases hq; cases h; rw [hp]; simp
            · cases h
          exact eqLeaf_run (d := d + n) hc hx hy hr
        · cases hc
theorem eqs_run {t : TypeId} {ne : Bool} {sig : List Leaf} (hag : agOf P t = true) (hg : P.eqGuardType P.depth t = false) (hl : chkEqT P 8 t sig = true)
    {x y v : V} {x' y' : Value} {xo yo : Operand} (hx : VR wr W own x x') (hy : VR wr W own y y') (h : eqsV ne sig x y = some v) :
    ∃ v', (do eqGuard (if ne then .neq else .eql) t xo yo x' y'; binOp (if ne then .neq else .eql) t x' y' : Sem Value).run P W = .ok v' W ∧ VR wr W own v v' := by
  unfold eqsV at h
  split at h
  · rename_i xs ys
    simp only [Option.map_eq_some_iff] at h
    obtain ⟨r, hr, rfl⟩ := h
    have e := eqT_run (P := P) 8 hl 9992 (xs := xs) (ys := ys) (by unfold asV; rw [if_pos hag]) (by unfold asV; rw [if_pos hag]) hx hy hr
    cases hx with
    | ag hxl hxv =>
      cases hy with
      | ag hyl hyv =>
        rename_i xa ya
        refine ⟨.bool (if ne then !r else r), ?_, .bool _⟩
        rw [Sem.run_bind, run_eqGuard_agg W _ t xo yo xa ya hg, Result.andThen_ok]
        cases ne
        · simp only [Bool.false_eq_true, if_false]; rw [run_eql_struct, e]; rfl
        · simp only [if_true]; rw [run_neq_struct, e]; rfl
  · cases h
end
end Go.Eng
