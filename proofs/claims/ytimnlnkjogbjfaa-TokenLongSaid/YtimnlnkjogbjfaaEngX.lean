/- Floats, functions without a text, and comparable structs: what the small machine tells is what the model tells (no condition beyond those stated). -/
import Derived.Test.YtimnlnkjogbjfaaEngE
import Derived.Laws.StructEq
namespace Go.Eng
open Go
set_option linter.unusedVariables false
set_option linter.unusedSimpArgs false

theorem nan_iff (w : Nat) : (Ieee.double.read w).isNaN = decide (9218868437227405312 < w % 9223372036854775808) := by
  have hs : Ieee.double.signWeight = 9223372036854775808 := by decide
  have hb : Ieee.double.binade = 4503599627370496 := by decide
  have hi : Ieee.double.infRung = 9218868437227405312 := by decide
  unfold Ieee.Format.read
  simp only [hs, hb, hi]
  generalize w % 9223372036854775808 = r
  by_cases h1 : r < 4503599627370496
  · rw [if_pos h1]; symm; simp only [Ieee.Datum.isNaN]; exact decide_eq_false (by omega)
  · rw [if_neg h1]
    by_cases h2 : r < 9218868437227405312
    · rw [if_pos h2]; symm; simp only [Ieee.Datum.isNaN]; exact decide_eq_false (by omega)
    · rw [if_neg h2]
      by_cases h3 : r = 9218868437227405312
      · rw [if_pos h3]; symm; simp only [Ieee.Datum.isNaN]; exact decide_eq_false (by omega)
      · rw [if_neg h3]; symm; simp only [Ieee.Datum.isNaN]; exact decide_eq_true (by omega)

theorem nan_neg {b : Nat} (h : (Ieee.double.read b).isNaN = true) : (Ieee.double.read (b ^^^ 9223372036854775808)).isNaN = true := by
  rw [nan_iff] at h ⊢
  have e : (b ^^^ 9223372036854775808) % 9223372036854775808 = b % 9223372036854775808 := by
    have := Nat.xor_mod_two_pow (a := b) (b := 9223372036854775808) (n := 63)
    simpa using this
  rw [e]; exact h

theorem nan_cut (x y t : Nat) : (Ieee.double.read ((Question.nanBits .f64 x y).cut t)).isNaN = true := by
  rw [nan_iff]
  simp only [Question.cut]
  apply decide_eq_true
  have h1 : t / 2 % (2 ^ 52 - 1) < 2 ^ 52 - 1 := Nat.mod_lt _ (by decide)
  have h2 : t % 2 < 2 := Nat.mod_lt _ (by decide)
  generalize t / 2 % (2 ^ 52 - 1) = r at *
  generalize t % 2 = s at *
  have : s = 0 ∨ s = 1 := by omega
  rcases this with rfl | rfl <;> omega

theorem quiet_nan (s : Bool) (t : Nat) : (Ieee.double.read (Ieee.double.write (.nan s (Ieee.double.quiet t)))).isNaN = true := by
  have hs : Ieee.double.signWeight = 9223372036854775808 := by decide
  have hb : Ieee.double.binade = 2 ^ 52 := by decide
  have hi : Ieee.double.infRung = 9218868437227405312 := by decide
  rw [nan_iff]
  simp only [Ieee.Format.write, Ieee.Format.word, hs, hb, hi]
  have hq : (Ieee.double.quiet t % 2 ^ 52).testBit 51 = true := by
    rw [Nat.testBit_mod_two_pow]
    show (decide (51 < 52) && (t ||| 2 ^ 51).testBit 51) = true
    have h51 : Nat.testBit (2 ^ 51) 51 = true := by decide
    rw [Nat.testBit_or, h51]; simp
  have h0 : Ieee.double.quiet t % 2 ^ 52 ≠ 0 := by intro h; rw [h] at hq; simp at hq
  have h1 : Ieee.double.quiet t % 2 ^ 52 < 2 ^ 52 := Nat.mod_lt _ (by decide)
  generalize Ieee.double.quiet t % 2 ^ 52 = r at *
  apply decide_eq_true
  cases s
  · simp only [Bool.false_eq_true, if_false]; omega
  · simp only [if_true]; omega

section
variable {wr : Nat → Prop} {W : World} {own : Own} {P : Program}

/-- what stands for a float -/
theorem fl_val {a : Option Nat} {v' : Value} (h : VR wr W own (.fl a) v') : ∃ b, v' = .float .f64 b ∧ ((a = some b) ∨ (a = none ∧ (Ieee.double.read b).isNaN = true)) := by
  cases h with
  | flt b => exact ⟨b, rfl, .inl rfl⟩
  | fnan b h => exact ⟨b, rfl, .inr ⟨rfl, h⟩⟩

theorem sum_nan {d e : Ieee.Datum} (h : d.isNaN = true ∨ e.isNaN = true) : d.sum e = none := by
  cases d <;> cases e <;> simp [Ieee.Datum.isNaN, Ieee.Datum.sum] at h ⊢
theorem prod_nan {d e : Ieee.Datum} (h : d.isNaN = true ∨ e.isNaN = true) : d.product e = none := by
  cases d <;> cases e <;> simp [Ieee.Datum.isNaN, Ieee.Datum.product] at h ⊢
theorem quot_nan {d e : Ieee.Datum} (n : Nat) (h : d.isNaN = true ∨ e.isNaN = true) : d.quotient n e = none := by
  cases d <;> cases e <;> simp [Ieee.Datum.isNaN, Ieee.Datum.quotient] at h ⊢
theorem ord_nan {d e : Ieee.Datum} (h : d.isNaN = true ∨ e.isNaN = true) : d.order e = none := by
  cases d <;> cases e <;> simp [Ieee.Datum.isNaN, Ieee.Datum.order] at h ⊢
theorem opp_nan (d : Ieee.Datum) : d.opposite.isNaN = d.isNaN := by cases d <;> rfl

theorem flA_eq {f : Nat → Nat → Option Nat} (hf : ∀ x y, (Ieee.double.read x).isNaN = true ∨ (Ieee.double.read y).isNaN = true → f x y = none) {a b : Option Nat} {x y : Nat}
    (ha : a = some x ∨ (a = none ∧ (Ieee.double.read x).isNaN = true)) (hb : b = some y ∨ (b = none ∧ (Ieee.double.read y).isNaN = true)) : flA f a b = f x y := by
  rcases ha with rfl | ⟨rfl, ha⟩ <;> rcases hb with rfl | ⟨rfl, hb⟩
  · rfl
  · rw [hf x y (.inr hb)]; rfl
  · rw [hf x y (.inl ha)]; rfl
  · rw [hf x y (.inl ha)]; rfl
theorem flO_eq {a b : Option Nat} {x y : Nat} (ha : a = some x ∨ (a = none ∧ (Ieee.double.read x).isNaN = true)) (hb : b = some y ∨ (b = none ∧ (Ieee.double.read y).isNaN = true)) :
    flO a b = Ieee.double.order x y := by
  have hf : ∀ x y, (Ieee.double.read x).isNaN = true ∨ (Ieee.double.read y).isNaN = true → Ieee.double.order x y = none := fun x y h => ord_nan h
  rcases ha with rfl | ⟨rfl, ha⟩ <;> rcases hb with rfl | ⟨rfl, hb⟩
  · rfl
  · rw [hf x y (.inr hb)]; rfl
  · rw [hf x y (.inl ha)]; rfl
  · rw [hf x y (.inl ha)]; rfl

theorem ari_run (op : BinOp) (f : Nat → Nat → Option Nat) {x y : Nat} (h : Op.floatArith op .f64 x y = ((match f x y with | some r => pure (.float .f64 r) | none => do pure (.float .f64 (← choose (.nanBits .f64 x y)))) : Sem Value)) :
    ∃ v' W', (Op.floatArith op .f64 x y).run P W = .ok v' W' ∧ Gl W W' ∧ VR wr W' own (.fl (f x y)) v' := by
  rw [h]
  cases hf : f x y with
  | some r => exact ⟨_, W, rfl, Gl.refl _, .flt r⟩
  | none =>
    refine ⟨.float .f64 ((Question.nanBits .f64 x y).cut (W.tape W.drawn (.nanBits .f64 x y))), { W with drawn := W.drawn + 1 }, rfl, Gl.drawn _ _, .fnan _ (nan_cut _ _ _)⟩

theorem eqGuard_float (op : BinOp) (t : TypeId) (xo yo : Operand) (k k' : FloatKind) (a b : Nat) : eqGuard op t xo yo (.float k a) (.float k' b) = pure () := by
  cases op <;> rfl

theorem fbin_run {op : BinOp} {x y v : V} {x' y' : Value} {t : TypeId} {xo yo : Operand} (hx : VR wr W own x x') (hy : VR wr W own y y') (h : fbinV op x y = some v) :
    ∃ v' W', (do eqGuard op t xo yo x' y'; binOp op t x' y' : Sem Value).run P W = .ok v' W' ∧ Gl W W' ∧ VR wr W' own v v' := by
  unfold fbinV at h
  split at h
  case h_2 => cases h
  rename_i a b
  obtain ⟨m, rfl, hm⟩ := fl_val hx
  obtain ⟨n, rfl, hn⟩ := fl_val hy
  rw [eqGuard_float]
  have ho := flO_eq hm hn
  cases op <;> dsimp only at h <;> (try (cases h; done)) <;> cases h
  · rw [flA_eq (f := Ieee.double.add) (fun x y h => by show ((Ieee.double.read x).sum (Ieee.double.read y)).map _ = none; rw [sum_nan h]; rfl) hm hn]
    exact ari_run .add Ieee.double.add rfl
  · rw [flA_eq (f := Ieee.double.sub) (fun x y h => by show ((Ieee.double.read x).sum (Ieee.double.read y).opposite).map _ = none; rw [sum_nan (by rw [opp_nan]; exact h)]; rfl) hm hn]
    exact ari_run .sub Ieee.double.sub rfl
  · rw [flA_eq (f := Ieee.double.mul) (fun x y h => by show ((Ieee.double.read x).product (Ieee.double.read y)).map _ = none; rw [prod_nan h]; rfl) hm hn]
    exact ari_run .mul Ieee.double.mul rfl
  · rw [flA_eq (f := Ieee.double.div) (fun x y h => by show ((Ieee.double.read x).quotient _ (Ieee.double.read y)).map _ = none; rw [quot_nan _ h]; rfl) hm hn]
    exact ari_run .quo Ieee.double.div rfl
  all_goals (rw [ho]; exact ⟨_, W, rfl, Gl.refl _, .bool _⟩)

theorem fneg_run {x v : V} {x' : Value} (hx : VR wr W own x x') (h : fnegV x = some v) : ∃ v', (Op.unary .neg x').run P W = .ok v' W ∧ VR wr W own v v' := by
  unfold fnegV at h
  split at h
  · cases hx; cases h; exact ⟨_, rfl, .flt _⟩
  · cases hx with
    | fnan b hb => cases h; exact ⟨_, rfl, .fnan _ (nan_neg hb)⟩
  · cases h

theorem i2f_run {s d : TypeId} (hs : hasT P s = true) (hd : P.underlying d = some (.float .f64)) {x v : V} {x' : Value} (hx : VR wr W own x x') (h : i2fV x = some v) :
    ∃ v', (convert s d x').run P W = .ok v' W ∧ VR wr W own v v' := by
  unfold i2fV at h
  split at h
  · rename_i k n
    cases hx; cases h
    obtain ⟨ds, hds⟩ := Option.isSome_iff_exists.mp (show (P.underlying s).isSome = true from hs)
    refine ⟨.float .f64 (Ieee.double.write (.number (n < 0) n.natAbs 0)), ?_, .flt _⟩
    simp only [convert, Sem.run_bind, run_underlying hds, run_underlying hd, Result.andThen_ok]
    cases ds <;> rfl
  · cases h

theorem f2i_run {s d : TypeId} {k : IntKind} (hs : hasT P s = true) (hd : P.underlying d = some (.int k)) {x v : V} {x' : Value} (hx : VR wr W own x x') (h : f2iV k x = some v) :
    ∃ v', (convert s d x').run P W = .ok v' W ∧ VR wr W own v v' := by
  unfold f2iV at h
  split at h
  · rename_i b
    cases hx
    split at h
    · rename_i n hn
      split at h
      · rename_i hk
        cases h
        obtain ⟨ds, hds⟩ := Option.isSome_iff_exists.mp (show (P.underlying s).isSome = true from hs)
        refine ⟨.int k n, ?_, .int _ _⟩
        have e : (Conv.floatToInt .f64 b k).run P W = .ok (.int k n) W := by
          unfold Conv.floatToInt
          show (match (Ieee.double.read b).toInt .zero with | some n => _ | none => _ : Sem Value).run P W = _
          rw [hn]
          simp only [hk, and_self, if_true]; rfl
        simp only [convert, Sem.run_bind, run_underlying hds, run_underlying hd, Result.andThen_ok]
        cases ds <;> exact e
      · cases h
    · cases h
  · cases h

theorem xc_rows : (Extern.allNextRows.lookup "math.Float64bits").isNone = true ∧ (Extern.allNextRows.lookup "math.Float64frombits").isNone = true ∧ (Extern.allNextRows.lookup "math.archTrunc").isNone = true ∧ (Extern.allNextRows.lookup "").isNone = true := by
  refine ⟨?_, ?_, ?_, ?_⟩ <;> decide +kernel
theorem xc_gen : (Extern.allGenericRows.lookup "math.Float64bits").isNone = true ∧ (Extern.allGenericRows.lookup "math.Float64frombits").isNone = true ∧ (Extern.allGenericRows.lookup "math.archTrunc").isNone = true := by
  refine ⟨?_, ?_, ?_⟩ <;> decide +kernel
theorem xc_typ : (Extern.allTypedRows.lookup "math.Float64bits").isNone = true ∧ (Extern.allTypedRows.lookup "math.Float64frombits").isNone = true ∧ (Extern.allTypedRows.lookup "math.archTrunc").isNone = true := by
  refine ⟨?_, ?_, ?_⟩ <;> decide +kernel
theorem xc_all : Extern.allRows.lookup "math.Float64bits" = some Extern.MathFloatBits.float64bits ∧ Extern.allRows.lookup "math.Float64frombits" = some Extern.MathFloatBits.float64frombits ∧ Extern.allRows.lookup "math.archTrunc" = some (Extern.MathFloor.toIntegral "math.archTrunc" .zero) := by
  refine ⟨?_, ?_, ?_⟩ <;> kernel_rfl

def XF.fn : XF → Array Value → Sem Value
  | .bits => Extern.MathFloatBits.float64bits
  | .frombits => Extern.MathFloatBits.float64frombits
  | .trunc => Extern.MathFloor.toIntegral "math.archTrunc" .zero

theorem xc_next {fn : Func} {e : XF} (h1 : fn.name = e.name) (h2 : fn.origin = "") : Extern.findNext fn = none := by
  obtain ⟨a, b, c, d⟩ := xc_rows
  rw [Option.isNone_iff_eq_none] at a b c d
  cases e <;> simp only [XF.name] at h1 <;> simp [Extern.findNext, h1, h2, a, b, c, d]
theorem xc_find {fn : Func} {e : XF} (h1 : fn.name = e.name) : Extern.find fn = some e.fn := by
  obtain ⟨a, b, c⟩ := xc_gen
  obtain ⟨a', b', c'⟩ := xc_typ
  obtain ⟨a2, b2, c2⟩ := xc_all
  rw [Option.isNone_iff_eq_none] at a b c a' b' c'
  cases e <;> simp only [XF.name] at h1 <;> simp [Extern.find, h1, a, b, c, a', b', c', a2, b2, c2, XF.fn]

theorem trunc_eq (b : Nat) : Extern.MathFloor.toIntegral "math.archTrunc" .zero #[.float .f64 b] = (match Ieee.double.read b with
    | .nan s t =>
      if FloatKind.f64.format.quiet t = t then pure (.float .f64 b) else do
      let kept ← choose (.extern "math.Floor,Ceil,Trunc,RoundToEven.signallingNaN kept" 2)
      pure (.float .f64 (if kept == 1 then b else FloatKind.f64.encode (.nan s (FloatKind.f64.format.quiet t))))
    | d => pure (.float .f64 (FloatKind.f64.encode (d.integral .zero))) : Sem Value) := rfl

theorem xc_run {e : XF} {x v : V} {x' : Value} (hx : VR wr W own x x') (h : xcV e x = some v) :
    ∃ v' W', (e.fn #[x']).run P W = .ok v' W' ∧ Gl W W' ∧ VR wr W' own v v' := by
  unfold xcV at h
  split at h
  · cases hx; cases h; exact ⟨_, W, rfl, Gl.refl _, .int _ _⟩
  · cases hx with
    | fnan b hb => cases h; exact ⟨_, W, rfl, Gl.refl _, .nanw b hb⟩
  · cases hx; cases h; exact ⟨_, W, rfl, Gl.refl _, .flt _⟩
  · cases hx with
    | nanw b hb => cases h; exact ⟨_, W, rfl, Gl.refl _, .fnan b hb⟩
  · rename_i b
    cases hx; cases h
    unfold truncB
    show ∃ v' W', (Extern.MathFloor.toIntegral "math.archTrunc" .zero #[.float .f64 b]).run P W = .ok v' W' ∧ _
    rw [trunc_eq]
    cases hd : Ieee.double.read b with
    | nan s t =>
      dsimp only
      by_cases hq : FloatKind.f64.format.quiet t = t
      · rw [if_pos hq]; exact ⟨_, W, rfl, Gl.refl _, .fnan b (by rw [hd]; rfl)⟩
      · rw [if_neg hq]
        refine ⟨.float .f64 (if (Question.extern "math.Floor,Ceil,Trunc,RoundToEven.signallingNaN kept" 2).cut (W.tape W.drawn (.extern "math.Floor,Ceil,Trunc,RoundToEven.signallingNaN kept" 2)) == 1 then b else FloatKind.f64.encode (.nan s (FloatKind.f64.format.quiet t))), { W with drawn := W.drawn + 1 }, rfl, Gl.drawn _ _, .fnan _ ?_⟩
        split
        · rw [hd]; rfl
        · exact quiet_nan s t
    | number s m p => exact ⟨_, W, rfl, Gl.refl _, .flt _⟩
    | infinity s => exact ⟨_, W, rfl, Gl.refl _, .flt _⟩
  · cases hx with
    | fnan b hb =>
      cases h
      show ∃ v' W', (Extern.MathFloor.toIntegral "math.archTrunc" .zero #[.float .f64 b]).run P W = .ok v' W' ∧ _
      rw [trunc_eq]
      cases hd : Ieee.double.read b with
      | nan s t =>
        dsimp only
        by_cases hq : FloatKind.f64.format.quiet t = t
        · rw [if_pos hq]; exact ⟨_, W, rfl, Gl.refl _, .fnan b hb⟩
        · rw [if_neg hq]
          refine ⟨.float .f64 (if (Question.extern "math.Floor,Ceil,Trunc,RoundToEven.signallingNaN kept" 2).cut (W.tape W.drawn (.extern "math.Floor,Ceil,Trunc,RoundToEven.signallingNaN kept" 2)) == 1 then b else FloatKind.f64.encode (.nan s (FloatKind.f64.format.quiet t))), { W with drawn := W.drawn + 1 }, rfl, Gl.drawn _ _, .fnan _ ?_⟩
          split
          · exact hb
          · exact quiet_nan s t
      | number s m p => rw [hd] at hb; simp [Ieee.Datum.isNaN] at hb
      | infinity s => rw [hd] at hb; simp [Ieee.Datum.isNaN] at hb
  · cases h

/-- the model's call of what has no text -/
theorem xcall_run {c : Call} {ty : TypeId} {a : Act} {f : FuncId} {e : XF} {x' : Operand} (hc : c.callee = .value (.func f)) (hf : chkX P f e = true) (ha : c.args = #[x']) {v' : Value} {W' : World}
    (h : (e.fn #[a.eval x']).run P W = .ok v' W') : (do let d ← resolve a.eval c ty; invoke d.target d.args : Sem Next).run P W = .ok (.value v') W' := by
  unfold chkX at hf
  split at hf
  · rename_i fn hfn
    simp only [Bool.and_eq_true, beq_iff_eq] at hf
    obtain ⟨⟨h1, h2⟩, h3⟩ := hf
    have hr : resolve a.eval c ty = pure { target := .fn (.func f) #[], args := #[a.eval x'] } := by
      simp [resolve, hc, ha, Deferred.ofValue]
      rfl
    have hne : (fn.name == "runtime.NumGoroutine") = false := by rw [h1]; cases e <;> decide
    rw [hr]
    simp only [pure_bind, invoke, callFunc, Sem.run_bind, run_program, Result.andThen_ok, hfn, Array.append_empty]
    rw [if_neg (by simp [hne]), if_pos (by simpa using h3)]
    simp only [Sem.run_bind, xc_next h1 h2, xc_find h1]
    simp [mark, Sem.run, h]
  · cases hf

theorem ixb_rows : (Extern.allNextRows.lookup "internal/bytealg.IndexByteString").isNone = true ∧ (Extern.allNextRows.lookup "").isNone = true ∧ (Extern.allGenericRows.lookup "internal/bytealg.IndexByteString").isNone = true ∧ (Extern.allTypedRows.lookup "internal/bytealg.IndexByteString").isNone = true := by
  refine ⟨?_, ?_, ?_, ?_⟩ <;> decide +kernel
theorem ixb_all : Extern.allRows.lookup "internal/bytealg.IndexByteString" = some Extern.BytealgIndexByte.indexByte := by kernel_rfl
theorem ixb_eq (b c : Value) : Extern.BytealgIndexByte.indexByte #[b, c] = (do
    let b ← Extern.Bytes.bytesOf b
    let c ← Extern.Bytes.asByte c
    match (List.range b.size).find? fun i => b[i]! == c with
    | some i => pure (goInt i)
    | none => pure (goInt (-1))) := rfl
theorem ixb_run {x y v : V} {x' y' : Value} (hx : VR wr W own x x') (hy : VR wr W own y y') (h : ixbV x y = some v) :
    ∃ v', (Extern.BytealgIndexByte.indexByte #[x', y']).run P W = .ok v' W ∧ VR wr W own v v' := by
  unfold ixbV at h
  split at h
  · cases hx; cases hy
    rename_i s n
    split at h
    · rename_i hn
      cases h
      refine ⟨_, ?_, .int _ _⟩
      rw [ixb_eq]
      simp only [Extern.Bytes.bytesOf, Extern.Bytes.asByte, pure_bind]
      cases (List.range s.size).find? fun i => s[i]! == UInt8.ofNat n.toNat <;> rfl
    · cases h
  · cases h
theorem ixb_call {c : Call} {ty : TypeId} {a : Act} {f : FuncId} {x' y' : Operand} (hc : c.callee = .value (.func f)) (hf : chkXB P f = true) (ha : c.args = #[x', y']) {v' : Value} {W' : World}
    (h : (Extern.BytealgIndexByte.indexByte #[a.eval x', a.eval y']).run P W = .ok v' W') : (do let d ← resolve a.eval c ty; invoke d.target d.args : Sem Next).run P W = .ok (.value v') W' := by
  unfold chkXB at hf
  split at hf
  · rename_i fn hfn
    simp only [Bool.and_eq_true, beq_iff_eq] at hf
    obtain ⟨⟨h1, h2⟩, h3⟩ := hf
    have hr : resolve a.eval c ty = pure { target := .fn (.func f) #[], args := #[a.eval x', a.eval y'] } := by
      simp [resolve, hc, ha, Deferred.ofValue]
      rfl
    have hne : (fn.name == "runtime.NumGoroutine") = false := by rw [h1]; decide
    obtain ⟨r1, r2, r3, r4⟩ := ixb_rows
    rw [Option.isNone_iff_eq_none] at r1 r2 r3 r4
    have hn : Extern.findNext fn = none := by simp [Extern.findNext, h1, h2, r1, r2]
    have hfd : Extern.find fn = some Extern.BytealgIndexByte.indexByte := by simp [Extern.find, h1, r3, r4, ixb_all]
    rw [hr]
    simp only [pure_bind, invoke, callFunc, Sem.run_bind, run_program, Result.andThen_ok, hfn, Array.append_empty]
    rw [if_neg (by simp [hne]), if_pos (by simpa using h3)]
    simp only [Sem.run_bind, hn, hfd]
    simp [mark, Sem.run, h]
  · cases hf

theorem eqLeaf_run {d : Nat} {t : TypeId} {l : Leaf} (ht : leafT P t l = true) {x y : V} {x' y' : Value} (hx : VR wr W own x x') (hy : VR wr W own y y') {r : Bool} (h : eqLeaf l x y = some r) :
    (Op.equalIn (d + 1) t x' y').run P W = .ok r W := by
  unfold eqLeaf at h
  split at h
  · cases hx; cases hy; cases h
    cases hu : P.underlying t with
    | none => simp [leafT, hu] at ht
    | some u => cases u <;> simp [leafT, hu] at ht; exact run_equalIn_bool' W d t _ _ hu
  · cases hx; cases hy
    split at h
    · rename_i hk; subst hk; cases h
      cases hu : P.underlying t with
      | none => simp [leafT, hu] at ht
      | some u => cases u <;> simp [leafT, hu] at ht; exact run_equalIn_int W d t _ _ _ _ hu
    · cases h
  · cases hx; cases hy; cases h
    cases hu : P.underlying t with
    | none => simp [leafT, hu] at ht
    | some u => cases u <;> simp [leafT, hu] at ht; exact run_equalIn_string W d t _ _ hu
  · cases h

theorem eqFields_run {d : Nat} {xs ys : List V} {xa ya : Array Value} (hxl : xs.length = xa.size) (hyl : ys.length = ya.size)
    (hx : ∀ (j : Nat) (c : V), xs[j]? = some c → VR wr W own c (xa.getD j undef)) (hy : ∀ (j : Nat) (c : V), ys[j]? = some c → VR wr W own c (ya.getD j undef)) :
    ∀ (fs : List Field) (ls : List Leaf) (o : Nat) {r : Bool}, chkLeafs P o fs ls = true → eqLeafs ls (xs.drop o) (ys.drop o) = some r → (Op.eqFields (d + 1) xa ya fs).run P W = .ok r W
  | [], [], o, r, hc, h => by
    have : r = true := by
      cases hxs : xs.drop o <;> cases hys : ys.drop o <;> rw [hxs, hys] at h <;> simp [eqLeafs] at h; exact h
    subst this; rfl
  | f :: fs, l :: ls, o, r, hc, h => by
    simp only [chkLeafs, Bool.and_eq_true, bne_iff_ne, ne_eq, beq_iff_eq] at hc
    obtain ⟨⟨⟨⟨hn, ho⟩, hs⟩, ht⟩, hr⟩ := hc
    cases hxs : xs.drop o with
    | nil => rw [hxs] at h; simp [eqLeafs] at h
    | cons a as =>
      cases hys : ys.drop o with
      | nil => rw [hxs, hys] at h; simp [eqLeafs] at h
      | cons b bs =>
        rw [hxs, hys] at h
        simp only [eqLeafs] at h
        have ea : as = xs.drop (o + 1) := by rw [← List.drop_drop, hxs]; rfl
        have eb : bs = ys.drop (o + 1) := by rw [← List.drop_drop, hys]; rfl
        have xo : xs[o]? = some a := by have := congrArg (·[0]?) hxs; simpa using this
        have yo : ys[o]? = some b := by have := congrArg (·[0]?) hys; simpa using this
        split at h
        · rename_i p q hp hq
          cases h
          obtain ⟨va, ra, wa⟩ := run_part (P := P) hs hxl hx (off := o) (v := a) xo
          obtain ⟨vb, rb, wb⟩ := run_part (P := P) hs hyl hy (off := o) (v := b) yo
          have h1 := eqLeaf_run (P := P) (d := d) ht wa wb hp
          have ih := eqFields_run hxl hyl hx hy fs ls (o + 1) (d := d) (r := q) hr (by rw [← ea, ← eb]; exact hq)
          subst ho
          simp only [Op.eqFields, hn, not_false_eq_true, ne_eq, if_true, Sem.run_bind, ra, rb, h1, Result.andThen_ok]
          cases p
          · simp
          · simpa using ih
        · cases h
  | [], _ :: _, o, r, hc, h => by simp [chkLeafs] at hc
  | _ :: _, [], o, r, hc, h => by simp [chkLeafs] at hc

theorem eqs_run {t : TypeId} {fs : Array Field} (hu : P.underlying t = some (.struct fs)) {ne : Bool} {sig : List Leaf} (hst : P.stoodInHeld t = false) (hg : P.eqGuardType P.depth t = false) (hl : chkLeafs P 0 fs.toList sig = true)
    {x y v : V} {x' y' : Value} {xo yo : Operand} (hx : VR wr W own x x') (hy : VR wr W own y y') (h : eqsV ne sig x y = some v) :
    ∃ v', (do eqGuard (if ne then .neq else .eql) t xo yo x' y'; binOp (if ne then .neq else .eql) t x' y' : Sem Value).run P W = .ok v' W ∧ VR wr W own v v' := by
  unfold eqsV at h
  split at h
  · rename_i xs ys
    simp only [Option.map_eq_some_iff] at h
    obtain ⟨r, hr, rfl⟩ := h
    cases hx with
    | ag hxl hxv =>
      cases hy with
      | ag hyl hyv =>
        rename_i xa ya
        have hf : P.fieldsOf t = fs := by unfold Program.fieldsOf; rw [hu]
        have e := run_equalIn_struct (P := P) W 9999 t xa ya (by rw [hf]; exact hu) hst
        have e2 := eqFields_run (P := P) (d := 9998) hxl hyl hxv hyv fs.toList sig 0 hl (by simpa using hr)
        rw [hf, e2] at e
        refine ⟨.bool (if ne then !r else r), ?_, .bool _⟩
        rw [Sem.run_bind, run_eqGuard_agg W _ t xo yo xa ya hg, Result.andThen_ok]
        cases ne
        · simp only [Bool.false_eq_true, if_false]; rw [run_eql_struct, e]; rfl
        · simp only [if_true]; rw [run_neq_struct, e]; rfl
  · cases h
end
end Go.Eng
