/- What the small machine tells of an operation that only looks is what the model's operation tells (no condition beyond those stated). -/
import Derived.Test.YtphkdodiphiijaaDoorEngC
import Derived.WalkKit
namespace Go.Eng
open Go
set_option linter.unusedSectionVars false
set_option linter.unusedVariables false
set_option linter.unusedSimpArgs false
variable [Glob]

section
variable {wr : Nat → Prop} {W : World} {own : Own} {P : Program}

theorem isAg_sim {x : V} {x' : Value} (h : VR wr W own x x') (hx : x.isCell = true) : (∀ a, x' ≠ .agg a) ∧ (∀ a, x' ≠ .tuple a) := by
  cases h <;> simp_all [V.isCell]

theorem cells_sim {x : V} {x' : Value} (h : VR wr W own x x') (hx : x.isCell = true ∨ x.isAg = true) :
    x'.cells.size = x.cells.length ∧ ∀ (j : Nat) (c : V), x.cells[j]? = some c → VR wr W own c (x'.cells.getD j undef) := by
  cases h with
  | un => simp [V.isCell, V.isAg] at hx
  | sk => simp [V.isCell, V.isAg] at hx
  | tup => simp [V.isCell, V.isAg] at hx
  | ag hl hv => exact ⟨hl.symm, fun j c hj => hv j c hj⟩
  | bool b => exact ⟨rfl, fun j c hj => by cases j <;> simp [V.cells] at hj; subst hj; exact .bool b⟩
  | int k n => exact ⟨rfl, fun j c hj => by cases j <;> simp [V.cells] at hj; subst hj; exact .int k n⟩
  | str s => exact ⟨rfl, fun j c hj => by cases j <;> simp [V.cells] at hj; subst hj; exact .str s⟩
  | nilp => exact ⟨rfl, fun j c hj => by cases j <;> simp [V.cells] at hj; subst hj; exact .nilp⟩
  | ptr h => exact ⟨rfl, fun j c hj => by cases j <;> simp [V.cells] at hj; subst hj; exact .ptr h⟩
  | fp cv hw hlt hc hv => exact ⟨rfl, fun j c hj => by cases j <;> simp [V.cells] at hj; subst hj; exact .fp cv hw hlt hc hv⟩
  | bx cv hw hlt hc hv => exact ⟨rfl, fun j c hj => by cases j <;> simp [V.cells] at hj; subst hj; exact .bx cv hw hlt hc hv⟩
  | nils => exact ⟨rfl, fun j c hj => by cases j <;> simp [V.cells] at hj; subst hj; exact .nils⟩
  | sl h hl ha hN => exact ⟨rfl, fun j c hj => by cases j <;> simp [V.cells] at hj; subst hj; exact .sl h hl ha hN⟩
  | fz z cv hl hw hz hc hv => exact ⟨rfl, fun j c hj => by cases j <;> simp [V.cells] at hj; subst hj; exact .fz z cv hl hw hz hc hv⟩
  | fzn => exact ⟨rfl, fun j c hj => by cases j <;> simp [V.cells] at hj; subst hj; exact .fzn⟩
  | fn hl hv => exact ⟨rfl, fun j c hj => by cases j <;> simp [V.cells] at hj; subst hj; exact .fn hl hv⟩
  | bm hl hv => exact ⟨rfl, fun j c hj => by cases j <;> simp [V.cells] at hj; subst hj; exact .bm hl hv⟩
  | nilf => exact ⟨rfl, fun j c hj => by cases j <;> simp [V.cells] at hj; subst hj; exact .nilf⟩
  | ifc h => exact ⟨rfl, fun j c hj => by cases j <;> simp [V.cells] at hj; subst hj; exact .ifc h⟩
  | nili => exact ⟨rfl, fun j c hj => by cases j <;> simp [V.cells] at hj; subst hj; exact .nili⟩
  | flt b => exact ⟨rfl, fun j c hj => by cases j <;> simp [V.cells] at hj; subst hj; exact .flt b⟩
  | mpn => exact ⟨rfl, fun j c hj => by cases j <;> simp [V.cells] at hj; subst hj; exact .mpn⟩
  | mp h => exact ⟨rfl, fun j c hj => by cases j <;> simp [V.cells] at hj; subst hj; exact .mp h⟩
  | fze a c => exact ⟨rfl, fun j c hj => by cases j <;> simp [V.cells] at hj; subst hj; exact .fze _ _⟩
  | fnan b h => exact ⟨rfl, fun j c hj => by cases j <;> simp [V.cells] at hj; subst hj; exact .fnan b h⟩
  | nanw b h => exact ⟨rfl, fun j c hj => by cases j <;> simp [V.cells] at hj; subst hj; exact .nanw b h⟩

theorem run_sizeOf' {t : TypeId} {z : Nat} (h : szOf P t = some z) (w : World) : (sizeOf t).run P w = .ok z w := by
  unfold szOf at h
  cases hi : P.info? t with
  | none => simp [hi] at h
  | some i => simp [hi] at h; simp [sizeOf, typeInfo, hi, h]
theorem run_isAgg' {t : TypeId} (h : hasT P t = true) (w : World) : (isAgg t).run P w = .ok (agOf P t) w := by
  unfold hasT at h
  cases hd : P.underlying t with
  | none => simp [hd] at h
  | some d => cases d <;> simp [isAgg, run_underlying hd, agOf, hd]
theorem hasT_of_ag {t : TypeId} (h : agOf P t = true) : hasT P t = true := by
  unfold agOf at h; unfold hasT; split at h <;> simp_all
theorem run_zeroValue' {t : TypeId} {v : Value} (h : zeroOf P t = some v) (w : World) : (zeroValue t).run P w = .ok v w := by
  unfold zeroOf at h
  cases hi : P.info? t with
  | none => simp [hi] at h
  | some i => simp [hi] at h; simp [zeroValue, typeInfo, hi, h]

theorem add_none (b o n : Nat) : (⟨b, o, none⟩ : Addr).add n = ⟨b, o + n, none⟩ := by
  unfold Addr.add; split <;> simp_all

/-- a row of cells is read -/
theorem load_row (b o n : Nat) (f : Nat → Value) (h : ∀ j, j < n → W.cell? ⟨b, o + j, none⟩ = some (f j)) :
    (loadCells ⟨b, o, none⟩ n).run P W = .ok ((List.range n).map f).toArray W :=
  run_loadCells W _ n f (fun j hj => by rw [add_none]; exact h j hj)

theorem getD_range_map (n : Nat) (f : Nat → Value) {j : Nat} (h : j < n) : (((List.range n).map f).toArray).getD j undef = f j := by
  simp [Array.getD_eq_getD_getElem?, h]

/-- what lies at an address, by its shape -/
theorem run_loadVar_sh {t : TypeId} {n : Sh} (hs : chkSh P t n = true) (b o : Nat) (x : V)
    (hx : fitsSh x n = true ∨ (∃ cs off, takeSh cs off n = some x)) (cv : Nat → Value)
    (hc : ∀ j c, x.cells[j]? = some c → W.cell? ⟨b, o + j, none⟩ = some (cv j))
    (hv : ∀ j c, x.cells[j]? = some c → VR wr W own c (cv j))
    (hx1 : n = none → x.cells = [x]) (hx2 : ∀ m, n = some m → ∃ cs, x = .ag cs ∧ cs.length = m) :
    ∃ v', (loadVar t ⟨b, o, none⟩).run P W = .ok v' W ∧ VR wr W own x v' := by
  cases n with
  | none =>
    simp only [chkSh, Bool.and_eq_true, Bool.not_eq_true', beq_iff_eq] at hs
    have e := hx1 rfl
    have h0 := hc 0 x (by simp [e])
    refine ⟨cv 0, ?_, hv 0 x (by simp [e])⟩
    simp only [Nat.add_zero] at h0
    simp [loadVar, run_isAgg' hs.1.1, hs.1.2, h0]
  | some m =>
    simp only [chkSh, Bool.and_eq_true, beq_iff_eq] at hs
    obtain ⟨cs, rfl, hm⟩ := hx2 m rfl
    have hl := load_row (P := P) b o m cv (fun j hj => by
      have hj' : j < cs.length := by omega
      exact hc j cs[j] (by simp [V.cells, hj']))
    refine ⟨.agg ((List.range m).map cv).toArray, ?_, .ag (by simp [hm]) ?_⟩
    · simp [loadVar, run_isAgg' (hasT_of_ag hs.1), hs.1, run_sizeOf' hs.2, hl]
    · intro j c hj
      have hj' : j < m := by rw [← hm]; exact (List.getElem?_eq_some_iff.mp hj).1
      rw [getD_range_map m cv hj']; exact hv j c (by simpa [V.cells] using hj)

theorem fits_cells {x : V} {n : Sh} (h : fitsSh x n = true) : (n = none → x.cells = [x]) ∧ (∀ m, n = some m → ∃ cs, x = .ag cs ∧ cs.length = m) := by
  cases n with
  | none => refine ⟨fun _ => ?_, (fun m h => by cases h)⟩; cases x <;> simp_all [fitsSh, V.isCell, V.cells]
  | some m =>
    refine ⟨(fun h => by cases h), fun m' h' => ?_⟩
    cases h'
    cases x <;> simp_all [fitsSh]

/-- a live block, read -/
theorem Rd.get {H : Heap} (s : Rd wr W own H) {b g cb sh N : Nat} {cs : List V} (h : rdB H b g = some cs) (ho : own b g = some (cb, sh, N)) :
    ∃ cv : Nat → Value, ∀ j c, cs[j]? = some c → W.cell? ⟨cb, sh + j, none⟩ = some (cv j) ∧ VR wr W own c (cv j) := by
  have hb : H[b]? = some (g, cs) := by
    unfold rdB at h; split at h
    · rename_i g' cs' hh; split at h
      · cases h; subst_vars; exact hh
      · cases h
    · cases h
  obtain ⟨cb', sh', N', ho', _, ccs, ty, lo, hi, hheap, _, _, hcells⟩ := (s.live b g cs hb).resolve_right (by rintro ⟨rfl, h, _⟩; rw [h] at ho; cases ho)
  rw [ho] at ho'; cases ho'
  refine ⟨fun j => ccs.getD (sh + j) undef, fun j c hj => ?_⟩
  obtain ⟨cv, h1, h2⟩ := hcells j c hj
  have e : ccs.getD (sh + j) undef = cv := getD_of_some h1
  dsimp only; rw [e]
  exact ⟨by simp [World.cell?, hheap, h1], h2⟩

theorem rdB_some {H : Heap} {b g : Nat} {cs : List V} (h : rdB H b g = some cs) : H[b]? = some (g, cs) := by
  unfold rdB at h; split at h
  · rename_i g' cs' hh; split at h
    · cases h; subst_vars; exact hh
    · cases h
  · cases h

theorem ld_run {H : Heap} (s : Rd wr W own H) {t : TypeId} {n : Sh} (hs : chkSh P t n = true) {p v : V} {p' : Value} (hp : VR wr W own p p')
    (h : ldV H p n = some v) : ∃ v', (Instr.loadAt t p').run P W = .ok v' W ∧ VR wr W own v v' := by
  cases p with
  | fp x =>
    cases hp with
    | fp cv hw hlt hc hv =>
      simp only [ldV] at h
      split at h
      · rename_i hf; cases h
        obtain ⟨v', h1, h2⟩ := run_loadVar_sh hs _ _ v (.inl hf) cv hc (fun j c hj => (hv j c hj).mono ⟨Nat.le_refl _, fun _ _ h => h, fun _ _ _ => rfl⟩ (fun b g x h => by simp [own0] at h)) (fits_cells hf).1 (fits_cells hf).2
        exact ⟨v', by simpa [Instr.loadAt, Instr.sureAddr] using h1, h2⟩
      · cases h
  | bx x =>
    cases hp with
    | bx cv hw hlt hc hv =>
      simp only [ldV] at h
      split at h
      · rename_i hf; cases h
        obtain ⟨v', h1, h2⟩ := run_loadVar_sh hs _ _ v (.inl hf) cv hc hv (fits_cells hf).1 (fits_cells hf).2
        exact ⟨v', by simpa [Instr.loadAt, Instr.sureAddr] using h1, h2⟩
      · cases h
  | ptr b g off =>
    cases hp with
    | ptr ho =>
      rename_i cb sh N
      simp only [ldV, Option.bind_eq_some_iff] at h
      obtain ⟨cs, hcs, htk⟩ := h
      obtain ⟨cv, hcv⟩ := s.get hcs ho
      cases n with
      | none =>
        simp only [chkSh, Bool.and_eq_true, Bool.not_eq_true', beq_iff_eq] at hs
        have h0 := hcv off v htk
        refine ⟨cv off, ?_, h0.2⟩
        simp [Instr.loadAt, Instr.sureAddr, loadVar, run_isAgg' hs.1.1, hs.1.2, h0.1]
      | some m =>
        simp only [takeSh] at htk
        split at htk
        · rename_i hm; cases htk
          have hg : ∀ j, j < m → ((cs.drop off).take m)[j]? = cs[off + j]? := fun j hj => by simp [hj]
          obtain ⟨v', h1, h2⟩ := run_loadVar_sh (own := own) (P := P) hs cb (sh + off) (.ag ((cs.drop off).take m)) (.inr ⟨cs, off, by simp [takeSh, hm]⟩) (fun j => cv (off + j))
            (fun j c hj => by
              have hj' : j < m := by have := (List.getElem?_eq_some_iff.mp hj).1; simp [V.cells] at this; omega
              have := (hcv (off + j) c (by rw [← hg j hj']; exact hj)).1
              rwa [show sh + (off + j) = sh + off + j by omega] at this)
            (fun j c hj => by
              have hj' : j < m := by have := (List.getElem?_eq_some_iff.mp hj).1; simp [V.cells] at this; omega
              exact (hcv (off + j) c (by rw [← hg j hj']; exact hj)).2)
            (fun h => by cases h) (fun m' h => by cases h; exact ⟨_, rfl, by simp; omega⟩)
          exact ⟨v', by simpa [Instr.loadAt, Instr.sureAddr] using h1, h2⟩
        · cases htk
  | _ => simp [ldV] at h

theorem intB_run {op : BinOp} {k : IntKind} {a b : Int} {v : V} {t : TypeId} (h : intB op k a b = some v) :
    ∃ v', (binOp op t (.int k a) (.int k b)).run P W = .ok v' W ∧ VR wr W own v v' := by
  cases op <;> simp only [intB] at h
  case add => cases h; exact ⟨_, by rw [binOp_add]; rfl, .int _ _⟩
  case sub => cases h; exact ⟨_, by rw [binOp_sub]; rfl, .int _ _⟩
  case mul => cases h; exact ⟨_, by rw [binOp_mul]; rfl, .int _ _⟩
  case quo =>
    split at h
    · cases h
    · rename_i hb; cases h
      exact ⟨_, by rw [binOp_quo]; unfold Op.intDiv; rw [if_neg hb]; rfl, .int _ _⟩
  case rem =>
    split at h
    · cases h
    · rename_i hb; cases h
      exact ⟨_, by rw [binOp_rem]; unfold Op.intDiv; rw [if_neg hb]; rfl, .int _ _⟩
  case and => cases h; exact ⟨_, by rw [binOp_and]; rfl, .int _ _⟩
  case or => cases h; exact ⟨_, by rw [binOp_or]; rfl, .int _ _⟩
  case xor => cases h; exact ⟨_, by rw [binOp_xor]; rfl, .int _ _⟩
  case andNot => cases h; exact ⟨_, by rw [binOp_andNot]; rfl, .int _ _⟩
  case eql => cases h; exact ⟨_, by rw [binOp_eql]; rfl, .bool _⟩
  case neq => cases h; exact ⟨_, by rw [binOp_neq]; rfl, .bool _⟩
  case lss => cases h; exact ⟨_, by rw [binOp_lss]; rfl, .bool _⟩
  case leq => cases h; exact ⟨_, by rw [binOp_leq]; rfl, .bool _⟩
  case gtr => cases h; exact ⟨_, by rw [binOp_gtr]; rfl, .bool _⟩
  case geq => cases h; exact ⟨_, by rw [binOp_geq]; rfl, .bool _⟩
  case shl => cases h
  case shr => cases h

theorem strB_run {op : BinOp} {a b : ByteArray} {v : V} {t : TypeId} (h : strB op a b = some v) :
    ∃ v', (binOp op t (.string a) (.string b)).run P W = .ok v' W ∧ VR wr W own v v' := by
  cases op <;> simp only [strB] at h
  case add =>
    split at h
    · rename_i hb; cases h
      refine ⟨.string (a ++ b), ?_, .str _⟩
      have e : ¬ (((a.size + b.size : Nat) : Int) > IntKind.i64.max) := by rw [IntKind.max_i64]; omega
      show (Op.stringOp .add a b).run P W = _
      unfold Op.stringOp
      simp only []
      rw [if_neg e]; rfl
    · cases h
  case eql => cases h; exact ⟨_, rfl, .bool _⟩
  case neq => cases h; exact ⟨_, rfl, .bool _⟩
  case lss => cases h; exact ⟨_, rfl, .bool _⟩
  case leq => cases h; exact ⟨_, rfl, .bool _⟩
  case gtr => cases h; exact ⟨_, rfl, .bool _⟩
  case geq => cases h; exact ⟨_, rfl, .bool _⟩
  all_goals cases h

theorem equal_run {t : TypeId} {x y : Value} {r : Result Bool} (h : ∀ d, (Op.equalIn (d + 1) t x y).run P W = r) : (Op.equal t x y).run P W = r := h 9999

theorem nil_eq {cl : Cls} {x y : V} {x' y' : Value} {a b : Bool} {t : TypeId} {op : BinOp} {yo : Operand} (hc : chkCls P op t yo cl = true) (hx : VR wr W own x x') (hy : VR wr W own y y')
    (ha : x.isNil cl = some a) (hb : y.isNil cl = some b) (hab : (a || b) = true) (hsx : x.sure = true) (hsy : y.sure = true) : (Op.equal t x' y').run P W = .ok (a == b) W := by
  refine equal_run fun dd => ?_
  cases hu : P.underlying t with
  | none => cases cl <;> simp [chkCls, hu] at hc <;> cases hx <;> simp [V.isNil] at ha
  | some d =>
    cases cl <;> simp [chkCls, hu] at hc
    case num => cases hx <;> simp [V.isNil] at ha
    case bool => cases hx <;> simp [V.isNil] at ha
    all_goals
      (try replace hc := hc.1)
      cases d <;> simp at hc
      cases hx <;> (try (simp [V.sure] at hsx; done)) <;> simp [V.isNil] at ha <;> cases hy <;> (try (simp [V.sure] at hsy; done)) <;> simp [V.isNil] at hb <;> subst ha <;> subst hb <;> simp at hab <;>
        simp only [Op.equalIn, Sem.run_bind, run_underlying hu, Result.andThen_ok] <;> rfl

theorem nil_guard {cl : Cls} {x y : V} {x' y' : Value} {a b : Bool} {t : TypeId} {op : BinOp} {xo yo : Operand} (hc : chkCls P op t yo cl = true) (hx : VR wr W own x x') (hy : VR wr W own y y')
    (ha : x.isNil cl = some a) (hb : y.isNil cl = some b) : eqGuard op t xo yo x' y' = pure () := by
  cases cl <;> cases hx <;> simp [V.isNil] at ha <;> cases hy <;> simp [V.isNil] at hb <;>
    first
      | simp only [go_sem]
      | (simp only [chkCls, Bool.and_eq_true] at hc
         cases yo <;> simp at hc
         simp only [go_sem])
      | (cases op <;> rfl)

theorem binOp_nil {cl : Cls} {x y : V} {x' y' : Value} {a b : Bool} {t : TypeId} (hx : VR wr W own x x') (hy : VR wr W own y y')
    (ha : x.isNil cl = some a) (hb : y.isNil cl = some b) :
    binOp .eql t x' y' = (Op.equal t x' y' >>= fun r => pure (.bool r)) ∧ binOp .neq t x' y' = (Op.equal t x' y' >>= fun r => pure (.bool (!r))) := by
  cases cl <;> cases hx <;> simp [V.isNil] at ha <;> cases hy <;> simp [V.isNil] at hb <;> exact ⟨rfl, rfl⟩

theorem bin_run {cl : Cls} {op : BinOp} {x y v : V} {x' y' : Value} {t : TypeId} {xo yo : Operand} (hc : chkCls P op t yo cl = true) (hx : VR wr W own x x') (hy : VR wr W own y y')
    (h : binV cl op x y = some v) : ∃ v', (do eqGuard op t xo yo x' y'; binOp op t x' y' : Sem Value).run P W = .ok v' W ∧ VR wr W own v v' := by
  unfold binV at h
  split at h
  · cases hx; cases hy
    split at h
    · split at h
      · cases h
      · rename_i hb; cases h
        exact ⟨_, by simp [go_sem, Op.shift, hb], .int _ _⟩
    · split at h
      · cases h
      · rename_i hb; cases h
        exact ⟨_, by simp [go_sem, Op.shift, hb], .int _ _⟩
    · split at h
      · rename_i hk; subst hk
        obtain ⟨v', h1, h2⟩ := intB_run (P := P) (t := t) (W := W) (wr := wr) (own := own) h
        exact ⟨v', by simpa [go_sem] using h1, h2⟩
      · cases h
  · cases hx; cases hy
    obtain ⟨v', h1, h2⟩ := strB_run (P := P) (t := t) (W := W) (wr := wr) (own := own) h
    exact ⟨v', by simpa [go_sem] using h1, h2⟩
  · rename_i a b
    cases hx; cases hy
    simp only [chkCls] at hc
    cases hu : P.underlying t with
    | none => simp [hu] at hc
    | some d =>
      cases d <;> simp [hu] at hc
      split at h <;> cases h
      · have e : (Op.equal t (.bool a) (.bool b)).run P W = .ok (a == b) W := equal_run fun d => by simp only [Op.equalIn, Sem.run_bind, run_underlying hu, Result.andThen_ok]; rfl
        refine ⟨.bool (a == b), ?_, .bool _⟩
        rw [eqGuard_at_bool]
        show ((Op.equal t (.bool a) (.bool b) >>= fun r => pure (.bool r)) : Sem Value).run P W = _
        rw [Sem.run_bind, e]; rfl
      · have e : (Op.equal t (.bool a) (.bool b)).run P W = .ok (a == b) W := equal_run fun d => by simp only [Op.equalIn, Sem.run_bind, run_underlying hu, Result.andThen_ok]; rfl
        refine ⟨.bool (!(a == b)), ?_, .bool _⟩
        rw [eqGuard_at_bool]
        show ((Op.equal t (.bool a) (.bool b) >>= fun r => pure (.bool (!r))) : Sem Value).run P W = _
        rw [Sem.run_bind, e]; rfl
  · cases h
  · cases h
  · unfold nilB at h
    split at h
    · rename_i a b ha hb
      split at h
      · rename_i hab; cases h
        simp only [Bool.and_eq_true] at hab
        obtain ⟨hab, hsx, hsy⟩ := hab
        refine ⟨_, ?_, .bool _⟩
        rw [nil_guard hc hx hy ha hb, (binOp_nil hx hy ha hb).1]
        simp [nil_eq hc hx hy ha hb hab hsx hsy]
      · cases h
    · rename_i a b ha hb
      split at h
      · rename_i hab; cases h
        simp only [Bool.and_eq_true] at hab
        obtain ⟨hab, hsx, hsy⟩ := hab
        refine ⟨_, ?_, .bool _⟩
        rw [nil_guard hc hx hy ha hb, (binOp_nil hx hy ha hb).2]
        simp [nil_eq hc hx hy ha hb hab hsx hsy, bne]
      · cases h
    · cases h

theorem un_run {op : UnOp} {x v : V} {x' : Value} (hx : VR wr W own x x') (h : unV op x = some v) : ∃ v', (Op.unary op x').run P W = .ok v' W ∧ VR wr W own v v' := by
  unfold unV at h
  split at h
  · cases hx; cases h; exact ⟨_, rfl, .int _ _⟩
  · cases hx
    simp only [intB] at h; cases h
    exact ⟨_, rfl, .int _ _⟩
  · cases hx; cases h; exact ⟨_, rfl, .bool _⟩
  · cases h
end
end Go.Eng
