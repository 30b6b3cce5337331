/- The other operations that only look (no condition beyond those stated). -/
import Derived.Test.YtphkdodiphiijaaDoorEngD
namespace Go.Eng
open Go
set_option linter.unusedSectionVars false
set_option linter.unusedVariables false
set_option linter.unusedSimpArgs false
variable [Glob]

/-- only new blocks -/
structure Gl (W W' : World) : Prop where
  size : W.heap.size ≤ W'.heap.size
  same : ∀ b, b < W.heap.size → W'.heap[b]? = W.heap[b]?
  io : Io W W'
theorem Gl.refl (W : World) : Gl W W := ⟨Nat.le_refl _, fun _ _ => rfl, Io.refl _⟩
theorem Gl.trans {a b c : World} (h : Gl a b) (h' : Gl b c) : Gl a c :=
  ⟨Nat.le_trans h.size h'.size, fun x hx => by rw [h'.same x (Nat.lt_of_lt_of_le hx h.size), h.same x hx], h.io.trans h'.io⟩
theorem Gl.grow {wr : Nat → Prop} {W W' : World} (h : Gl W W') : Grow wr wr W W' := ⟨h.size, fun _ _ h => h, fun b hb _ => h.same b hb⟩
theorem Gl.drew (W : World) : Gl W W.drew := ⟨Nat.le_refl _, fun _ _ => rfl, rfl, rfl, rfl⟩
theorem Gl.drawn (W : World) (n : Nat) : Gl W { W with drawn := n } := ⟨Nat.le_refl _, fun _ _ => rfl, rfl, rfl, rfl⟩
theorem Gl.alloc (W : World) (o : Obj) : Gl W (W.alloc o) :=
  ⟨by simp, fun b hb => by show (W.heap.push o)[b]? = _; simp [Array.getElem?_push, Nat.ne_of_lt hb], rfl, rfl, rfl⟩
theorem alloc_get (W : World) (o : Obj) : (W.alloc o).heap[W.heap.size]? = some o := by show (W.heap.push o)[W.heap.size]? = _; simp

theorem VR.gl {wr : Nat → Prop} {W W' : World} {own : Own} {v : V} {v' : Value} (g : Gl W W') (h : VR wr W own v v') : VR wr W' own v v' :=
  h.mono g.grow (Own.le_refl _)

theorem St.gl {wr : Nat → Prop} {W W' : World} {own : Own} {H : Heap} (g : Gl W W') (s : St wr W own H) : St wr W' own H := by
  refine ⟨⟨?_, fun cb h => Nat.lt_of_lt_of_le (s.wr_lt cb h) g.size, s.glob.mono g.grow⟩, s.inj, ?_, s.fut, s.own_wr⟩
  · intro b gg cs hb
    rcases s.live b gg cs hb with ⟨cb, sh, N, ho, hN, ccs, ty, lo, hi, hheap, hsz, hfr, hc⟩ | ⟨h1, h0, ks, vs, cb, hcs, ho, es, clock, hheap, hm⟩
    · refine .inl ⟨cb, sh, N, ho, hN, ccs, ty, lo, hi, ?_, hsz, hfr, fun j c hj => ?_⟩
      · rw [g.same cb (s.wr_lt cb (s.own_wr _ _ _ _ _ ho))]; exact hheap
      · obtain ⟨cv, h1, h2⟩ := hc j c hj; exact ⟨cv, h1, h2.gl g⟩
    · refine .inr ⟨h1, h0, ks, vs, cb, hcs, ho, es, clock, ?_, hm.mono g.grow (Own.le_refl _)⟩
      rw [g.same cb (s.wr_lt cb (s.own_wr _ _ _ _ _ ho))]; exact hheap
  · intro b b' cs cs' cb h1 h2 h3 h4 h5 h6
    have back : ∀ x cx, H[x]? = some (1, cx) → LiveM wr W' own x 1 cx → LiveM wr W own x 1 cx := by
      intro x cx hx hm
      rcases s.live x 1 cx hx with ⟨cb, sh, N, ho, _⟩ | h
      · rw [hm.2.1] at ho; cases ho
      · exact h
    exact s.injm b b' cs cs' cb h1 h2 (back _ _ h1 h3) (back _ _ h2 h4) h5 h6

theorem Ext.of_gl {wr : Nat → Prop} {W W' : World} {own : Own} (g : Gl W W') : Ext wr W own wr W' own :=
  ⟨Own.le_refl _, g.size, fun _ _ h => h, fun _ h => h, fun b hb _ => g.same b hb, fun _ h => .inl h, g.io⟩

section
variable {wr : Nat → Prop} {W : World} {own : Own} {P : Program}

theorem sliceOf_eq {t e : TypeId} (h : sliceOf P t = some e) : P.underlying t = some (.slice e) := by
  unfold sliceOf at h; split at h <;> simp_all

theorem chkEl_spec {t : TypeId} {z : Nat} {ag : Bool} (h : chkEl P t z ag = true) :
    ∃ e, P.underlying t = some (.slice e) ∧ szOf P e = some z ∧ agOf P e = ag ∧ hasT P e = true ∧ 0 < z ∧ (ag = true ∨ z = 1) := by
  unfold chkEl at h
  split at h
  · rename_i e he
    simp only [Bool.and_eq_true, beq_iff_eq, decide_eq_true_eq, Bool.or_eq_true] at h
    exact ⟨e, sliceOf_eq he, h.1.1.1.1, h.1.1.1.2, h.1.1.2, h.1.2, h.2⟩
  · cases h

theorem idxa_run {t : TypeId} {z : Nat} {ag : Bool} (hc : chkEl P t z ag = true) {x i v : V} {x' i' : Value} (hx : VR wr W own x x') (hi : VR wr W own i i')
    (h : idxaV x i z ag = some v) : ∃ v', (Instr.indexAt t x' i').run P W = .ok v' W ∧ VR wr W own v v' := by
  obtain ⟨e, hu, hz, ha, _, hz0, _⟩ := chkEl_spec hc
  unfold idxaV at h
  split at h
  · rename_i xs k n
    cases hi
    cases hx with
    | fzn => split at h <;> simp at h
    | fz z0 cv hl hw hzz hcc hvv =>
      rename_i blk off sp cap
      split at h
      · rename_i hn
        simp only [Option.bind_eq_some_iff] at h
        obtain ⟨el, hel, h⟩ := h
        split at h
        · rename_i hok; cases h
          simp only [okEl, Bool.and_eq_true, beq_iff_eq] at hok
          have hlt : n.toNat < xs.length := (List.getElem?_eq_some_iff.mp hel).1
          have hb : 0 ≤ n ∧ n < (xs.length : Int) := ⟨hn, by omega⟩
          have hzz' := hzz _ _ hel
          have ezz : z0 = z := by rw [← hzz', hok.1]
          subst ezz
          obtain ⟨rfl, hnw, hbl⟩ := hw (by rintro rfl; simp at hel)
          refine ⟨.pointer (some ⟨blk, off + n.toNat * z0, none⟩), ?_, ?_⟩
          · simp [Instr.indexAt, asIntOf, run_underlying hu, hb, run_sizeOf' hz, add_none]
          · exact .fp (cv n.toNat) hnw hbl (fun j c hj => hcc _ _ j c hel hj) (fun j c hj => hvv _ _ j c hel hj)
        · cases h
      · cases h
  · rename_i b g off len z' ag' k n
    cases hi
    split at h
    · rename_i hh; cases h
      obtain ⟨h0, h1, rfl, rfl⟩ := hh
      cases hx with
      | sl ho hl haa hN =>
        rename_i cb sh N a cap
        have hb : 0 ≤ n ∧ n < (len : Int) := ⟨h0, h1⟩
        have hcap : cap ≠ 0 := by omega
        have hea := haa.resolve_left hcap
        subst hea
        refine ⟨.pointer (some ⟨cb, sh + off + n.toNat * z', none⟩), ?_, ?_⟩
        · simp [Instr.indexAt, asIntOf, run_underlying hu, hb, run_sizeOf' hz, add_none]
        · rw [show sh + off + n.toNat * z' = sh + (off + n.toNat * z') by omega]; exact .ptr ho
    · cases h
  · cases h

theorem idxs_run {t : TypeId} (hc : P.underlying t = some .string) {x i v : V} {x' i' : Value} (hx : VR wr W own x x') (hi : VR wr W own i i')
    (h : idxsV x i = some v) : ∃ v', (Instr.index t x' i').run P W = .ok v' W ∧ VR wr W own v v' := by
  unfold idxsV at h
  split at h
  · rename_i s k n
    cases hx; cases hi
    split at h
    · rename_i hn
      simp only [Option.map_eq_some_iff] at h
      obtain ⟨b, hb, rfl⟩ := h
      refine ⟨.int .u8 (b.toNat : Int), ?_, .int _ _⟩
      simp [Instr.index, asIntOf, run_underlying hc, hn, hb]
    · cases h
  · cases h

theorem run_part {t : TypeId} {n : Sh} (hs : chkSh P t n = true) {cs : List V} {arr : Array Value} (hl : cs.length = arr.size) (hv : ∀ j c, cs[j]? = some c → VR wr W own c (arr.getD j undef))
    {off : Nat} {v : V} (h : takeSh cs off n = some v) : ∃ v', (part t arr off).run P W = .ok v' W ∧ VR wr W own v v' := by
  cases n with
  | none =>
    simp only [chkSh, Bool.and_eq_true, Bool.not_eq_true', beq_iff_eq] at hs
    simp only [takeSh] at h
    have hlt : off < arr.size := by rw [← hl]; exact (List.getElem?_eq_some_iff.mp h).1
    refine ⟨arr[off], ?_, ?_⟩
    · simp [part, run_isAgg' hs.1.1, hs.1.2, hlt]
    · have := hv off v h; rwa [getD_of_some (Array.getElem?_eq_getElem hlt)] at this
  | some m =>
    simp only [chkSh, Bool.and_eq_true, beq_iff_eq] at hs
    simp only [takeSh] at h
    split at h
    · rename_i hm; cases h
      refine ⟨.agg (arr.extract off (off + m)), ?_, .ag ?_ ?_⟩
      · simp [part, run_isAgg' (hasT_of_ag hs.1), hs.1, run_sizeOf' hs.2]
      · simp; omega
      · intro j c hj
        have hj' : j < m := by have := (List.getElem?_eq_some_iff.mp hj).1; simp at this; omega
        have hj2 : cs[off + j]? = some c := by simpa [hj'] using hj
        have hlt : off + j < arr.size := by rw [← hl]; exact (List.getElem?_eq_some_iff.mp hj2).1
        have := hv _ _ hj2
        rw [getD_of_some (Array.getElem?_eq_getElem hlt)] at this
        have e : (arr.extract off (off + m))[j]? = some arr[off + j] := by
          rw [Array.getElem?_extract_of_lt (by omega)]
        rw [getD_of_some e]; exact this
    · cases h

theorem idxg_run {t e : TypeId} {l z : Nat} {n : Sh} (hu : P.underlying t = some (.array l e)) (hz : szOf P e = some z) (hs : chkSh P e n = true) {x i v : V} {x' i' : Value} (hx : VR wr W own x x') (hi : VR wr W own i i')
    (h : idxgV x i l z n = some v) : ∃ v', (Instr.index t x' i').run P W = .ok v' W ∧ VR wr W own v v' := by
  unfold idxgV at h
  split at h
  · rename_i cs k m
    cases hi
    split at h
    · rename_i hn
      cases hx with
      | ag hl hv =>
        obtain ⟨v', h1, h2⟩ := run_part hs hl hv h
        refine ⟨v', ?_, h2⟩
        simp [Instr.index, asIntOf, run_underlying hu, hn, run_sizeOf' hz, h1]
    · cases h
  · cases h

theorem fieldOf_eq {t : TypeId} {f : Nat} {fl : Field} (h : fieldOf P t f = some fl) : ∃ fs, P.underlying t = some (.struct fs) ∧ fs[f]? = some fl := by
  unfold fieldOf at h; split at h
  · rename_i fs hf; exact ⟨fs, hf, h⟩
  · cases h

theorem fld_run {t : TypeId} {f : Nat} {fl : Field} {n : Sh} (hf : fieldOf P t f = some fl) (hs : chkSh P fl.type n = true) {x v : V} {x' : Value} (hx : VR wr W own x x')
    (h : fldV x fl.offset n = some v) : ∃ v', (Instr.field t x' f).run P W = .ok v' W ∧ VR wr W own v v' := by
  obtain ⟨fs, hu, hfs⟩ := fieldOf_eq hf
  unfold fldV at h
  split at h
  · cases hx with
    | ag hl hv =>
      obtain ⟨v', h1, h2⟩ := run_part hs hl hv h
      exact ⟨v', by simp [Instr.field, run_underlying hu, hfs, asAgg, h1], h2⟩
  · cases h

theorem flda_run {t : TypeId} {f : Nat} {fl : Field} {n : Sh} (hf : fieldOf P t f = some fl) (hs : chkSh P fl.type n = true) (h0 : szOf P fl.type ≠ some 0) {x v : V} {x' : Value} (hx : VR wr W own x x')
    (h : fldaV x fl.offset n = some v) : ∃ v', (Instr.fieldAt t x' f).run P W = .ok v' W ∧ VR wr W own v v' := by
  obtain ⟨fs, hu, hfs⟩ := fieldOf_eq hf
  have hz : ∃ z, szOf P fl.type = some z ∧ z ≠ 0 := by
    cases n with
    | none => simp only [chkSh, Bool.and_eq_true, beq_iff_eq] at hs; exact ⟨1, hs.2, by omega⟩
    | some m => simp only [chkSh, Bool.and_eq_true, beq_iff_eq] at hs; exact ⟨m, hs.2, by rintro rfl; exact h0 hs.2⟩
  obtain ⟨z, hz, hz0⟩ := hz
  unfold fldaV at h
  split at h
  · cases h
    cases hx with
    | ptr ho =>
      rename_i b g o cb sh N
      refine ⟨.pointer (some ⟨cb, sh + o + fl.offset, none⟩), ?_, ?_⟩
      · simp [Instr.fieldAt, run_underlying hu, hfs, Instr.sureAddr, fieldPlace, run_sizeOf' hz, hz0, add_none]
      · rw [Nat.add_assoc]; exact .ptr ho
  · rename_i cs
    simp only [Option.bind_eq_some_iff] at h
    obtain ⟨y, hy, h⟩ := h
    split at h
    case isFalse => cases h
    rename_i hag0
    cases h
    cases hx with
    | fp cv hw hlt hc hv =>
      rename_i blk off
      refine ⟨.pointer (some ⟨blk, off + fl.offset, none⟩), ?_, ?_⟩
      · simp [Instr.fieldAt, run_underlying hu, hfs, Instr.sureAddr, fieldPlace, run_sizeOf' hz, hz0, add_none]
      · have key : ∀ j c, y.cells[j]? = some c → cs[fl.offset + j]? = some c := by
          intro j c hj
          cases n with
          | none =>
            simp only [takeSh] at hy
            have e : y.cells = [y] := by cases y <;> simp_all [V.isAg, V.cells]
            rw [e] at hj
            cases j with
            | zero => simp at hj; subst hj; simpa using hy
            | succ j => simp at hj
          | some m =>
            simp only [takeSh] at hy
            split at hy
            · cases hy
              have hj' : j < m := by have := (List.getElem?_eq_some_iff.mp hj).1; simp [V.cells] at this; omega
              simpa [V.cells, hj'] using hj
            · cases hy
        refine .fp (fun j => cv (fl.offset + j)) hw hlt (fun j c hj => ?_) (fun j c hj => hv _ _ (key j c hj))
        rw [show off + fl.offset + j = off + (fl.offset + j) by omega]
        exact hc _ _ (key j c hj)
  · cases h


theorem len_run {t ty : TypeId} {s : Bool} (hc : (match P.underlying t with | some .string => s | some (.slice _) => !s | _ => false) = true) {x v : V} {x' : Value} (hx : VR wr W own x x')
    (h : lenV s x = some v) : ∃ v', (Builtin.len_ #[t] ty #[x']).run P W = .ok v' W ∧ VR wr W own v v' := by
  unfold lenV at h
  split at h
  case h_6 => cases h
  case h_5 =>
    cases h; cases hx
    split at hc
    · rename_i hs; exact ⟨_, by simp [Builtin.len_, run_underlying hs, goInt], .int _ _⟩
    · simp at hc
    · simp at hc
  all_goals
    cases h
    split at hc
    · simp at hc
    · rename_i hs
      cases hx <;> exact ⟨_, by simp [Builtin.len_, run_underlying hs, goInt], .int _ _⟩
    · simp at hc

theorem bnd_lo {lo : Option V} {lo' : Option Value} (hr : match lo, lo' with | none, none => True | some a, some b => VR wr W own a b | _, _ => False) {d n y : Nat} (h : bndV d lo = some n) (hn : n ≤ y) (code : BoundsCode) :
    (match lo' with | some v => Instr.sliceBound v y code | none => pure d : Sem Nat).run P W = .ok n W := by
  cases lo with
  | none => cases lo' with
    | none => simp [bndV] at h; subst h; rfl
    | some b => exact hr.elim
  | some a => cases lo' with
    | none => exact hr.elim
    | some b =>
      cases hr <;> simp [bndV] at h
      obtain ⟨h0, rfl⟩ := h
      rename_i k n
      have hb : 0 ≤ n ∧ n ≤ (y : Int) := ⟨h0, by omega⟩
      simp [Instr.sliceBound, asIntOf, hb]

def OptR (wr : Nat → Prop) (W : World) (own : Own) (lo : Option V) (lo' : Option Value) : Prop :=
  match lo, lo' with | none, none => True | some a, some b => VR wr W own a b | _, _ => False

theorem bounds_run {lo hi : Option V} {lo' hi' : Option Value} (hl : OptR wr W own lo lo') (hh : OptR wr W own hi hi') {isS : Bool} {len cap l h : Nat}
    (h1 : bndV 0 lo = some l) (h2 : bndV len hi = some h) (hle : l ≤ h) (hhc : h ≤ cap) :
    (Instr.sliceBounds isS len cap lo' hi' none).run P W = .ok (l, h, cap) W := by
  have a := bnd_lo (P := P) hl h1 hle .sliceB
  have b := bnd_lo (P := P) hh h2 hhc (if isS then .sliceAcap else .sliceAlen)
  unfold Instr.sliceBounds
  cases lo' <;> cases hi' <;> simp at a b <;> simp [a, b]

theorem hdOk_uni {z z0 : Nat} {xs : List V} (h : hdOk z xs = true) (hz : ∀ (i : Nat) (x : V), xs[i]? = some x → x.cells.length = z0) (hne : xs ≠ []) : z0 = z := by
  cases xs with
  | nil => exact absurd rfl hne
  | cons x r => simp [hdOk] at h; rw [← hz 0 x (by simp), h]

theorem slc_run {t : TypeId} {z : Nat} (hc : (match P.underlying t with | some .string => z == 0 | some (.slice e) => szOf P e == some z && z != 0 | _ => false) = true)
    {x v : V} {x' : Value} {lo hi : Option V} {lo' hi' : Option Value} (hx : VR wr W own x x') (hl : OptR wr W own lo lo') (hh : OptR wr W own hi hi')
    (h : slcV x lo hi z = some v) : ∃ v', (Instr.sliceAt t x' lo' hi' none).run P W = .ok v' W ∧ VR wr W own v v' := by
  unfold slcV at h
  split at h
  · simp only [Option.bind_eq_some_iff] at h
    obtain ⟨l, h1, hh', h2, h⟩ := h
    split at h
    · rename_i hcond; cases h
      obtain ⟨rfl, hle, hhs⟩ := hcond
      cases hx
      split at hc
      · rename_i hu
        exact ⟨_, by simp [Instr.sliceAt, Instr.slice, run_underlying hu, bounds_run hl hh h1 h2 hle hhs], .str _⟩
      · simp at hc
      · cases hc
    · cases h
  · rename_i xs
    simp only [Option.bind_eq_some_iff] at h
    obtain ⟨l, h1, hh', h2, h⟩ := h
    split at h
    · rename_i hcond; cases h
      obtain ⟨hz0, hle, hhs, hhd⟩ := hcond
      split at hc
      · simp at hc; exact absurd hc hz0
      · rename_i e hu
        simp only [Bool.and_eq_true, beq_iff_eq, bne_iff_ne] at hc
        cases hx with
        | fzn =>
          simp at hhs
          obtain rfl : hh' = 0 := by omega
          obtain rfl : l = 0 := by omega
          have hb := bounds_run (P := P) (isS := true) (len := 0) (cap := 0) hl hh h1 h2 (Nat.le_refl _) (Nat.le_refl _)
          exact ⟨.slice none 0 0, by simp [Instr.sliceAt, Instr.slice, run_underlying hu, hb, run_sizeOf' hc.1], .fzn⟩
        | fz z1 cv hcap hw hzz hcc hvv =>
          rename_i blk off sp cap
          have hb := bounds_run (P := P) (isS := true) (cap := cap) hl hh h1 h2 hle (Nat.le_trans hhs hcap)
          refine ⟨.slice (some (if cap = l then ⟨blk, off, sp⟩ else (⟨blk, off, sp⟩ : Addr).add (l * z))) (hh' - l) (cap - l), ?_, ?_⟩
          · simp [Instr.sliceAt, Instr.slice, run_underlying hu, hb, run_sizeOf' hc.1]; split <;> rfl
          · have hlen : ((xs.take hh').drop l).length = hh' - l := by simp; omega
            rw [← hlen]
            have hget : ∀ (i : Nat) (y : V), ((xs.take hh').drop l)[i]? = some y → xs[l + i]? = some y := by
              intro i y hy
              have hi' : l + i < hh' := by have := (List.getElem?_eq_some_iff.mp hy).1; simp at this; omega
              simpa [hi'] using hy
            have hne : (xs.take hh').drop l ≠ [] → xs ≠ [] := by rintro h rfl; simp at h
            by_cases hemp : (xs.take hh').drop l = []
            · rw [hemp]
              have hq : ∀ (a : Addr) (c : Nat), VR wr W own (.fz []) (.slice (some a) 0 c) := by
                intro a c; obtain ⟨ab, ao, asp⟩ := a
                exact .fz z (fun _ _ => undef) (by simp) (by simp) (by simp) (by simp) (by simp)
              exact hq _ _
            · have hlt : l < cap := by
                have : 0 < ((xs.take hh').drop l).length := List.length_pos_iff.mpr hemp
                omega
              obtain ⟨hsp, hnw, hbl⟩ := hw (hne hemp)
              have ezz : z1 = z := hdOk_uni hhd hzz (hne hemp)
              subst ezz; subst hsp
              rw [if_neg (by omega), add_none]
              refine .fz z1 (fun i j => cv (l + i) j) (by omega) (fun _ => ⟨rfl, hnw, hbl⟩) (fun i y hy => hzz _ _ (hget i y hy)) ?_ (fun i y j c hy hj => hvv _ _ j c (hget i y hy) hj)
              intro i y j c hy hj
              have := hcc _ _ j c (hget i y hy) hj
              rwa [show off + l * z1 + i * z1 + j = off + (l + i) * z1 + j by rw [Nat.add_mul]; omega]
      · cases hc
    · cases h
  · rename_i b g off len z' ag
    simp only [Option.bind_eq_some_iff] at h
    obtain ⟨l, h1, hh', h2, h⟩ := h
    split at h
    · rename_i hcond; cases h
      obtain ⟨hz0, hle, hhs, rfl⟩ := hcond
      split at hc
      · simp at hc; exact absurd hc hz0
      · rename_i e hu
        simp only [Bool.and_eq_true, beq_iff_eq, bne_iff_ne] at hc
        cases hx with
        | sl ho hcap ha hN =>
          rename_i cb sh N a cap
          have hb := bounds_run (P := P) (isS := true) (cap := cap) hl hh h1 h2 hle (Nat.le_trans hhs hcap)
          refine ⟨.slice (some (if cap = l then a else a.add (l * z'))) (hh' - l) (cap - l), ?_, ?_⟩
          · simp [Instr.sliceAt, Instr.slice, run_underlying hu, hb, run_sizeOf' hc.1]; split <;> rfl
          · refine .sl ho (by omega) ?_ ?_
            · by_cases hcl : cap = l
              · left; omega
              · right
                rw [if_neg hcl]
                have := ha.resolve_left (by omega)
                subst this
                rw [add_none, Nat.add_assoc]
            · by_cases hcl : cap = l
              · left; omega
              · right
                have hN' := hN.resolve_left (by omega)
                have : (cap - l) * z' + l * z' = cap * z' := by rw [← Nat.add_mul]; congr 1; omega
                omega
      · cases hc
    · cases h
  · simp only [Option.bind_eq_some_iff] at h
    obtain ⟨l, h1, hh', h2, h⟩ := h
    split at h
    · rename_i hcond; cases h
      obtain ⟨hz0, rfl, rfl⟩ := hcond
      split at hc
      · simp at hc; exact absurd hc hz0
      · rename_i e hu
        simp only [Bool.and_eq_true, beq_iff_eq, bne_iff_ne] at hc
        cases hx
        have hb := bounds_run (P := P) (isS := true) (cap := 0) hl hh h1 h2 (Nat.le_refl _) (Nat.le_refl _)
        exact ⟨.slice none 0 0, by simp [Instr.sliceAt, Instr.slice, run_underlying hu, hb, run_sizeOf' hc.1], .nils⟩
      · cases hc
    · cases h
  · cases h

theorem ext_run {x v : V} {x' : Value} {i : Nat} (hx : VR wr W own x x') (h : extV x i = some v) : ∃ v', (Instr.extract x' i).run P W = .ok v' W ∧ VR wr W own v v' := by
  unfold extV at h
  split at h
  · cases hx with
    | tup hl hv =>
      rename_i vs arr
      have hlt : i < arr.size := by rw [← hl]; exact (List.getElem?_eq_some_iff.mp h).1
      have := hv i v h
      rw [getD_of_some (Array.getElem?_eq_getElem hlt)] at this
      exact ⟨arr[i], by simp [Instr.extract, hlt], this⟩
  · cases h
end
end Go.Eng
