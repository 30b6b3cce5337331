/- Maps with whole numbers for keys, told as the model's (no condition beyond those stated). -/
import Derived.Test.YtphkdodiphiijaaDoorEngI
import Derived.MapKept
namespace Go.Eng
open Go
set_option linter.unusedSectionVars false
set_option linter.unusedVariables false
set_option linter.unusedSimpArgs false
variable [Glob]
section
variable {wr : Nat → Prop} {W : World} {own : Own} {P : Program}

theorem getObj_mp {r : Nat} {es : Array MapEntry} {clock : Nat} (h : W.heap[r]? = some (.map es clock)) : (getObj r).run P W = .ok (.map es clock) W := by simp [getObj, Sem.run, h]
theorem setObj_mp {r : Nat} {es : Array MapEntry} {clock : Nat} (o : Obj) (h : W.heap[r]? = some (.map es clock)) : (setObj r o).run P W = .ok () { W with heap := W.heap.setIfInBounds r o } := by simp [setObj, Sem.run, h]
theorem mpB_spec {H : Heap} {m : V} {b : Nat} {ks vs : List V} (h : mpB H m = some (b, ks, vs)) : m = .mp b ∧ ∃ g, H[b]? = some (g, [.mpb ks vs]) := by
  unfold mpB at h
  split at h
  · split at h
    · rename_i hb; cases h; exact ⟨rfl, _, hb⟩
    · cases h
  · cases h
theorem mp_live {H : Heap} (s : Rd wr W own H) {m : V} {m' : Value} {b : Nat} {ks vs : List V} (h : mpB H m = some (b, ks, vs)) (hm : VR wr W own m m') :
    H[b]? = some (1, [.mpb ks vs]) ∧ LiveM wr W own b 1 [.mpb ks vs] ∧ ∃ cb es clock, m' = .map (some cb) ∧ own b 0 = some (cb, 0, 0) ∧ W.heap[cb]? = some (.map es clock) ∧ MapR wr W own ks vs es.toList := by
  obtain ⟨rfl, g, hb⟩ := mpB_spec h
  rcases s.live b g _ hb with ⟨cb, sh, N, ho, hN, ccs, ty, lo, hi, hheap, hsz, hfr, hc⟩ | hM
  · obtain ⟨cv, _, hv⟩ := hc 0 (.mpb ks vs) rfl
    cases hv
  · have hM' := hM
    obtain ⟨rfl, h0, ks', vs', cb, hcs, ho, es, clock, hheap, hr⟩ := hM
    cases hcs
    refine ⟨hb, hM', cb, es, clock, ?_, ho, hheap, hr⟩
    cases hm with
    | mp h => rw [ho] at h; cases h; rfl
theorem isMapI_eq {t : TypeId} (h : isMapI P t = true) : ∃ kt et q, P.underlying t = some (.map kt et) ∧ P.underlying kt = some (.int q) := by
  unfold isMapI at h
  split at h
  · rename_i kt et hu
    cases hk : P.underlying kt with
    | none => simp [hk] at h
    | some d => cases d <;> simp [hk] at h; exact ⟨kt, et, _, hu, hk⟩
  · cases h
theorem checkKey_int {kt : TypeId} {q : IntKind} (hk : P.underlying kt = some (.int q)) (e : Bool) (k : IntKind) (n : Int) : (Instr.checkKey e 10000 kt (.int k n)).run P W = .ok () W := by
  show (Instr.checkKey e (9999 + 1) kt (.int k n)).run P W = _
  unfold Instr.checkKey
  simp [run_underlying hk]
/-- the search for a key -/
theorem mfind_sim {q : IntKind} {k : IntKind} {n : Int} : ∀ (ks : List V) (es : List MapEntry), es.length = ks.length → (∀ (j : Nat) (x : V) (e : MapEntry), ks[j]? = some x → es[j]? = some e → VR wr W own x e.key) → ∀ (i : Nat) (r : Option Nat), mfind k n ks = some r →
    Instr.findNow (.int q) (.int k n) es i = some (match r with | none => none | some j => (es[j]?).map fun e => (i + j, e.val)) ∧ (∀ j, r = some j → ∃ e, es[j]? = some e ∧ e.key = .int k n)
  | [], [], _, _, i, r, h => by
    simp only [mfind, Option.some.injEq] at h; subst h
    exact ⟨rfl, fun j h => by cases h⟩
  | [], e :: es, hl, _, _, _, _ => by simp at hl
  | x :: ks, [], hl, _, _, _, _ => by simp at hl
  | x :: ks, e :: es, hl, hv, i, r, h => by
    have h0 := hv 0 x e rfl rfl
    cases x <;> (try (simp only [mfind] at h; cases h; done))
    rename_i k' m
    simp only [mfind] at h
    have he : e.key = .int k' m := by generalize e.key = y at h0; cases h0; rfl
    split at h
    · rename_i hk
      subst hk
      split at h
      · rename_i hnm
        cases h
        rw [beq_iff_eq] at hnm
        subst hnm
        refine ⟨?_, fun j hj => by cases hj; exact ⟨e, rfl, he⟩⟩
        simp [Instr.findNow, he, Instr.sameNow]
      · rename_i hnm
        simp only [Option.map_eq_some_iff] at h
        obtain ⟨o, ho, rfl⟩ := h
        obtain ⟨g1, g2⟩ := mfind_sim (q := q) ks es (by simpa using hl) (fun j x e' a b => hv (j + 1) x e' (by simpa using a) (by simpa using b)) (i + 1) o ho
        refine ⟨?_, fun j hj => ?_⟩
        · have hnm' : (n == m) = false := by simpa using hnm
          simp only [Instr.findNow, he, Instr.sameNow, if_true, hnm', g1]
          cases o with
          | none => rfl
          | some j => simp only [Option.map_some, List.getElem?_cons_succ]; congr 1; congr 1; funext z; rw [show i + 1 + j = i + (j + 1) by omega]
        · cases o with
          | none => cases hj
          | some j0 =>
            cases hj
            obtain ⟨e', a, b⟩ := g2 j0 rfl
            exact ⟨e', by simpa using a, b⟩
    · cases h
theorem findKey_int {kt : TypeId} {q : IntKind} (hk : P.underlying kt = some (.int q)) {key : Value} {es : List MapEntry} {r : Option (Nat × Value)} (h : Instr.findNow (.int q) key es 0 = some r) : (Instr.findKey kt key es).run P W = .ok r W := by
  unfold Instr.findKey
  simp only [Sem.run_bind, run_underlying hk, Result.andThen_ok, h]; rfl

theorem mget_run {H : Heap} (s : Rd wr W own H) {t kt et : TypeId} {q : IntKind} {z : Value} (hu : P.underlying t = some (.map kt et)) (hk : P.underlying kt = some (.int q)) (hz : zeroOf P et = some z) {zero : V} (hzv : isV z zero = true) {ok : Bool} {m k v : V} {m' k' : Value} (hm : VR wr W own m m') (hkv : VR wr W own k k')
    (h : mgetV H m k zero ok = some v) : ∃ v', (Instr.lookup t m' k' ok).run P W = .ok v' W ∧ VR wr W own v v' := by
  unfold mgetV at h
  split at h
  case h_2 => cases h
  rename_i kk n
  simp only [Option.bind_eq_some_iff] at h
  obtain ⟨⟨b, ks, vs⟩, hb, r, hr, h⟩ := h
  cases hkv
  obtain ⟨_, _, cb, es, clock, rfl, ho, hheap, hM⟩ := mp_live s hb hm
  obtain ⟨f1, f2⟩ := mfind_sim (q := q) ks es.toList hM.len hM.key 0 r hr
  have hg := getObj_mp (P := P) hheap
  have pre : ∀ (w : Value) (o : Bool) (x : Option (Nat × Value)), Instr.findNow (.int q) (.int kk n) es.toList 0 = some x → (x = none → w = z ∧ o = false) → (∀ p, x = some p → w = p.2 ∧ o = true) →
      (Instr.lookup t (.map (some cb)) (.int kk n) ok).run P W = .ok (if ok then .tuple #[w, .bool o] else w) W := by
    intro w o x hx hn hs
    have hf := findKey_int (W := W) hk hx
    unfold Instr.lookup
    simp only [Sem.run_bind, run_underlying hu, Result.andThen_ok, hg, Sem.run_pure, checkKey_int hk, hf]
    cases x with
    | none => obtain ⟨rfl, rfl⟩ := hn rfl; simp [run_zeroValue' hz]
    | some p => obtain ⟨rfl, rfl⟩ := hs p rfl; rfl
  cases r with
  | none =>
    simp only [Option.some.injEq] at h
    subst h
    refine ⟨_, pre z false none (by simpa using f1) (fun _ => ⟨rfl, rfl⟩) (fun p h => by cases h), ?_⟩
    cases ok
    · exact isV_sound hzv
    · refine .tup rfl (fun j c hj => ?_)
      match j, hj with
      | 0, hj => cases hj; exact isV_sound hzv
      | 1, hj => cases hj; exact .bool false
      | j + 2, hj => simp at hj
  | some j =>
    obtain ⟨e, he, hke⟩ := f2 j rfl
    simp only [Option.map_eq_some_iff] at h
    obtain ⟨x, hx, rfl⟩ := h
    have hv := hM.val j x e hx he
    refine ⟨_, pre e.val true (some (j, e.val)) (by rw [f1]; simp [he]) (fun h => by cases h) (fun p h => by cases h; exact ⟨rfl, rfl⟩), ?_⟩
    cases ok
    · exact hv
    · refine .tup rfl (fun j c hj => ?_)
      match j, hj with
      | 0, hj => cases hj; exact hv
      | 1, hj => cases hj; exact .bool true
      | j + 2, hj => simp at hj

theorem mlen_run {H : Heap} (s : Rd wr W own H) {t ty : TypeId} (hu : isMapI P t = true) {m v : V} {m' : Value} (hm : VR wr W own m m') (h : mlenV H m = some v) : ∃ v', (Builtin.len_ #[t] ty #[m']).run P W = .ok v' W ∧ VR wr W own v v' := by
  obtain ⟨kt, et, q, hu, hk⟩ := isMapI_eq hu
  simp only [mlenV, Option.map_eq_some_iff] at h
  obtain ⟨⟨b, ks, vs⟩, hb, rfl⟩ := h
  obtain ⟨_, _, cb, es, clock, rfl, ho, hheap, hM⟩ := mp_live s hb hm
  refine ⟨.int .i64 (ks.length : Int), ?_, .int _ _⟩
  have hl := hM.len
  simp only [Array.length_toList] at hl
  simp [Builtin.len_, run_underlying hu, getObj_mp (P := P) hheap, goInt, hl]

theorem heap_set {W : World} {cb : Nat} {o : Obj} (h : cb < W.heap.size) : ({ W with heap := W.heap.setIfInBounds cb o } : World).heap[cb]? = some o := by simp [h]
theorem mkmp_run {H : Heap} (s : St wr W own H) {t : TypeId} : ∃ v' W', (Instr.makeMap t none).run P W = .ok v' W' ∧ ∃ wr' own', Ext wr W own wr' W' own' ∧ St wr' W' own' (H ++ [(1, [.mpb [] []])]) ∧ VR wr' W' own' (.mp H.length) v' := by
  obtain ⟨wr', own', h1, h2, h3⟩ := s.changeM (b := H.length) (ks' := []) (vs' := []) (cb' := W.heap.size) (H' := H ++ [(1, [.mpb [] []])]) (W' := W.alloc (.map #[] 0)) (es := #[]) (clock := 0)
    (fun x hx => by
      rcases Nat.lt_or_ge x H.length with h | h
      · rw [List.getElem?_append_left h]
      · rw [List.getElem?_eq_none h, List.getElem?_eq_none (by simp; omega)]) (by simp) (by simp) (Gl.alloc _ _).io (Gl.alloc _ _).size (fun x hx _ => (Gl.alloc _ _).same x hx) (.inl ⟨Nat.le_refl _, rfl⟩)
    (alloc_get _ _) ⟨rfl, rfl, fun j k e h => by simp at h, fun j k e h => by simp at h⟩
  refine ⟨.map (some W.heap.size), W.alloc (.map #[] 0), ?_, wr', own', h1, h2, .mp h3⟩
  simp [Instr.makeMap, run_newObj_alloc]
/-- a map's block, written -/
theorem set_map {H : Heap} (s : St wr W own H) {b cb : Nat} {ks vs ks' vs' : List V} {es es' : Array MapEntry} {clock clock' : Nat} (hb : H[b]? = some (1, [.mpb ks vs])) (hl : LiveM wr W own b 1 [.mpb ks vs]) (ho : own b 0 = some (cb, 0, 0)) (hheap : W.heap[cb]? = some (.map es clock)) (hm : MapR wr W own ks' vs' es'.toList) :
    ∃ W', (setObj cb (.map es' clock')).run P W = .ok () W' ∧ ∃ wr' own', Ext wr W own wr' W' own' ∧ St wr' W' own' (H.set b (1, [.mpb ks' vs'])) := by
  have hcb : cb < W.heap.size := s.wr_lt _ (s.own_wr _ _ _ _ _ ho)
  have hbl : b < H.length := (List.getElem?_eq_some_iff.mp hb).1
  refine ⟨_, setObj_mp _ hheap, ?_⟩
  obtain ⟨wr', own', h1, h2, _⟩ := s.changeM (b := b) (ks' := ks') (vs' := vs') (cb' := cb) (H' := H.set b (1, [.mpb ks' vs'])) (W' := { W with heap := W.heap.setIfInBounds cb (.map es' clock') }) (es := es') (clock := clock')
    (fun x hx => by rw [List.getElem?_set_ne (Ne.symm hx)]) (by rw [List.getElem?_set_self hbl]) (by simp) ⟨rfl, rfl, rfl⟩ (by simp) (fun x hx hne => by simp [Array.getElem?_setIfInBounds_ne (Ne.symm hne)]) (.inr ⟨_, hb, hl, ho⟩) (heap_set hcb) hm
  exact ⟨wr', own', h1, h2⟩
theorem mset_run {H H' : Heap} (s : St wr W own H) {t : TypeId} (ht : isMapI P t = true) {m k x : V} {m' k' x' : Value} (hm : VR wr W own m m') (hkv : VR wr W own k k') (hx : VR wr W own x x') (h : msetV H m k x = some H') :
    ∃ W', (Instr.mapUpdate t m' k' x').run P W = .ok () W' ∧ ∃ wr' own', Ext wr W own wr' W' own' ∧ St wr' W' own' H' := by
  obtain ⟨kt, et, q, hu, hk⟩ := isMapI_eq ht
  unfold msetV at h
  split at h
  case h_2 => cases h
  rename_i kk n
  simp only [Option.bind_eq_some_iff] at h
  obtain ⟨⟨b, ks, vs⟩, hb, r, hr, h⟩ := h
  have hkv0 := hkv
  cases hkv
  obtain ⟨hH, hl, cb, es, clock, rfl, ho, hheap, hM⟩ := mp_live s.toRd hb hm
  obtain ⟨f1, f2⟩ := mfind_sim (q := q) ks es.toList hM.len hM.key 0 r hr
  have hg := getObj_mp (P := P) hheap
  cases r with
  | none =>
    simp only [Option.some.injEq] at h
    subst h
    have hf := findKey_int (W := W) hk (show Instr.findNow (.int q) (.int kk n) es.toList 0 = some none by simpa using f1)
    have hM' : MapR wr W own (ks ++ [.int kk n]) (vs ++ [x]) (es.push { key := .int kk n, val := x', born := clock }).toList := by
      rw [Array.toList_push]
      have hlen := hM.len
      have hvl := hM.vlen
      refine ⟨by simp [hlen], by simp [hvl], fun j y e hy he => ?_, fun j y e hy he => ?_⟩
      · rcases Nat.lt_or_ge j ks.length with h | h
        · rw [List.getElem?_append_left h] at hy
          rw [List.getElem?_append_left (by omega)] at he
          exact hM.key j y e hy he
        · rw [List.getElem?_append_right h] at hy
          rw [List.getElem?_append_right (by omega)] at he
          cases hj : j - ks.length with
          | zero =>
            rw [hj] at hy; rw [show j - es.toList.length = 0 by omega] at he
            cases hy; cases he; exact .int _ _
          | succ d => rw [hj] at hy; simp at hy
      · rcases Nat.lt_or_ge j vs.length with h | h
        · rw [List.getElem?_append_left h] at hy
          rw [List.getElem?_append_left (by omega)] at he
          exact hM.val j y e hy he
        · rw [List.getElem?_append_right h] at hy
          rw [List.getElem?_append_right (by omega)] at he
          cases hj : j - vs.length with
          | zero =>
            rw [hj] at hy; rw [show j - es.toList.length = 0 by omega] at he
            cases hy; cases he; exact hx
          | succ d => rw [hj] at hy; simp at hy
    obtain ⟨W', g1, g2⟩ := set_map (P := P) s (clock' := clock + 1) hH hl ho hheap hM'
    refine ⟨W', ?_, g2⟩
    unfold Instr.mapUpdate
    simp only [Sem.run_bind, run_underlying hu, Result.andThen_ok, hg, checkKey_int hk, hf, g1]
  | some i =>
    simp only [Option.some.injEq] at h
    subst h
    obtain ⟨e, he, hke⟩ := f2 i rfl
    have hf := findKey_int (W := W) hk (show Instr.findNow (.int q) (.int kk n) es.toList 0 = some (some (i, e.val)) by rw [f1]; simp [he])
    have he' : es[i]? = some e := by simpa using he
    have hil : i < es.size := (Array.getElem?_eq_some_iff.mp he').1
    have hM' : MapR wr W own ks (vs.set i x) (es.modify i fun e => { e with key := .int kk n, val := x' }).toList := by
      have hlen := hM.len
      have hvl := hM.vlen
      have hget : ∀ j, (es.modify i fun e => { e with key := .int kk n, val := x' }).toList[j]? = if i = j then (es.toList[j]?).map (fun e => { e with key := .int kk n, val := x' }) else es.toList[j]? := by
        intro j
        simp only [Array.getElem?_toList, Array.getElem?_modify]
      refine ⟨by simpa using hlen, by simpa using hvl, fun j y e2 hy he2 => ?_, fun j y e2 hy he2 => ?_⟩
      · rw [hget] at he2
        split at he2
        · rename_i hij; subst hij
          rw [he] at he2; cases he2
          have := hM.key i y e hy he
          rw [hke] at this; exact this
        · exact hM.key j y e2 hy he2
      · rw [hget] at he2
        split at he2
        · rename_i hij; subst hij
          rw [he] at he2; cases he2
          have hl2 : i < vs.length := by simp at hlen; omega
          rw [List.getElem?_set_self hl2] at hy; cases hy
          exact hx
        · rename_i hij
          rw [List.getElem?_set_ne hij] at hy
          exact hM.val j y e2 hy he2
    obtain ⟨W', g1, g2⟩ := set_map (P := P) s (clock' := clock) hH hl ho hheap hM'
    refine ⟨W', ?_, g2⟩
    have hsame : Instr.sameBits 10000 (Value.int kk n) (Value.int kk n) = true := by
      show Instr.sameBits (9999 + 1) (Value.int kk n) (Value.int kk n) = true
      simp [Instr.sameBits]
    have hstay : (Instr.keyThatStays (Value.int kk n) (Value.int kk n)).run P W = .ok (.int kk n) W := by
      unfold Instr.keyThatStays; rw [if_pos hsame]; rfl
    unfold Instr.mapUpdate
    simp only [Sem.run_bind, run_underlying hu, Result.andThen_ok, hg, checkKey_int hk, hf, he', Option.map_some, Option.getD_some, hke, hstay, g1]
theorem mdel_run {H H' : Heap} (s : St wr W own H) {t ty : TypeId} {ts : Array TypeId} (h0 : ts[0]? = some t) (ht : isMapI P t = true) {m k : V} {m' k' : Value} (hm : VR wr W own m m') (hkv : VR wr W own k k') (h : mdelV H m k = some H') :
    ∃ W', (Builtin.delete_ ts ty #[m', k']).run P W = .ok (.tuple #[]) W' ∧ ∃ wr' own', Ext wr W own wr' W' own' ∧ St wr' W' own' H' := by
  obtain ⟨kt, et, q, hu, hk⟩ := isMapI_eq ht
  unfold mdelV at h
  split at h
  case h_2 => cases h
  rename_i kk n
  simp only [Option.bind_eq_some_iff] at h
  obtain ⟨⟨b, ks, vs⟩, hb, r, hr, h⟩ := h
  cases hkv
  obtain ⟨hH, hl, cb, es, clock, rfl, ho, hheap, hM⟩ := mp_live s.toRd hb hm
  obtain ⟨f1, f2⟩ := mfind_sim (q := q) ks es.toList hM.len hM.key 0 r hr
  have hg := getObj_mp (P := P) hheap
  cases r with
  | none =>
    simp only [Option.some.injEq] at h
    subst h
    have hf := findKey_int (W := W) hk (show Instr.findNow (.int q) (.int kk n) es.toList 0 = some none by simpa using f1)
    obtain ⟨W', g1, wr', own', g2, g3⟩ := set_map (P := P) s (clock' := clock) hH hl ho hheap hM
    have hset : H.set b (1, [.mpb ks vs]) = H := by
      refine List.ext_getElem? fun j => ?_
      by_cases hij : b = j
      · subst hij; rw [List.getElem?_set_self (List.getElem?_eq_some_iff.mp hH).1, hH]
      · rw [List.getElem?_set_ne hij]
    rw [hset] at g3
    refine ⟨W', ?_, wr', own', g2, g3⟩
    unfold Builtin.delete_
    simp [h0, run_underlying hu, hg, checkKey_int hk, hf, g1]
  | some i =>
    simp only [Option.some.injEq] at h
    subst h
    obtain ⟨e, he, hke⟩ := f2 i rfl
    have hf := findKey_int (W := W) hk (show Instr.findNow (.int q) (.int kk n) es.toList 0 = some (some (i, e.val)) by rw [f1]; simp [he])
    have he' : es[i]? = some e := by simpa using he
    have hil : i < es.size := (Array.getElem?_eq_some_iff.mp he').1
    have hto : (es.eraseIdxIfInBounds i).toList = es.toList.eraseIdx i := by
      simp [Array.eraseIdxIfInBounds, hil, Array.toList_eraseIdx]
    have hM' : MapR wr W own (ks.eraseIdx i) (vs.eraseIdx i) (es.eraseIdxIfInBounds i).toList := by
      rw [hto]
      have hlen := hM.len
      have hvl := hM.vlen
      have up : ∀ {α : Type} {l : List α} {j : Nat} {y : α}, (l.eraseIdx i)[j]? = some y → l[if j < i then j else j + 1]? = some y := by
        intro α l j y h
        rw [List.getElem?_eraseIdx] at h
        split at h
        · rename_i hj; rw [if_pos hj]; exact h
        · rename_i hj; rw [if_neg hj]; exact h
      have hil' : i < es.toList.length := by simpa using hil
      refine ⟨by rw [List.length_eraseIdx, List.length_eraseIdx, hlen], by rw [List.length_eraseIdx, List.length_eraseIdx, hvl], fun j y e2 hy he2 => hM.key _ y e2 (up hy) (up he2), fun j y e2 hy he2 => hM.val _ y e2 (up hy) (up he2)⟩
    obtain ⟨W', g1, g2⟩ := set_map (P := P) s (clock' := clock) hH hl ho hheap hM'
    refine ⟨W', ?_, g2⟩
    unfold Builtin.delete_
    simp [h0, run_underlying hu, hg, checkKey_int hk, hf, g1]
theorem slca_run {H : Heap} (s : Rd wr W own H) {t e : TypeId} {n z : Nat} {ag : Bool} (hu : P.underlying t = some (.array n e)) (hz : szOf P e = some z) {x v : V} {x' : Value} {lo hi : Option V} {lo' hi' : Option Value} (hx : VR wr W own x x') (hl : OptR wr W own lo lo') (hh : OptR wr W own hi hi')
    (h : slcaV H x lo hi n z ag = some v) : ∃ v', (Instr.sliceAt t x' lo' hi' none).run P W = .ok v' W ∧ VR wr W own v v' := by
  unfold slcaV at h
  split at h
  case h_2 => cases h
  rename_i b g off
  simp only [Option.bind_eq_some_iff] at h
  obtain ⟨l, h1, hh', h2, cs, hcs, h⟩ := h
  split at h
  · rename_i hc
    cases h
    obtain ⟨hle, hhn, hfit⟩ := hc
    cases hx with
    | ptr ho =>
      rename_i cb sh N
      obtain ⟨cb2, sh2, N2, ho2, hN, _⟩ := (s.live b g cs (rdB_some hcs)).resolve_right (by rintro ⟨rfl, h, _⟩; rw [h] at ho; cases ho)
      rw [ho] at ho2; cases ho2
      have hb := bounds_run (P := P) (isS := false) (cap := n) hl hh h1 h2 hle hhn
      refine ⟨.slice (some (if n = l then ⟨cb, sh + off, none⟩ else (⟨cb, sh + off, none⟩ : Addr).add (l * z))) (hh' - l) (n - l), ?_, ?_⟩
      · simp [Instr.sliceAt, run_underlying hu, Instr.sureAddr, hb, run_sizeOf' hz]
      · refine .sl ho (by omega) ?_ ?_
        · by_cases hnl : n = l
          · left; omega
          · right; rw [if_neg hnl, add_none, Nat.add_assoc]
        · by_cases hnl : n = l
          · left; omega
          · right
            have : (n - l) * z + l * z = n * z := by rw [← Nat.add_mul]; congr 1; omega
            omega
  · cases h
end
end Go.Eng
