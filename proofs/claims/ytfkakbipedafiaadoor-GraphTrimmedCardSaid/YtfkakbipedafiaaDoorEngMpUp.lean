/- Functions of this seat, run on unknown values by the rules of the small machine (no condition beyond those stated). -/
import Derived.Test.YtfkakbipedafiaaDoorEngIUp
import Derived.MapKept
namespace Go.Eng
open Go
set_option linter.unusedSectionVars false
set_option linter.unusedVariables false
set_option linter.unusedSimpArgs false
variable [Glob]
section
variable {wr : Nat → Prop} {W : World} {own : Own} {P : Program}
theorem getObj_mp {r : Nat} {es : Array MapEntry} {clock : Nat} (h : W.heap[r]? = some (.map es clock)) : (getObj r).run P W = .ok (.map es clock) W := by simp [getObj,Sem.run,h]
theorem setObj_mp {r : Nat} {es : Array MapEntry} {clock : Nat} (o : Obj) (h : W.heap[r]? = some (.map es clock)) : (setObj r o).run P W = .ok () { W with heap := W.heap.setIfInBounds r o } := by simp [setObj,Sem.run,h]
theorem mpB_spec {H : Heap} {m : V} {b : Nat} {ks vs : List V} (h : mpB H m = some (b,ks,vs)) : m = .mp b ∧ ∃ g,H[b]? = some (g,[.mpb ks vs]) := by
  unfold mpB at h
  split at h
  · split at h
    · rename_i hb; cases h; exact ⟨rfl,_,hb⟩
    · cases h
  · cases h
theorem mp_live {H : Heap} (s : Rd wr W own H) {m : V} {m' : Value} {b : Nat} {ks vs : List V} (h : mpB H m = some (b,ks,vs)) (hm : VR wr W own m m') :
    H[b]? = some (1,[.mpb ks vs]) ∧ LiveM wr W own b 1 [.mpb ks vs] ∧ ∃ cb es clock,m' = .map (some cb) ∧ own b 0 = some (cb,0,0) ∧ W.heap[cb]? = some (.map es clock) ∧ MapR wr W own ks vs es.toList := by
  obtain ⟨rfl,g,hb⟩ := mpB_spec h;rcases s.live b g _ hb with ⟨cb,sh,N,ho,hN,ccs,ty,lo,hi,hheap,hsz,hfr,hc⟩ | hM
  · obtain ⟨cv,_,hv⟩ := hc 0 (.mpb ks vs) rfl;cases hv
  · have hM' := hM;obtain ⟨rfl,h0,ks',vs',cb,hcs,ho,es,clock,hheap,hr⟩ := hM;cases hcs;refine ⟨hb,hM',cb,es,clock,?_,ho,hheap,hr⟩;cases hm with
    | mp h => rw [ho] at h; cases h; rfl
theorem isMapI_eq {t : TypeId} (h : isMapI P t = true) : ∃ kt et q,P.underlying t = some (.map kt et) ∧ P.underlying kt = some (.int q) := by
  unfold isMapI at h
  split at h
  · rename_i kt et hu
    cases hk : P.underlying kt with
    | none => simp [hk] at h
    | some d => cases d <;> simp [hk] at h; exact ⟨kt,et,_,hu,hk⟩
  · cases h
theorem checkKey_int {kt : TypeId} {q : IntKind} (hk : P.underlying kt = some (.int q)) (e : Bool) (k : IntKind) (n : Int) : (Instr.checkKey e 10000 kt (.int k n)).run P W = .ok () W := by
  show (Instr.checkKey e (9999 + 1) kt (.int k n)).run P W = _;unfold Instr.checkKey
  simp [run_underlying hk]
theorem mfind_sim {q : IntKind} {k : IntKind} {n : Int} : ∀ (ks : List V) (es : List MapEntry),es.length = ks.length → (∀ (j : Nat) (x : V) (e : MapEntry),ks[j]? = some x → es[j]? = some e → VR wr W own x e.key) → ∀ (i : Nat) (r : Option Nat),mfind k n ks = some r →
    Instr.findNow (.int q) (.int k n) es i = some (match r with | none => none | some j => (es[j]?).map fun e => (i + j,e.val)) ∧ (∀ j,r = some j → ∃ e,es[j]? = some e ∧ e.key = .int k n)
  | [],[],_,_,i,r,h => by
    simp only [mfind,Option.some.injEq] at h; subst h;exact ⟨rfl,fun j h => by cases h⟩
  | [],e :: es,hl,_,_,_,_ => by simp at hl
  | x :: ks,[],hl,_,_,_,_ => by simp at hl
  | x :: ks,e :: es,hl,hv,i,r,h => by
    have h0 := hv 0 x e rfl rfl;cases x <;> (try (simp only [mfind] at h; cases h; done))
    rename_i k' m
    simp only [mfind] at h;have he : e.key = .int k' m := by generalize e.key = y at h0; cases h0; rfl
    split at h
    · rename_i hk
      subst hk
      split at h
      · rename_i hnm
        cases h;rw [beq_iff_eq] at hnm;subst hnm;refine ⟨?_,fun j hj => by cases hj; exact ⟨e,rfl,he⟩⟩
        simp [Instr.findNow,he,Instr.sameNow]
      · rename_i hnm
        simp only [Option.map_eq_some_iff] at h;obtain ⟨o,ho,rfl⟩ := h;obtain ⟨g1,g2⟩ := mfind_sim (q := q) ks es (by simpa using hl) (fun j x e' a b => hv (j + 1) x e' (by simpa using a) (by simpa using b)) (i + 1) o ho;refine ⟨?_,fun j hj => ?_⟩
        · have hnm' : (n == m) = false := by simpa using hnm
          simp only [Instr.findNow,he,Instr.sameNow,if_true,hnm',g1];cases o with
          | none => rfl
          | some j => simp only [Option.map_some,List.getElem?_cons_succ]; congr 1; congr 1; funext z; rw [show i + 1 + j = i + (j + 1) by omega]
        · cases o with
          | none => cases hj
          | some j0 =>
            cases hj;obtain ⟨e',a,b⟩ := g2 j0 rfl;exact ⟨e',by simpa using a,b⟩
    · cases h
theorem findKey_int {kt : TypeId} {q : IntKind} (hk : P.underlying kt = some (.int q)) {key : Value} {es : List MapEntry} {r : Option (Nat × Value)} (h : Instr.findNow (.int q) key es 0 = some r) : (Instr.findKey kt key es).run P W = .ok r W := by
  unfold Instr.findKey;simp only [Sem.run_bind,run_underlying hk,Result.andThen_ok,h]; rfl
theorem mget_run {H : Heap} (s : Rd wr W own H) {t kt et : TypeId} {q : IntKind} {z : Value} (hu : P.underlying t = some (.map kt et)) (hk : P.underlying kt = some (.int q)) (hz : zeroOf P et = some z) {zero : V} (hzv : isV z zero = true) {ok : Bool} {m k v : V} {m' k' : Value} (hm : VR wr W own m m') (hkv : VR wr W own k k')
    (h : mgetV H m k zero ok = some v) : ∃ v',(Instr.lookup t m' k' ok).run P W = .ok v' W ∧ VR wr W own v v' := by
  unfold mgetV at h
  split at h
  case h_2 => cases h
  rename_i kk n
  simp only [Option.bind_eq_some_iff] at h;obtain ⟨⟨b,ks,vs⟩,hb,r,hr,h⟩ := h;cases hkv;obtain ⟨_,_,cb,es,clock,rfl,ho,hheap,hM⟩ := mp_live s hb hm;obtain ⟨f1,f2⟩ := mfind_sim (q := q) ks es.toList hM.len hM.key 0 r hr;have hg := getObj_mp (P := P) hheap;have pre : ∀ (w : Value) (o : Bool) (x : Option (Nat × Value)),Instr.findNow (.int q) (.int kk n) es.toList 0 = some x → (x = none → w = z ∧ o = false) → (∀ p,x = some p → w = p.2 ∧ o = true) →
      (Instr.lookup t (.map (some cb)) (.int kk n) ok).run P W = .ok (if ok then .tuple #[w,.bool o] else w) W := by
    intro w o x hx hn hs;have hf := findKey_int (W := W) hk hx;unfold Instr.lookup;simp only [Sem.run_bind,run_underlying hu,Result.andThen_ok,hg,Sem.run_pure,checkKey_int hk,hf];cases x with
    | none => obtain ⟨rfl,rfl⟩ := hn rfl; simp [run_zeroValue' hz]
    | some p => obtain ⟨rfl,rfl⟩ := hs p rfl; rfl
  cases r with
  | none =>
    simp only [Option.some.injEq] at h;subst h;refine ⟨_,pre z false none (by simpa using f1) (fun _ => ⟨rfl,rfl⟩) (fun p h => by cases h),?_⟩;cases ok
    · exact isV_sound hzv
    · refine .tup rfl (fun j c hj => ?_)
      match j,hj with
      | 0,hj => cases hj; exact isV_sound hzv
      | 1,hj => cases hj; exact .bool false
      | j + 2,hj => simp at hj
  | some j =>
    obtain ⟨e,he,hke⟩ := f2 j rfl;simp only [Option.map_eq_some_iff] at h;obtain ⟨x,hx,rfl⟩ := h;have hv := hM.val j x e hx he;refine ⟨_,pre e.val true (some (j,e.val)) (by rw [f1]; simp [he]) (fun h => by cases h) (fun p h => by cases h; exact ⟨rfl,rfl⟩),?_⟩;cases ok
    · exact hv
    · refine .tup rfl (fun j c hj => ?_)
      match j,hj with
      | 0,hj => cases hj; exact hv
      | 1,hj => cases hj; exact .bool true
      | j + 2,hj => simp at hj
theorem mlen_run {H : Heap} (s : Rd wr W own H) {t ty : TypeId} (hu : isMapI P t = true) {m v : V} {m' : Value} (hm : VR wr W own m m') (h : mlenV H m = some v) : ∃ v',(Builtin.len_ #[t] ty #[m']).run P W = .ok v' W ∧ VR wr W own v v' := by
  obtain ⟨kt,et,q,hu,hk⟩ := isMapI_eq hu;simp only [mlenV,Option.map_eq_some_iff] at h;obtain ⟨⟨b,ks,vs⟩,hb,rfl⟩ := h;obtain ⟨_,_,cb,es,clock,rfl,ho,hheap,hM⟩ := mp_live s hb hm;refine ⟨.int .i64 (ks.length : Int),?_,.int _ _⟩;have hl := hM.len;simp only [Array.length_toList] at hl
  simp [Builtin.len_,run_underlying hu,getObj_mp (P := P) hheap,goInt,hl]
theorem heap_set {W : World} {cb : Nat} {o : Obj} (h : cb < W.heap.size) : ({ W with heap := W.heap.setIfInBounds cb o } : World).heap[cb]? = some o := by simp [h]
theorem mkmp_run {H : Heap} (s : St wr W own H) {t : TypeId} : ∃ v' W',(Instr.makeMap t none).run P W = .ok v' W' ∧ ∃ wr' own',Ext wr W own wr' W' own' ∧ St wr' W' own' (H ++ [(1,[.mpb [] []])]) ∧ VR wr' W' own' (.mp H.length) v' := by
  obtain ⟨wr',own',h1,h2,h3⟩ := s.changeM (b := H.length) (ks' := []) (vs' := []) (cb' := W.heap.size) (H' := H ++ [(1,[.mpb [] []])]) (W' := W.alloc (.map #[] 0)) (es := #[]) (clock := 0)
    (fun x hx => by
      rcases Nat.lt_or_ge x H.length with h | h
      · rw [List.getElem?_append_left h]
      · rw [List.getElem?_eq_none h,List.getElem?_eq_none (by simp; omega)]) (by simp) (by simp) (Gl.alloc _ _).io (Gl.alloc _ _).size (fun x hx _ => (Gl.alloc _ _).same x hx) (.inl ⟨Nat.le_refl _,rfl⟩)
    (alloc_get _ _) ⟨rfl,rfl,fun j k e h => by simp at h,fun j k e h => by simp at h⟩
  refine ⟨.map (some W.heap.size),W.alloc (.map #[] 0),?_,wr',own',h1,h2,.mp h3⟩
  simp [Instr.makeMap,run_newObj_alloc]
theorem set_map {H : Heap} (s : St wr W own H) {b cb : Nat} {ks vs ks' vs' : List V} {es es' : Array MapEntry} {clock clock' : Nat} (hb : H[b]? = some (1,[.mpb ks vs])) (hl : LiveM wr W own b 1 [.mpb ks vs]) (ho : own b 0 = some (cb,0,0)) (hheap : W.heap[cb]? = some (.map es clock)) (hm : MapR wr W own ks' vs' es'.toList) :
    ∃ W',(setObj cb (.map es' clock')).run P W = .ok () W' ∧ ∃ wr' own',Ext wr W own wr' W' own' ∧ St wr' W' own' (H.set b (1,[.mpb ks' vs'])) := by
  have hcb : cb < W.heap.size := s.wr_lt _ (s.own_wr _ _ _ _ _ ho);have hbl : b < H.length := (List.getElem?_eq_some_iff.mp hb).1;refine ⟨_,setObj_mp _ hheap,?_⟩;obtain ⟨wr',own',h1,h2,_⟩ := s.changeM (b := b) (ks' := ks') (vs' := vs') (cb' := cb) (H' := H.set b (1,[.mpb ks' vs'])) (W' := { W with heap := W.heap.setIfInBounds cb (.map es' clock') }) (es := es') (clock := clock')
    (fun x hx => by rw [List.getElem?_set_ne (Ne.symm hx)]) (by rw [List.getElem?_set_self hbl]) (by simp) ⟨rfl,rfl,rfl⟩ (by simp) (fun x hx hne => by simp [Array.getElem?_setIfInBounds_ne (Ne.symm hne)]) (.inr ⟨_,hb,hl,ho⟩) (heap_set hcb) hm
  exact ⟨wr',own',h1,h2⟩
theorem mset_run {H H' : Heap} (s : St wr W own H) {t : TypeId} (ht : isMapI P t = true) {m k x : V} {m' k' x' : Value} (hm : VR wr W own m m') (hkv : VR wr W own k k') (hx : VR wr W own x x') (h : msetV H m k x = some H') :
    ∃ W',(Instr.mapUpdate t m' k' x').run P W = .ok () W' ∧ ∃ wr' own',Ext wr W own wr' W' own' ∧ St wr' W' own' H' := by
  obtain ⟨kt,et,q,hu,hk⟩ := isMapI_eq ht;unfold msetV at h
  split at h
  case h_2 => cases h
  rename_i kk n
  simp only [Option.bind_eq_some_iff] at h;obtain ⟨⟨b,ks,vs⟩,hb,r,hr,h⟩ := h;have hkv0 := hkv;cases hkv;obtain ⟨hH,hl,cb,es,clock,rfl,ho,hheap,hM⟩ := mp_live s.toRd hb hm;obtain ⟨f1,f2⟩ := mfind_sim (q := q) ks es.toList hM.len hM.key 0 r hr;have hg := getObj_mp (P := P) hheap;cases r with
  | none =>
    simp only [Option.some.injEq] at h;subst h;have hf := findKey_int (W := W) hk (show Instr.findNow (.int q) (.int kk n) es.toList 0 = some none by simpa using f1);have hM' : MapR wr W own (ks ++ [.int kk n]) (vs ++ [x]) (es.push { key := .int kk n,val := x',born := clock }).toList := by
      rw [Array.toList_push];have hlen := hM.len;have hvl := hM.vlen;refine ⟨by simp [hlen],by simp [hvl],fun j y e hy he => ?_,fun j y e hy he => ?_⟩
      · rcases Nat.lt_or_ge j ks.length with h | h
        · rw [List.getElem?_append_left h] at hy;rw [List.getElem?_append_left (by omega)] at he;exact hM.key j y e hy he
        · rw [List.getElem?_append_right h] at hy;rw [List.getElem?_append_right (by omega)] at he;cases hj : j - ks.length with
          | zero =>
            rw [hj] at hy; rw [show j - es.toList.length = 0 by omega] at he;cases hy; cases he; exact .int _ _
          | succ d => rw [hj] at hy; simp at hy
      · rcases Nat.lt_or_ge j vs.length with h | h
        · rw [List.getElem?_append_left h] at hy;rw [List.getElem?_append_left (by omega)] at he;exact hM.val j y e hy he
        · rw [List.getElem?_append_right h] at hy;rw [List.getElem?_append_right (by omega)] at he;cases hj : j - vs.length with
          | zero =>
            rw [hj] at hy; rw [show j - es.toList.length = 0 by omega] at he;cases hy; cases he; exact hx
          | succ d => rw [hj] at hy; simp at hy
    obtain ⟨W',g1,g2⟩ := set_map (P := P) s (clock' := clock + 1) hH hl ho hheap hM';refine ⟨W',?_,g2⟩;unfold Instr.mapUpdate;simp only [Sem.run_bind,run_underlying hu,Result.andThen_ok,hg,checkKey_int hk,hf,g1]
  | some i =>
    simp only [Option.some.injEq] at h;subst h;obtain ⟨e,he,hke⟩ := f2 i rfl;have hf := findKey_int (W := W) hk (show Instr.findNow (.int q) (.int kk n) es.toList 0 = some (some (i,e.val)) by rw [f1]; simp [he]);have he' : es[i]? = some e := by simpa using he
    have hil : i < es.size := (Array.getElem?_eq_some_iff.mp he').1;have hM' : MapR wr W own ks (vs.set i x) (es.modify i fun e => { e with key := .int kk n,val := x' }).toList := by
      have hlen := hM.len;have hvl := hM.vlen;have hget : ∀ j,(es.modify i fun e => { e with key := .int kk n,val := x' }).toList[j]? = if i = j then (es.toList[j]?).map (fun e => { e with key := .int kk n,val := x' }) else es.toList[j]? := by
        intro j;simp only [Array.getElem?_toList,Array.getElem?_modify]
      refine ⟨by simpa using hlen,by simpa using hvl,fun j y e2 hy he2 => ?_,fun j y e2 hy he2 => ?_⟩
      · rw [hget] at he2
        split at he2
        · rename_i hij; subst hij
          rw [he] at he2; cases he2;have := hM.key i y e hy he;rw [hke] at this; exact this
        · exact hM.key j y e2 hy he2
      · rw [hget] at he2
        split at he2
        · rename_i hij; subst hij
          rw [he] at he2; cases he2;have hl2 : i < vs.length := by simp at hlen; omega
          rw [List.getElem?_set_self hl2] at hy; cases hy;exact hx
        · rename_i hij
          rw [List.getElem?_set_ne hij] at hy;exact hM.val j y e2 hy he2
    obtain ⟨W',g1,g2⟩ := set_map (P := P) s (clock' := clock) hH hl ho hheap hM';refine ⟨W',?_,g2⟩;have hsame : Instr.sameBits 10000 (Value.int kk n) (Value.int kk n) = true := by
      show Instr.sameBits (9999 + 1) (Value.int kk n) (Value.int kk n) = true
      simp [Instr.sameBits]
    have hstay : (Instr.keyThatStays (Value.int kk n) (Value.int kk n)).run P W = .ok (.int kk n) W := by
      unfold Instr.keyThatStays; rw [if_pos hsame]; rfl
    unfold Instr.mapUpdate;simp only [Sem.run_bind,run_underlying hu,Result.andThen_ok,hg,checkKey_int hk,hf,he',Option.map_some,Option.getD_some,hke,hstay,g1]
theorem mdel_run {H H' : Heap} (s : St wr W own H) {t ty : TypeId} {ts : Array TypeId} (h0 : ts[0]? = some t) (ht : isMapI P t = true) {m k : V} {m' k' : Value} (hm : VR wr W own m m') (hkv : VR wr W own k k') (h : mdelV H m k = some H') :
    ∃ W',(Builtin.delete_ ts ty #[m',k']).run P W = .ok (.tuple #[]) W' ∧ ∃ wr' own',Ext wr W own wr' W' own' ∧ St wr' W' own' H' := by
  obtain ⟨kt,et,q,hu,hk⟩ := isMapI_eq ht;unfold mdelV at h
  split at h
  case h_2 => cases h
  rename_i kk n
  simp only [Option.bind_eq_some_iff] at h;obtain ⟨⟨b,ks,vs⟩,hb,r,hr,h⟩ := h;cases hkv;obtain ⟨hH,hl,cb,es,clock,rfl,ho,hheap,hM⟩ := mp_live s.toRd hb hm;obtain ⟨f1,f2⟩ := mfind_sim (q := q) ks es.toList hM.len hM.key 0 r hr;have hg := getObj_mp (P := P) hheap;cases r with
  | none =>
    simp only [Option.some.injEq] at h;subst h;have hf := findKey_int (W := W) hk (show Instr.findNow (.int q) (.int kk n) es.toList 0 = some none by simpa using f1);obtain ⟨W',g1,wr',own',g2,g3⟩ := set_map (P := P) s (clock' := clock) hH hl ho hheap hM;have hset : H.set b (1,[.mpb ks vs]) = H := by
      refine List.ext_getElem? fun j => ?_
      by_cases hij : b = j
      · subst hij; rw [List.getElem?_set_self (List.getElem?_eq_some_iff.mp hH).1,hH]
      · rw [List.getElem?_set_ne hij]
    rw [hset] at g3;refine ⟨W',?_,wr',own',g2,g3⟩;unfold Builtin.delete_
    simp [h0,run_underlying hu,hg,checkKey_int hk,hf,g1]
  | some i =>
    simp only [Option.some.injEq] at h;subst h;obtain ⟨e,he,hke⟩ := f2 i rfl;have hf := findKey_int (W := W) hk (show Instr.findNow (.int q) (.int kk n) es.toList 0 = some (some (i,e.val)) by rw [f1]; simp [he]);have he' : es[i]? = some e := by simpa using he
    have hil : i < es.size := (Array.getElem?_eq_some_iff.mp he').1;have hto : (es.eraseIdxIfInBounds i).toList = es.toList.eraseIdx i := by
      simp [Array.eraseIdxIfInBounds,hil,Array.toList_eraseIdx]
    have hM' : MapR wr W own (ks.eraseIdx i) (vs.eraseIdx i) (es.eraseIdxIfInBounds i).toList := by
      rw [hto];have hlen := hM.len;have hvl := hM.vlen;have up : ∀ {α : Type} {l : List α} {j : Nat} {y : α},(l.eraseIdx i)[j]? = some y → l[if j < i then j else j + 1]? = some y := by
        intro α l j y h;rw [List.getElem?_eraseIdx] at h
        split at h
        · rename_i hj; rw [if_pos hj]; exact h
        · rename_i hj; rw [if_neg hj]; exact h
      have hil' : i < es.toList.length := by simpa using hil
      refine ⟨by rw [List.length_eraseIdx,List.length_eraseIdx,hlen],by rw [List.length_eraseIdx,List.length_eraseIdx,hvl],fun j y e2 hy he2 => hM.key _ y e2 (up hy) (up he2),fun j y e2 hy he2 => hM.val _ y e2 (up hy) (up he2)⟩
    obtain ⟨W',g1,g2⟩ := set_map (P := P) s (clock' := clock) hH hl ho hheap hM';refine ⟨W',?_,g2⟩;unfold Builtin.delete_
    simp [h0,run_underlying hu,hg,checkKey_int hk,hf,g1]
theorem slca_run {H : Heap} (s : Rd wr W own H) {t e : TypeId} {n z : Nat} {ag : Bool} (hu : P.underlying t = some (.array n e)) (hz : szOf P e = some z) {x v : V} {x' : Value} {lo hi : Option V} {lo' hi' : Option Value} (hx : VR wr W own x x') (hl : OptR wr W own lo lo') (hh : OptR wr W own hi hi')
    (h : slcaV H x lo hi n z ag = some v) : ∃ v',(Instr.sliceAt t x' lo' hi' none).run P W = .ok v' W ∧ VR wr W own v v' := by
  unfold slcaV at h
  split at h
  case h_2 => cases h
  rename_i b g off
  simp only [Option.bind_eq_some_iff] at h;obtain ⟨l,h1,hh',h2,cs,hcs,h⟩ := h
  split at h
  · rename_i hc
    cases h;obtain ⟨hle,hhn,hfit⟩ := hc;cases hx with
    | ptr ho =>
      rename_i cb sh N
      obtain ⟨cb2,sh2,N2,ho2,hN,_⟩ := (s.live b g cs (rdB_some hcs)).resolve_right (by rintro ⟨rfl,h,_⟩; rw [h] at ho; cases ho);rw [ho] at ho2; cases ho2;have hb := bounds_run (P := P) (isS := false) (cap := n) hl hh h1 h2 hle hhn;refine ⟨.slice (some (if n = l then ⟨cb,sh + off,none⟩ else (⟨cb,sh + off,none⟩ : Addr).add (l * z))) (hh' - l) (n - l),?_,?_⟩
      · simp [Instr.sliceAt,run_underlying hu,Instr.sureAddr,hb,run_sizeOf' hz]
      · refine .sl ho (by omega) ?_ ?_
        · by_cases hnl : n = l
          · left; omega
          · right; rw [if_neg hnl,add_none,Nat.add_assoc]
        · by_cases hnl : n = l
          · left; omega
          · right
            have : (n - l) * z + l * z = n * z := by rw [← Nat.add_mul]; congr 1; omega
            omega
  · cases h
end
end Go.Eng
namespace Go.Eng
open Go
set_option linter.unusedSectionVars false
set_option linter.unusedVariables false
set_option linter.unusedSimpArgs false
variable [Glob]
def FOk (P : Program) (f : Nat) : Prop := ∃ fn, P.funcs[f]? = some fn ∧ (fn.name == "runtime.NumGoroutine") = false ∧ fn.body.isNone = false
def FSim (P : Program) (F : FT) : Prop := ∀ (f : Nat) (args : List V) (H : Heap) (r : V) (H' : Heap),F f args H = some (r,H') → FOk P f ∧
  ∀ (wr : Nat → Prop) (W : World) (own : Own) (vals : Array Value),St wr W own H → args.length = vals.size → (∀ (j : Nat) (c : V),args[j]? = some c → VR wr W own c (vals.getD j undef)) →
    Calls P f vals W fun e w' => ∃ v wr' own',e = .returned v ∧ Ext wr W own wr' w' own' ∧ St wr' w' own' H' ∧ VR wr' w' own' r v
section
variable {wr : Nat → Prop} {W : World} {own : Own} {P : Program}
theorem omap_self {α : Type} {f : α → Option α} : ∀ {l : List α},(∀ x ∈ l,f x = some x) → omap f l = some l
  | [],_ => rfl
  | a :: l,h => by
    have h0 := h a (by simp);have ih := omap_self (l := l) (f := f) (fun x hx => h x (by simp [hx]))
    simp [omap,h0,ih]
theorem omap_to {α β : Type} {f : α → Option β} {g : α → β} : ∀ {l : List α},(∀ x ∈ l,f x = some (g x)) → omap f l = some (l.map g)
  | [],_ => rfl
  | a :: l,h => by
    have h0 := h a (by simp);have ih := omap_to (l := l) (f := f) (g := g) (fun x hx => h x (by simp [hx]))
    simp [omap,h0,ih]
theorem deep_free {H : Heap} : ∀ (n : Nat) {v : V},V.free n v = true → deep false H n v = some (nz n v)
  | 0,v,h => by simp [V.free] at h
  | n + 1,v,h => by
    cases v with
    | ag cs =>
      simp only [V.free,List.all_eq_true] at h;simp only [deep,omap_to (fun x hx => deep_free n (h x hx))]; rfl
    | tup cs =>
      simp only [V.free,List.all_eq_true] at h;simp only [deep,omap_to (fun x hx => deep_free n (h x hx))]; rfl
    | fn f cs =>
      simp only [V.free,List.all_eq_true] at h;simp only [deep,omap_to (fun x hx => deep_free n (h x hx))]; rfl
    | ifc t x =>
      simp only [V.free] at h;simp only [deep,deep_free n h]; rfl
    | un => simp [V.free] at h
    | sk => simp [V.free] at h
    | ptr b g off => simp [V.free] at h
    | bx x => simp [V.free] at h
    | sl b g off len z ag => simp [V.free] at h
    | bm f cs => simp [V.free] at h
    | mp b => simp [V.free] at h
    | mpb ks vs => simp [V.free] at h
    | _ => rfl
theorem VR.nz {wr : Nat → Prop} {W : World} {own : Own} : ∀ (n : Nat) {v : V} {v' : Value},VR wr W own v v' → VR wr W own (nz n v) v'
  | 0,_,_,h => h
  | n + 1,v,v',h => by
    have key : ∀ (cs : List V) (arr : Array Value),(∀ (j : Nat) (c : V),cs[j]? = some c → VR wr W own c (arr.getD j undef)) → ∀ (j : Nat) (c : V),(cs.map (Go.Eng.nz n))[j]? = some c → VR wr W own c (arr.getD j undef) := by
      intro cs arr hv j c hj;simp only [List.getElem?_map,Option.map_eq_some_iff] at hj;obtain ⟨d,hd,rfl⟩ := hj;exact VR.nz n (hv j d hd)
    cases h with
    | nils => exact .fzn
    | ag hl hv => exact .ag (by simpa using hl) (key _ _ hv)
    | tup hl hv => exact .tup (by simpa using hl) (key _ _ hv)
    | fn hl hv => exact .fn (by simpa using hl) (key _ _ hv)
    | ifc h => exact .ifc (VR.nz n h)
    | un => exact .un _
    | sk => exact .sk
    | bool => exact .bool _
    | int => exact .int _ _
    | str => exact .str _
    | nilp => exact .nilp
    | ptr h => exact .ptr h
    | fp cv h1 h2 h3 h4 => exact .fp cv h1 h2 h3 h4
    | bx cv h1 h2 h3 h4 => exact .bx cv h1 h2 h3 h4
    | sl h1 h2 h3 h4 => exact .sl h1 h2 h3 h4
    | fz z cv h1 h2 h3 h4 h5 => exact .fz z cv h1 h2 h3 h4 h5
    | fzn => exact .fzn
    | bm h1 h2 => exact .bm h1 h2
    | nilf => exact .nilf
    | nili => exact .nili
    | flt => exact .flt _
    | fnan b h => exact .fnan b h
    | mp h => exact .mp h
    | mpn => exact .mpn
    | fze a c => obtain ⟨x,y,z⟩ := a; exact .fz 0 (fun _ _ => undef) (Nat.zero_le _) (fun h => absurd rfl h) (fun i x h => by simp at h) (fun i x j c h => by simp at h) (fun i x j c h => by simp at h)
    | nanw b h => exact .nanw b h
theorem rows_get (z : Nat) : ∀ (n : Nat) (cs : List V),(rows z n cs).length = n ∧ ∀ i,i < n → (rows z n cs)[i]? = some ((cs.drop (i * z)).take z)
  | 0,cs => ⟨rfl,fun i h => by omega⟩
  | n + 1,cs => by
    obtain ⟨h1,h2⟩ := rows_get z n (cs.drop z);refine ⟨by simp [rows,h1],fun i hi => ?_⟩;cases i with
    | zero => simp [rows]
    | succ i =>
      simp only [rows,List.getElem?_cons_succ];rw [h2 i (by omega),List.drop_drop,Nat.succ_mul,Nat.add_comm]
theorem deep_sound {H : Heap} {strict : Bool} (s : Rd wr W own H) {wr2 : Nat → Prop} (hown : ∀ b g cb sh N,own b g = some (cb,sh,N) → ¬ wr2 cb)
    (hsub : strict = true ∨ ∀ b,wr2 b → wr b) : ∀ (n : Nat) {v u : V} {v' : Value},deep strict H n v = some u → VR wr W own v v' → VR wr2 W own0 u v'
  | 0,v,u,v',h,_ => by simp [deep] at h
  | n + 1,v,u,v',h,hv => by
    have hg : (∀ b,wr2 b → wr b) → Grow wr wr2 W W := fun hs => ⟨Nat.le_refl _,fun b _ h => hs b h,fun _ _ _ => rfl⟩
    have lst : ∀ (cs us : List V) (arr : Array Value),omap (deep strict H n) cs = some us → cs.length = arr.size → (∀ j c,cs[j]? = some c → VR wr W own c (arr.getD j undef)) →
        us.length = arr.size ∧ ∀ j c,us[j]? = some c → VR wr2 W own0 c (arr.getD j undef) := by
      intro cs us arr ho hl hvv;obtain ⟨o1,o2⟩ := omap_spec ho;refine ⟨by omega,fun j c hj => ?_⟩;have hlt : j < cs.length := by rw [o1]; exact (List.getElem?_eq_some_iff.mp hj).1
      obtain ⟨b,hb,hd⟩ := o2 j _ (List.getElem?_eq_getElem hlt);rw [hj] at hb; cases hb;exact deep_sound s hown hsub n hd (hvv j _ (List.getElem?_eq_getElem hlt))
    cases hv with
    | un => simp [deep] at h
    | sk => simp [deep] at h
    | bool b => simp [deep] at h; subst h; exact .bool b
    | int k m => simp [deep] at h; subst h; exact .int k m
    | str s => simp [deep] at h; subst h; exact .str s
    | nilp => simp [deep] at h; subst h; exact .nilp
    | ptr ho => simp [deep] at h
    | bx => simp [deep] at h
    | bm hl hvv => simp [deep] at h
    | mp hh => simp [deep] at h
    | mpn => simp [deep] at h; subst h; exact .mpn
    | nils => simp [deep] at h; subst h; exact .fzn
    | nilf => simp [deep] at h; subst h; exact .nilf
    | nili => simp [deep] at h; subst h; exact .nili
    | flt b => simp [deep] at h; subst h; exact .flt b
    | fnan b hb => simp [deep] at h; subst h; exact .fnan b hb
    | nanw b hb => simp [deep] at h; subst h; exact .nanw b hb
    | fze a c => simp [deep] at h; subst h; obtain ⟨x,y,z⟩ := a; exact .fz 0 (fun _ _ => undef) (Nat.zero_le _) (fun h => absurd rfl h) (fun i x h => by simp at h) (fun i x j c h => by simp at h) (fun i x j c h => by simp at h)
    | fp cv hw hlt hc hvv =>
      simp only [deep] at h
      split at h
      · cases h
      · rename_i hns; cases h
        exact VR.mono (hg (hsub.resolve_left hns)) (Own.le_refl _) (.fp cv hw hlt hc hvv)
    | fz z cv hl hw hz hc hvv =>
      simp only [deep] at h
      split at h
      · cases h
      · rename_i hns; cases h
        exact VR.mono (hg (hsub.resolve_left hns)) (Own.le_refl _) (.fz z cv hl hw hz hc hvv)
    | fzn =>
      simp only [deep] at h
      split at h
      · cases h
      · cases h; exact .fzn
    | ag hl hvv =>
      simp only [deep,Option.map_eq_some_iff] at h;obtain ⟨us,ho,rfl⟩ := h;obtain ⟨l1,l2⟩ := lst _ _ _ ho hl hvv;exact .ag l1 l2
    | tup hl hvv =>
      simp only [deep,Option.map_eq_some_iff] at h;obtain ⟨us,ho,rfl⟩ := h;obtain ⟨l1,l2⟩ := lst _ _ _ ho hl hvv;exact .tup l1 l2
    | fn hl hvv =>
      simp only [deep,Option.map_eq_some_iff] at h;obtain ⟨us,ho,rfl⟩ := h;obtain ⟨l1,l2⟩ := lst _ _ _ ho hl hvv;exact .fn l1 l2
    | ifc hx =>
      simp only [deep,Option.map_eq_some_iff] at h;obtain ⟨y,hy,rfl⟩ := h;exact .ifc (deep_sound s hown hsub n hy hx)
    | sl ho hl ha hN =>
      rename_i b g off len z ag cb sh N a cap
      simp only [deep,Option.bind_eq_some_iff] at h;obtain ⟨cs,hcs,h⟩ := h
      split at h
      case isFalse => cases h
      rename_i hcond
      obtain ⟨hfit,hz0,hzag⟩ := hcond;simp only [Option.map_eq_some_iff] at h;obtain ⟨xs,hxs,rfl⟩ := h;obtain ⟨cv,hcv⟩ := s.get hcs ho;obtain ⟨o1,o2⟩ := omap_spec hxs;obtain ⟨r1,r2⟩ := rows_get z len (cs.drop off);have hxl : xs.length = len := by rw [← o1,r1]
      have hbl : cb < W.heap.size ∨ len = 0 ∨ z = 0 := by
        rcases Nat.eq_zero_or_pos (len * z) with h0 | h0
        · right; exact Nat.mul_eq_zero.mp h0
        · left
          have := (hcv off cs[off] (List.getElem?_eq_getElem (by omega))).1;have := World.block_lt_of_cell? _ _ this;exact this
      have el : ∀ i x,xs[i]? = some x → x.cells.length = z ∧ ∀ j c,x.cells[j]? = some c → W.cell? ⟨cb,sh + off + i * z + j,none⟩ = some (cv (off + i * z + j)) ∧ VR wr2 W own0 c (cv (off + i * z + j)) := by
        intro i x hx;have hi : i < len := by rw [← hxl]; exact (List.getElem?_eq_some_iff.mp hx).1
        obtain ⟨y,hy,hf⟩ := o2 i _ (r2 i hi);rw [hx] at hy; cases hy;have hiz : i * z + z ≤ len * z := by rw [← Nat.succ_mul]; exact Nat.mul_le_mul_right _ hi
        have hrow : ∀ j,j < z → (((cs.drop off).drop (i * z)).take z)[j]? = cs[off + i * z + j]? := by
          intro j hj; simp [hj,Nat.add_assoc]
        have hrl : (((cs.drop off).drop (i * z)).take z).length = z := by simp; omega
        cases ag with
        | true =>
          simp only [if_true,Option.map_eq_some_iff] at hf;obtain ⟨us,hus,rfl⟩ := hf;obtain ⟨p1,p2⟩ := omap_spec hus;refine ⟨by rw [V.cells,← p1,hrl],fun j c hj => ?_⟩;have hj' : j < z := by rw [← hrl,p1]; exact (List.getElem?_eq_some_iff.mp hj).1
          obtain ⟨d,hd,hdd⟩ := p2 j cs[off + i * z + j] (by rw [hrow j hj']; exact List.getElem?_eq_getElem (by omega));have e : us[j]? = some c := hj;rw [e] at hd; cases hd;obtain ⟨q1,q2⟩ := hcv (off + i * z + j) cs[off + i * z + j] (List.getElem?_eq_getElem (by omega));refine ⟨?_,deep_sound s hown hsub n hdd q2⟩
          rwa [show sh + off + i * z + j = sh + (off + i * z + j) by omega]
        | false =>
          have hz1 : z = 1 := by rcases hzag with h | h; cases h; exact h
          subst hz1;simp only [Bool.false_eq_true,if_false] at hf
          split at hf
          · rename_i c0 hr0
            simp only [Option.bind_eq_some_iff] at hf;obtain ⟨u0,hu0,hf⟩ := hf
            split at hf
            · cases hf
            · rename_i hag; cases hf
              have hc0 : cs[off + i * 1 + 0]? = some c0 := by rw [← hrow 0 (by omega),hr0]; rfl
              have hcell : x.cells = [x] := by cases x <;> simp_all [V.isAg,V.cells]
              refine ⟨by rw [hcell]; rfl,fun j c hj => ?_⟩;rw [hcell] at hj;cases j with
              | zero =>
                simp at hj; subst hj
                obtain ⟨q1,q2⟩ := hcv _ _ hc0;refine ⟨?_,deep_sound s hown hsub n hu0 q2⟩
                rwa [show sh + off + i * 1 + 0 = sh + (off + i * 1 + 0) by omega]
              | succ j => simp at hj
          · cases hf
      obtain ⟨ab,ao,asp⟩ := a;have q : VR wr2 W own0 (.fz xs) (.slice (some ⟨ab,ao,asp⟩) xs.length cap) := by
        by_cases hemp : xs = []
        · subst hemp;exact .fz z (fun _ _ => undef) (by simp) (by simp) (by simp) (by simp) (by simp)
        · have hlen : 0 < len := by rw [← hxl]; exact List.length_pos_iff.mpr hemp
          have ea := ha.resolve_left (by omega);cases ea;refine .fz z (fun i j => cv (off + i * z + j)) (by omega) (fun _ => ⟨rfl,hown _ _ _ _ _ ho,?_⟩) (fun i x hx => (el i x hx).1) (fun i x j c hx hj => ((el i x hx).2 j c hj).1) (fun i x j c hx hj => ((el i x hx).2 j c hj).2);rcases hbl with h | h | h
          · exact h
          · omega
          · omega
      rwa [hxl] at q
theorem run_v {x : Sem Value} {v' : Value} {W' : World} (h : x.run P W = .ok v' W') : (do pure (Next.value (← x)) : Sem Next).run P W = .ok (.value v') W' := by
  rw [Sem.run_bind,h]; rfl
theorem call_run {c : Call} {ty : TypeId} {a : Act} {f' : Operand} (hc : c.callee = .value f') {g : Nat} {caps : Array Value} (hf : a.eval f' = .func (.func g) #[] caps) (hg : FOk P g) :
    (do let d ← resolve a.eval c ty; invoke d.target d.args : Sem Next).run P W = .ok (.enter g (c.args.map a.eval ++ caps)) W := by
  obtain ⟨fn,h1,h2,h3⟩ := hg;have : resolve a.eval c ty = pure { target := .fn (.func g) caps,args := #[] ++ c.args.map a.eval } := by
    simp [resolve,hc,hf,Deferred.ofValue]
  rw [this];simp only [pure_bind,Array.empty_append,invoke,callFunc,Sem.run_bind,run_program,Result.andThen_ok,h1];rw [if_neg (by simp [h2]),if_neg (by simp [h3])]
  rfl
theorem call_run_m {c : Call} {ty : TypeId} {a : Act} {f' : Operand} (hc : c.callee = .value f') {g : Nat} {first : Array Value} (hf : a.eval f' = .func (.func g) first #[]) (hg : FOk P g) :
    (do let d ← resolve a.eval c ty; invoke d.target d.args : Sem Next).run P W = .ok (.enter g (first ++ c.args.map a.eval)) W := by
  obtain ⟨fn,h1,h2,h3⟩ := hg;have : resolve a.eval c ty = pure { target := .fn (.func g) #[],args := first ++ c.args.map a.eval } := by
    simp [resolve,hc,hf,Deferred.ofValue]
  rw [this];simp only [pure_bind,invoke,callFunc,Sem.run_bind,run_program,Result.andThen_ok,h1];rw [if_neg (by simp [h2]),if_neg (by simp [h3])];simp only [Array.append_empty]
  rfl
theorem args_sim (hG : GOk wr W) {env : List V} {a : Act} (hv : ∀ t,VR wr W own (env.getD t .un) (a.tmps.getD t undef)) {os : Array Operand} {ds : List Opd} (h : all2 chkOpd os.toList ds = true) :
    (ds.map (·.ev env)).length = (os.map a.eval).size ∧ ∀ (j : Nat) (c : V),(ds.map (·.ev env))[j]? = some c → VR wr W own c ((os.map a.eval).getD j undef) := by
  obtain ⟨h1,h2⟩ := all2_get h;refine ⟨by simp at h1 ⊢; omega,fun j c hj => ?_⟩;simp only [List.getElem?_map,Option.map_eq_some_iff] at hj;obtain ⟨d,hd,rfl⟩ := hj;have hlt : j < os.size := by have := (List.getElem?_eq_some_iff.mp hd).1; simp at h1; omega
  have ho : os.toList[j]? = some os[j] := by simp [hlt]
  have e : (os.map a.eval)[j]? = some (a.eval os[j]) := by simp [hlt]
  rw [getD_of_some e];exact opd_sim hG hv (h2 j _ d ho hd)
theorem pcall_sim {F : FT} (hF : FSim P F) {H : Heap} (s : Rd wr W own H) {g : Nat} {args : List V} {v : V} (h : pcall F H (.fn g []) args = some v) {vals : Array Value} (hl : args.length = vals.size)
    (hargs : ∀ (j : Nat) (c : V),args[j]? = some c → VR wr W own c (vals.getD j undef)) :
    FOk P g ∧ Calls P g vals W fun e w' => ∃ v',e = .returned v' ∧ Gl W w' ∧ VR wr w' own v v' := by
  simp only [pcall,Option.bind_eq_some_iff] at h;obtain ⟨us,hus,⟨r,Hc⟩,hr,hd⟩ := h;obtain ⟨hok,hsim⟩ := hF g us [] r Hc hr;refine ⟨hok,?_⟩;obtain ⟨o1,o2⟩ := omap_spec hus
  by_cases hfree : args.all (V.free deepN) = true
  · have eus : us = args.map (nz deepN) := by
      have : omap (deep false H deepN) args = some (args.map (nz deepN)) := omap_to (fun x hx => deep_free deepN (List.all_eq_true.mp hfree x hx));rw [this] at hus; cases hus; rfl
    subst eus;refine (hsim wr W own0 vals (St.nil s.wr_lt s.glob) (by simpa using hl) (fun j c hj => ?_)).mono ?_
    · simp only [List.getElem?_map,Option.map_eq_some_iff] at hj;obtain ⟨d,hd,rfl⟩ := hj;exact (VR.of_free deepN (List.all_eq_true.mp hfree d (List.mem_of_getElem? hd)) (hargs j d hd)).nz deepN
    rintro e w' ⟨v',wr',own',he,hext,hst,hvr⟩;have hgl : Gl W w' := ⟨hext.size,fun b hb => hext.same b hb (by rintro ⟨x,y,sh,N,ho⟩; simp [own0] at ho),hext.io⟩;refine ⟨v',he,hgl,?_⟩;have hd' : deep false Hc deepN r = some v := by simpa [hfree] using hd
    exact VR.mono ⟨Nat.le_refl _,fun _ _ h => h,fun _ _ _ => rfl⟩ (fun b g x h => by simp [own0] at h) (deep_sound hst.toRd (wr2 := wr) (fun b g cb sh N ho hw => by
      rcases hext.news cb ⟨_,_,_,_,ho⟩ with ⟨x,y,sh',N',h⟩ | h
      · simp [own0] at h
      · have := s.wr_lt _ hw; omega) (.inr hext.wr_le) deepN hd' hvr)
  · have hfree' : args.all (V.free deepN) = false := by simpa using hfree
    have hus2 : ∀ (j : Nat) (c : V),us[j]? = some c → VR (fun _ => False) W own0 c (vals.getD j undef) := by
      intro j c hj;have hlt : j < args.length := by rw [o1]; exact (List.getElem?_eq_some_iff.mp hj).1
      obtain ⟨b,hb,hdd⟩ := o2 j _ (List.getElem?_eq_getElem hlt);rw [hj] at hb; cases hb;exact deep_sound s (wr2 := fun _ => False) (fun _ _ _ _ _ _ h => h) (.inr (fun _ h => h.elim)) deepN hdd (hargs j _ (List.getElem?_eq_getElem hlt))
    refine (hsim (fun _ => False) W own0 vals (St.nil (fun _ h => h.elim) (s.glob.mono ⟨Nat.le_refl _,fun _ _ h => h.elim,fun _ _ _ => rfl⟩)) (by omega) hus2).mono ?_;rintro e w' ⟨v',wr',own',he,hext,hst,hvr⟩;have hgl : Gl W w' := ⟨hext.size,fun b hb => hext.same b hb (by rintro ⟨x,y,sh,N,ho⟩; simp [own0] at ho),hext.io⟩;refine ⟨v',he,hgl,?_⟩;have hd' : deep true Hc deepN r = some v := by simpa [hfree'] using hd
    exact VR.mono ⟨Nat.le_refl _,fun _ _ h => h,fun _ _ _ => rfl⟩ (fun b g x h => by simp [own0] at h) (deep_sound hst.toRd (wr2 := wr) (fun b g cb sh N ho hw => by
      rcases hext.news cb ⟨_,_,_,_,ho⟩ with ⟨x,y,sh',N',h⟩ | h
      · simp [own0] at h
      · have := s.wr_lt _ hw; omega) (.inl rfl) deepN hd' hvr)
theorem isE_sim {x : V} {x' : Value} (h : VR wr W own x x') (hx : isE x = true) : x' = .slice none 0 0 ∨ ∃ a c,x' = .slice (some a) 0 c := by
  cases h <;> simp [isE] at hx
  case nils => exact .inl rfl
  case fzn => exact .inl rfl
  case fze a c => exact .inr ⟨_,_,rfl⟩
  case fz z cv hl hw hz hc hv => rename_i xs _ _ _ _; cases xs with
    | nil => exact .inr ⟨_,_,rfl⟩
    | cons a l => simp [isE] at hx
  case sl ho hl ha hN => rename_i b g off len z ag cb sh N a cap; cases len with
    | zero => exact .inr ⟨_,_,rfl⟩
    | succ n => simp [isE] at hx
theorem clnV_spec {F : FT} {g : Nat} {v : V} (h : clnV F (.fn g []) = some v) : v = .fz [] ∧ ∀ y,(y = .nils ∨ y = .fze) → ∃ r,F g [y] [] = some r ∧ deep true r.2 deepN r.1 = some (.fz []) := by
  simp only [clnV,Option.bind_eq_some_iff] at h;obtain ⟨r,hr,q,hq,h⟩ := h
  split at h
  · rename_i h1 h2
    cases h;refine ⟨rfl,fun y hy => ?_⟩;rcases hy with rfl | rfl
    · exact ⟨r,hr,h1⟩
    · exact ⟨q,hq,h2⟩
  · cases h
theorem cln_sim {F : FT} (hF : FSim P F) {H : Heap} (s : Rd wr W own H) {g : Nat} {x v : V} (h : clnV F (.fn g []) = some v) {vals : Array Value} (hl : vals.size = 1) (hx : VR wr W own x (vals.getD 0 undef)) (hE : isE x = true) :
    FOk P g ∧ Calls P g vals W fun e w' => ∃ v',e = .returned v' ∧ Gl W w' ∧ VR wr w' own v v' := by
  obtain ⟨rfl,hs⟩ := clnV_spec h;have key : ∃ y,(y = V.nils ∨ y = V.fze) ∧ VR wr W own0 y (vals.getD 0 undef) := by
    rcases isE_sim hx hE with e | ⟨a,c,e⟩
    · rw [e]; exact ⟨.nils,.inl rfl,.nils⟩
    · rw [e]; exact ⟨.fze,.inr rfl,.fze a c⟩
  obtain ⟨y,hy,hvy⟩ := key;obtain ⟨⟨r,Hc⟩,hr,hd⟩ := hs y hy;obtain ⟨hok,hsim⟩ := hF g [y] [] r Hc hr;refine ⟨hok,?_⟩;refine (hsim wr W own0 vals (St.nil s.wr_lt s.glob) (by simp [hl]) (fun j c hj => ?_)).mono ?_
  · cases j with
    | zero => simp at hj; subst hj; exact hvy
    | succ j => simp at hj
  rintro e w' ⟨v',wr',own',he,hext,hst,hvr⟩;have hgl : Gl W w' := ⟨hext.size,fun b hb => hext.same b hb (by rintro ⟨x,y,sh,N,ho⟩; simp [own0] at ho),hext.io⟩;refine ⟨v',he,hgl,?_⟩;exact VR.mono ⟨Nat.le_refl _,fun _ _ h => h,fun _ _ _ => rfl⟩ (fun b g x h => by simp [own0] at h) (deep_sound hst.toRd (wr2 := wr) (fun b g cb sh N ho hw => by
    rcases hext.news cb ⟨_,_,_,_,ho⟩ with ⟨x,y,sh',N',h⟩ | h
    · simp [own0] at h
    · have := s.wr_lt _ hw; omega) (.inl rfl) deepN hd hvr)
theorem VR.bool_eq {b : Bool} {v : Value} (h : VR wr W own (.bool b) v) : v = .bool b := by cases h; rfl
theorem VR.fn_nil {g : Nat} {v : Value} (h : VR wr W own (.fn g []) v) : v = .func (.func g) #[] #[] := by
  cases h with
  | fn hl hv => rename_i arr; have : arr = #[] := by apply Array.eq_empty_of_size_eq_zero; rw [← hl]; rfl
                rw [this]
theorem fin_l {o : Oper} {a : Act} {v : V} {K : Act → World → Prop} {Q : Exit → Act → World → Prop} (hK : ∀ v' W',Gl W W' → VR wr W' own v v' → K (a.put o.dst v') W')
    (v' : Value) (W' : World) (h1 : (execOp a.eval o).run P W = .ok (.value v') W') (h2 : Gl W W') (h3 : VR wr W' own v v') : o.wp P a W K Q := by
  unfold Oper.wp; rw [h1]; exact hK v' W' h2 h3
theorem fin0_l {o : Oper} {a : Act} {v : V} {K : Act → World → Prop} {Q : Exit → Act → World → Prop} (hK : ∀ v' W',Gl W W' → VR wr W' own v v' → K (a.put o.dst v') W')
    (x : Sem Value) (hx : execOp a.eval o = (do pure (Next.value (← x)) : Sem Next)) (h : ∃ v',x.run P W = .ok v' W ∧ VR wr W own v v') : o.wp P a W K Q := by
  obtain ⟨v',h1,h2⟩ := h;exact fin_l hK v' W (by rw [hx]; exact run_v h1) (Gl.refl _) h2
theorem evq_sim {F : FT} (hF : FSim P F) {o : Oper} {k : Kind} (hk : chkK P o.op k = true) (hq : k.quiet = true) {H : Heap} (s : Rd wr W own H) {env : List V} {a : Act}
    (hv : ∀ t,VR wr W own (env.getD t .un) (a.tmps.getD t undef)) {v : V} (h : evq F env H k = some v) {K : Act → World → Prop} {Q : Exit → Act → World → Prop}
    (hK : ∀ v' W',Gl W W' → VR wr W' own v v' → K (a.put o.dst v') W') : o.wp P a W K Q := by
  obtain ⟨dst,op,ty,pos,after,guard⟩ := o
  dsimp only at hk
  unfold chkK at hk
  split at hk <;> (try (simp only [Kind.quiet,Bool.false_eq_true] at hq; done)) <;> (try simp only [Bool.and_eq_true,beq_iff_eq,decide_eq_true_eq] at hk)
  case h_1 x d =>
    simp only [evq,Option.some.injEq] at h; subst h;exact fin_l hK _ W rfl (Gl.refl _) (opd_sim s.glob hv hk)
  case h_2 x d =>
    simp only [evq,Option.some.injEq] at h; subst h;exact fin_l hK _ W rfl (Gl.refl _) (opd_sim s.glob hv hk)
  case h_3 =>
    have hc := opd_sim s.glob hv hk.1.1;simp only [evq] at h
    split at h
    · rename_i t ht
      rw [ht] at hc;simp only [Option.some.injEq] at h; subst h;refine fin_l hK _ W (by simp only [execOp]; rw [hc.bool_eq]; rfl) (Gl.refl _) ?_;cases t
      · exact opd_sim s.glob hv hk.2
      · exact opd_sim s.glob hv hk.1.2
    · cases h
  case h_4 =>
    obtain ⟨⟨⟨rfl,h1⟩,h2⟩,h3⟩ := hk;exact fin0_l hK _ rfl (bin_run h3 (opd_sim s.glob hv h1) (opd_sim s.glob hv h2) h)
  case h_5 =>
    obtain ⟨rfl,h1⟩ := hk;exact fin0_l hK _ rfl (un_run (opd_sim s.glob hv h1) h)
  case h_6 s0 d0 x k0 x' =>
    obtain ⟨⟨h1,h2⟩,h3⟩ := hk;have hx := opd_sim s.glob hv h1;simp only [evq] at h
    split at h
    · rename_i k1 n hn
      rw [hn] at hx;cases h;obtain ⟨ds,hds⟩ := Option.isSome_iff_exists.mp (show (P.underlying s0).isSome = true from h2)
      split at h3
      · rename_i k' hd
        rw [beq_iff_eq] at h3; subst h3;refine fin0_l hK _ rfl ⟨.int k0 (k0.wrap n),?_,.int _ _⟩;rw [hx.int_eq]
        simp [convert,run_underlying hds,run_underlying hd,Conv.intToInt]
      · cases h3
    · cases h
  case h_7 =>
    obtain ⟨⟨h1,h2⟩,h3⟩ := hk;refine fin0_l hK _ rfl (b2s_run h2 ?_ s (opd_sim s.glob hv h1) h)
    rename_i d0 _ _
    cases hd : P.underlying d0 with
    | none => simp [hd] at h3
    | some d => cases d <;> simp [hd] at h3; rfl
  case h_8 => exact fin0_l hK _ rfl (ld_run s hk.2 (opd_sim s.glob hv hk.1) h)
  case h_10 => exact fin0_l hK _ rfl (idxa_run hk.2 (opd_sim s.glob hv hk.1.1) (opd_sim s.glob hv hk.1.2) h)
  case h_11 t0 _ _ _ _ =>
    obtain ⟨⟨h1,h2⟩,h3⟩ := hk;refine fin0_l hK _ rfl (idxs_run ?_ (opd_sim s.glob hv h1) (opd_sim s.glob hv h2) h);cases hd : P.underlying t0 with
    | none => simp [hd] at h3
    | some d => cases d <;> simp [hd] at h3; rfl
  case h_12 =>
    obtain ⟨h1,h2⟩ := hk
    split at h2
    · rename_i fl hfl
      simp only [Bool.and_eq_true,beq_iff_eq] at h2;obtain ⟨rfl,h3⟩ := h2;exact fin0_l hK _ rfl (fld_run hfl h3 (opd_sim s.glob hv h1) h)
    · cases h2
  case h_13 =>
    obtain ⟨h1,h2⟩ := hk
    split at h2
    · rename_i fl hfl
      simp only [Bool.and_eq_true,beq_iff_eq,bne_iff_ne] at h2;obtain ⟨⟨rfl,h3⟩,h4⟩ := h2;exact fin0_l hK _ rfl (flda_run hfl h3 h4 (opd_sim s.glob hv h1) h)
    · cases h2
  case h_14 t0 x x' fr =>
    cases fr with
    | false => simp [Kind.quiet] at hq
    | true =>
      simp only [evq] at h
      split at h
      · rename_i hb
        simp only [Bool.and_eq_true] at hb;cases h;obtain ⟨r1,r2⟩ := boxfr_run (P := P) (t := t0) s.wr_lt (opd_sim s.glob hv hk) hb.1 hb.2;exact fin_l hK _ _ (run_v r1) (Gl.alloc _ _) r2
      · cases h
  case h_15 t0 x x' =>
    simp only [evq] at h
    split at h
    · rename_i hb
      cases h;obtain ⟨r1,r2⟩ := boxr_run (P := P) (t := t0) s.wr_lt (opd_sim s.glob hv hk) hb;exact fin_l hK _ _ (run_v r1) (Gl.alloc _ _) r2
    · cases h
  case h_17 =>
    obtain ⟨h1,h2⟩ := hk
    split at h2
    · rename_i fs hfs
      simp only [Bool.and_eq_true] at h2;exact fin0_l hK _ rfl (bld_run h1 hfs h2.1 h2.2 s.glob hv h)
    · rename_i hfs
      split at h2
      · rename_i hsz
        exact fin0_l hK _ rfl (bldA_run h1 hfs hsz h2 s.glob hv h)
      · cases h2
    · cases h2
  case h_18 t0 n parts z ag n' zero ps fr =>
    cases fr with
    | false => simp [Kind.quiet] at hq
    | true =>
      obtain ⟨⟨⟨⟨rfl,h1⟩,h2⟩,h3⟩,h4⟩ := hk;simp only [evq,Option.map_eq_some_iff] at h;obtain ⟨⟨r,Hr⟩,hr,rfl⟩ := h;obtain ⟨v',W',q1,q2,_⟩ := bsl_run (H := []) (P := P) h1 h2 h3 h4 hv (Rd.nil s.wr_lt s.glob) (fun h => by cases h) hr;obtain ⟨q3,q4,_⟩ := q2 rfl;exact fin_l hK _ _ (run_v q1) q3 q4
  case h_20 =>
    obtain ⟨⟨⟨⟨h1,h2⟩,h3⟩,h4⟩,h5⟩ := hk
    rename_i t0 x0 lo0 hi0 mx0 x' lo' hi' z'
    cases mx0 with
    | some _ => simp at h4
    | none =>
      have ho : ∀ (o : Option Operand) (d : Option Opd),chkOpt o d = true → OptR wr W own (d.map (·.ev env)) (o.map a.eval) := by
        intro o d hod;cases o <;> cases d <;> simp [chkOpt] at hod
        · trivial
        · exact opd_sim s.glob hv hod
      exact fin0_l hK _ rfl (slc_run h5 (opd_sim s.glob hv h1) (ho _ _ h2) (ho _ _ h3) h)
  case h_22 c s0 x0 =>
    obtain ⟨h1,h2⟩ := hk
    split at h1
    · rename_i hc
      split at h2
      · rename_i x' t' ha hat
        simp only [Bool.and_eq_true] at h2;have e1 : c.args = #[x'] := by rw [← Array.toList_inj,ha]
        have e2 : c.argTypes = #[t'] := by rw [← Array.toList_inj,hat]
        refine fin0_l hK (Builtin.len_ #[t'] ty #[a.eval x']) ?_ (len_run h2.2 (opd_sim s.glob hv h2.1) h);simp only [execOp,resolve,hc,e1,e2,pure_bind,invoke,builtin,List.map_toArray,List.map_cons,List.map_nil]
      · cases h2
    · cases h1
  case h_23 c hp f args =>
    cases hp with
    | true => simp [Kind.quiet] at hq
    | false =>
      obtain ⟨h1,h2⟩ := hk
      split at h1
      · rename_i f' hc
        have hf := opd_sim s.glob hv h1;simp only [evq] at h;have hgf : ∃ g,f.ev env = .fn g [] := by
          unfold pcall at h; split at h
          · rename_i g _; exact ⟨g,by assumption⟩
          · cases h
        obtain ⟨g,hgf⟩ := hgf;rw [hgf] at h hf;obtain ⟨a1,a2⟩ := args_sim s.glob hv h2;obtain ⟨hok,hcl⟩ := pcall_sim hF s h a1 a2;have hfe := hf.fn_nil;unfold Oper.wp;have hr := call_run (P := P) (c := c) (ty := ty) (W := W) hc hfe hok;rw [show (execOp a.eval ⟨dst,.call c,ty,pos,after,guard⟩) = (do let d ← resolve a.eval c ty; invoke d.target d.args) from rfl,hr,Oper.upon_enter];simp only [Array.append_empty];refine hcl.mono ?_;rintro e w' ⟨v',rfl,g1,g2⟩;exact hK v' w' g1 g2
      · cases h1
  case h_24 =>
    obtain ⟨h1,rfl⟩ := hk;exact fin0_l hK _ rfl (ext_run (opd_sim s.glob hv h1) h)
  case h_25 =>
    have hx := opd_sim s.glob hv hk;simp only [evq] at h;unfold nchkV at h
    split at h
    · rename_i hp
      rw [hp] at hx;cases h
      generalize ha : a.eval _ = w at hx
      cases hx with
      | ptr ho => exact fin_l hK _ W (by simp only [execOp,ha]; rfl) (Gl.refl _) (.ptr ho)
    · rename_i hp
      rw [hp] at hx;cases h
      generalize ha : a.eval _ = w at hx
      cases hx with
      | fp cv hw hlt hc hvv => exact fin_l hK _ W (by simp only [execOp,ha]; rfl) (Gl.refl _) (.fp cv hw hlt hc hvv)
    · rename_i hp
      rw [hp] at hx;cases h
      generalize ha : a.eval _ = w at hx
      cases hx with
      | fn hl hvv => exact fin_l hK _ W (by simp only [execOp,ha]; rfl) (Gl.refl _) (.fn hl hvv)
    · cases h
  case h_26 f0 first caps f' caps' =>
    obtain ⟨⟨rfl,h1⟩,h2⟩ := hk;simp only [evq,Option.some.injEq] at h; subst h;obtain ⟨a1,a2⟩ := args_sim s.glob hv h2;have hfe : first = #[] := by simpa using h1
    subst hfe;exact fin0_l hK _ rfl ⟨.func (.func f0) #[] (caps.map a.eval),by simp [Instr.makeFunc],.fn a1 a2⟩
  case h_27 t0 x0 t' x' =>
    obtain ⟨⟨rfl,h1⟩,h2⟩ := hk;simp only [evq,Option.some.injEq] at h; subst h;refine fin0_l hK _ rfl ⟨.iface t0 (a.eval x0),?_,.ifc (opd_sim s.glob hv h1)⟩
    split at h2
    · cases h2
    · rename_i d hne hd
      simp only [Instr.makeInterface,Sem.run_bind,run_underlying hd,Result.andThen_ok];cases d <;> first | rfl | exact absurd hd (hne _)
    · cases h2
  case h_28 op t0 x y _ op' x' y' =>
    obtain ⟨⟨rfl,h1⟩,h2⟩ := hk;simp only [evq] at h;obtain ⟨v',W',q1,q2,q3⟩ := fbin_run (P := P) (t := t0) (xo := x) (yo := y) (opd_sim s.glob hv h1) (opd_sim s.glob hv h2) h;exact fin_l hK v' W' (run_v q1) q2 q3
  case h_29 op t0 x x' =>
    obtain ⟨rfl,h1⟩ := hk;exact fin0_l hK _ rfl (fneg_run (opd_sim s.glob hv h1) h)
  case h_30 s0 d0 x x' =>
    obtain ⟨⟨h1,h2⟩,h3⟩ := hk;refine fin0_l hK _ rfl (i2f_run h2 ?_ (opd_sim s.glob hv h1) h);cases hd : P.underlying d0 with
    | none => simp [hd] at h3
    | some d => cases d <;> simp [hd] at h3; rename_i kk; cases kk <;> simp at h3; rfl
  case h_31 s0 d0 x k0 x' =>
    obtain ⟨⟨h1,h2⟩,h3⟩ := hk
    split at h3
    · rename_i k' hd
      rw [beq_iff_eq] at h3; subst h3;exact fin0_l hK _ rfl (f2i_run h2 hd (opd_sim s.glob hv h1) h)
    · cases h3
  case h_32 c e x0 =>
    obtain ⟨h1,h2⟩ := hk
    split at h1
    · rename_i f0 hc
      split at h2
      · rename_i x' ha
        have e1 : c.args = #[x'] := by rw [← Array.toList_inj,ha]
        simp only [evq] at h;obtain ⟨v',W',q1,q2,q3⟩ := xc_run (P := P) (opd_sim s.glob hv h2) h;refine fin_l hK v' W' ?_ q2 q3;exact xcall_run (P := P) (ty := ty) hc h1 e1 q1
      · cases h2
    · cases h1
  case h_33 op t0 x y _ ne sig x' y' =>
    obtain ⟨⟨⟨⟨⟨⟨rfl,h1⟩,h2⟩,h3⟩,h4⟩,h5⟩,h6⟩ := hk;simp only [Bool.not_eq_true'] at h3 h4;exact fin0_l hK _ rfl (eqs_run h5 h4 h6 (opd_sim s.glob hv h1) (opd_sim s.glob hv h2) h)
  case h_34 f0 first caps f' first' =>
    obtain ⟨⟨rfl,h1⟩,h2⟩ := hk;simp only [evq,Option.some.injEq] at h; subst h;obtain ⟨a1,a2⟩ := args_sim s.glob hv h2;have hfe : caps = #[] := by simpa using h1
    subst hfe;exact fin0_l hK _ rfl ⟨.func (.func f0) (first.map a.eval) #[],by simp [Instr.makeFunc],.bm a1 a2⟩
  case h_35 c x0 y0 =>
    obtain ⟨h1,h2⟩ := hk
    split at h1
    · rename_i f0 hc
      split at h2
      · rename_i x' y' ha
        have e1 : c.args = #[x',y'] := by rw [← Array.toList_inj,ha]
        simp only [Bool.and_eq_true] at h2;simp only [evq] at h;obtain ⟨v',q1,q3⟩ := ixb_run (P := P) (opd_sim s.glob hv h2.1) (opd_sim s.glob hv h2.2) h;refine fin_l hK v' W ?_ (Gl.refl _) q3;exact ixb_call (P := P) (ty := ty) hc h1 e1 q1
      · cases h2
    · cases h1
  case h_36 t0 _ _ _ _ _ _ _ =>
    obtain ⟨⟨h1,h2⟩,h3⟩ := hk
    split at h3
    · rename_i hu
      simp only [Bool.and_eq_true,beq_iff_eq] at h3;obtain ⟨⟨rfl,h4⟩,h5⟩ := h3;exact fin0_l hK _ rfl (idxg_run hu h4 h5 (opd_sim s.glob hv h1) (opd_sim s.glob hv h2) h)
    · cases h3
  case h_37 t0 _ _ _ _ _ _ _ =>
    obtain ⟨⟨h1,h2⟩,h3⟩ := hk
    split at h3
    · rename_i hu
      simp only [Bool.and_eq_true,beq_iff_eq] at h3;obtain ⟨⟨rfl,h4⟩,h5⟩ := h3;exact fin0_l hK _ rfl (idxp_run hu h4 h5 (opd_sim s.glob hv h1) (opd_sim s.glob hv h2) h)
    · cases h3
  case h_38 c mx x y =>
    obtain ⟨h1,h2⟩ := hk
    split at h1
    · rename_i b hc
      split at h2
      · rename_i x' y' ha
        have e1 : c.args = #[x',y'] := by rw [← Array.toList_inj,ha]
        simp only [Bool.and_eq_true] at h2;simp only [evq] at h;have hb := eq_of_beq h1;subst hb;obtain ⟨v',q1,q3⟩ := mnx_run (P := P) (W := W) (own := own) (ts := c.argTypes) (ty := ty) (opd_sim s.glob hv h2.1) (opd_sim s.glob hv h2.2) h;refine fin0_l hK (if mx then Builtin.max_ c.argTypes ty #[a.eval x',a.eval y'] else Builtin.min_ c.argTypes ty #[a.eval x',a.eval y']) ?_ ⟨v',q1,q3⟩;cases mx <;> simp only [execOp,resolve,hc,e1,pure_bind,invoke,builtin,List.map_toArray,List.map_cons,List.map_nil,if_true,Bool.false_eq_true,if_false]
      · cases h2
    · cases h1
  case h_39 c hp f x =>
    cases hp with
    | true => simp [Kind.quiet] at hq
    | false =>
      obtain ⟨h1,h2⟩ := hk
      split at h1
      · rename_i f' hc
        have hf := opd_sim s.glob hv h1;simp only [evq] at h;obtain ⟨a1,a2⟩ := args_sim s.glob hv h2;have hgf : ∃ g,f.ev env = .fn g [] := by
          split at h
          · unfold clnV at h; split at h
            · rename_i g _; exact ⟨g,by assumption⟩
            · cases h
          · unfold pcall at h; split at h
            · rename_i g _; exact ⟨g,by assumption⟩
            · cases h
        obtain ⟨g,hgf⟩ := hgf;rw [hgf] at h hf;have hcl : FOk P g ∧ Calls P g (c.args.map a.eval) W fun e w' => ∃ v',e = .returned v' ∧ Gl W w' ∧ VR wr w' own v v' := by
          split at h
          · rename_i hE
            exact cln_sim hF s h (by simp at a1; simp [← a1]) (a2 0 _ rfl) hE
          · exact pcall_sim hF s h a1 a2
        obtain ⟨hok,hcl⟩ := hcl;have hfe := hf.fn_nil;unfold Oper.wp;have hr := call_run (P := P) (c := c) (ty := ty) (W := W) hc hfe hok;rw [show (execOp a.eval ⟨dst,.call c,ty,pos,after,guard⟩) = (do let d ← resolve a.eval c ty; invoke d.target d.args) from rfl,hr,Oper.upon_enter];simp only [Array.append_empty];refine hcl.mono ?_;rintro e w' ⟨v',rfl,g1,g2⟩;exact hK v' w' g1 g2
      · cases h1
  case h_41 t0 m0 k0 ok0 m1 k1 zero ok1 =>
    obtain ⟨⟨⟨h1,h2⟩,rfl⟩,h3⟩ := hk
    split at h3
    · rename_i kt et hu
      split at h3
      · rename_i q z hk2 hz
        exact fin0_l hK _ rfl (mget_run s hu hk2 hz h3 (opd_sim s.glob hv h1) (opd_sim s.glob hv h2) h)
      · cases h3
    · cases h3
  case h_45 c m0 =>
    obtain ⟨h1,h2⟩ := hk
    split at h1
    · rename_i hc
      split at h2
      · rename_i x' t' ha hat
        simp only [Bool.and_eq_true] at h2;have e1 : c.args = #[x'] := by rw [← Array.toList_inj,ha]
        have e2 : c.argTypes = #[t'] := by rw [← Array.toList_inj,hat]
        refine fin0_l hK (Builtin.len_ #[t'] ty #[a.eval x']) ?_ (mlen_run s h2.2 (opd_sim s.glob hv h2.1) h);simp only [execOp,resolve,hc,e1,e2,pure_bind,invoke,builtin,List.map_toArray,List.map_cons,List.map_nil]
      · cases h2
    · cases h1
  case h_46 t0 x0 lo0 hi0 mx0 x1 lo1 hi1 n1 z1 ag1 =>
    obtain ⟨⟨⟨⟨h1,h2⟩,h3⟩,h4⟩,h5⟩ := hk;cases mx0 with
    | some _ => simp at h4
    | none =>
      have ho : ∀ (o : Option Operand) (d : Option Opd),chkOpt o d = true → OptR wr W own (d.map (·.ev env)) (o.map a.eval) := by
        intro o d hod;cases o <;> cases d <;> simp [chkOpt] at hod
        · trivial
        · exact opd_sim s.glob hv hod
      split at h5
      · rename_i l e hu
        simp only [Bool.and_eq_true,beq_iff_eq] at h5;obtain ⟨rfl,h5⟩ := h5;exact fin0_l hK _ rfl (slca_run s hu h5 (opd_sim s.glob hv h1) (ho _ _ h2) (ho _ _ h3) h)
      · cases h5
  case h_47 => simp [evq] at h
  case h_49 => cases hk
end
end Go.Eng
