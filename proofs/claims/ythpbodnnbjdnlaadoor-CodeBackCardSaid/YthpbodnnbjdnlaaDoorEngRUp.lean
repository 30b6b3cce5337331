/- Functions of this seat, run on unknown values by the rules of the small machine (no condition beyond those stated). -/
import Derived.Test.YthpbodnnbjdnlaaDoorEngNUp
import GoSem.ClaimChange
import Derived.Below
import Derived.Carry
import Derived.SizedLaws
import Derived.Test.YthpbodnnbjdnlaaDoorEngTUp
import Derived.Test.YthpbodnnbjdnlaaDoorCopIr
import Derived.Test.YthpbodnnbjdnlaaDoorCopCUp
import Derived.Lib.LaidTab
import GoSem.ClaimJoined
set_option linter.unusedSectionVars false
namespace Go.Eng
open Go
set_option linter.unusedSectionVars false
set_option linter.unusedVariables false
set_option linter.unusedSimpArgs false
variable [Glob]
variable [Xtn]
mutual
def bulkD {H : Type} : DataW H → Nat
  | .lit (.string bytes) => bytes.length + 1
  | .lit _ => 1
  | .nil => 1
  | .ptr d => bulkD d + 1
  | .slice elems spare => bulkDs elems + bulkDs spare + 1
  | .agg parts => bulkDs parts + 1
  | .iface _ d => bulkD d + 1
  | .map _ => 1
  | .held _ => 1
def bulkDs {H : Type} : List (DataW H) → Nat
  | [] => 0
  | d :: r => bulkD d + bulkDs r
end
theorem bulkD_pos {H : Type} (d : DataW H) : 1 ≤ bulkD d := by
  cases d with
  | lit l => cases l <;> simp [bulkD]
  | nil => simp [bulkD]
  | ptr d => simp [bulkD]
  | slice a b => simp [bulkD]
  | agg a => simp [bulkD]
  | iface t d => simp [bulkD]
  | map e => simp [bulkD]
  | held h => simp [bulkD]
theorem bulkDs_len {H : Type} : ∀ (l : List (DataW H)),l.length ≤ bulkDs l
  | [] => Nat.zero_le _
  | d :: r => by have := bulkDs_len r; have := bulkD_pos d; simp only [bulkDs,List.length_cons]; omega
theorem bulkDs_mem {H : Type} : ∀ (l : List (DataW H)) (d : DataW H),d ∈ l → bulkD d ≤ bulkDs l
  | [],d,h => by simp at h
  | x :: r,d,h => by
    simp only [bulkDs];rcases List.mem_cons.mp h with rfl | h
    · omega
    · have := bulkDs_mem r d h; omega
def mkV (ag : Bool) (us : List V) : V := if ag then .ag us else us.headD .un
def scal : Value → V
  | .bool b => .bool b
  | .int k n => .int k n
  | .string s => .str s
  | .float .f64 b => .fl (some b)
  | _ => .un
def cellsAt (W : World) (a : Addr) (n : Nat) : List Value := (List.range n).map fun j => (W.cell? (a.add j)).getD undef
def absL (P : Program) (W : World) : Nat → TypeId → List Value → List V
  | 0,_,cs => cs.map fun _ => .un
  | n + 1,t,cs => match P.underlying t with
    | some .bool | some (.int _) | some (.float .f64) | some .string => cs.map scal
    | some (.slice e) => match cs with
      | [.slice (some a) len _] => [.fz ((List.range len).map fun i => mkV (agOf P e) (absL P W n e (cellsAt W (a.add (i * P.cellsOf e)) (P.cellsOf e))))]
      | [.slice none 0 0] => [.fz []]
      | cs => cs.map fun _ => .un
    | some (.struct fs) => fs.toList.flatMap fun f => absL P W n f.type ((cs.drop f.offset).take (P.cellsOf f.type))
    | some (.array m e) => (List.range' 0 m).flatMap fun i => absL P W n e ((cs.drop (i * P.cellsOf e)).take (P.cellsOf e))
    | _ => cs.map fun _ => .un
def WfT (P : Program) (B : Nat) : Nat → TypeId → List V → Prop
  | 0,_,_ => False
  | n + 1,t,us => match P.underlying t with
    | some .bool => ∃ b,us = [.bool b]
    | some (.int k) => ∃ m,us = [.int k m] ∧ k.min ≤ m ∧ m ≤ k.max
    | some (.float .f64) => ∃ b : Nat,us = [.fl (some b)] ∧ b < 18446744073709551616
    | some .string => ∃ s,us = [.str s] ∧ s.size ≤ min B 140737488355328
    | some (.slice e) => ∃ xs,us = [.fz xs] ∧ xs.length ≤ min B 140737488355328 ∧ ∀ x ∈ xs,x.isAg = agOf P e ∧ x.cells.length = P.cellsOf e ∧ WfT P B n e x.cells
    | some (.struct fs) => us.length = P.cellsOf t ∧ ∀ f ∈ fs.toList,WfT P B n f.type ((us.drop f.offset).take (P.cellsOf f.type))
    | some (.array m e) => us.length = m * P.cellsOf e ∧ ∀ i,i < m → WfT P B n e ((us.drop (i * P.cellsOf e)).take (P.cellsOf e))
    | _ => True
def flatOk (P : Program) : Nat → List Field → Option Nat
  | o,[] => some o
  | o,f :: r => if f.offset = o then flatOk P (o + P.cellsOf f.type) r else none
def allFlat (P : Program) : Bool := (List.range P.types.size).all fun t => match P.underlying t with
  | some (.struct fs) => flatOk P 0 fs.toList == some (P.cellsOf t) && fs.toList.all (fun f => decide (f.type < P.types.size))
  | some (.array m e) => decide (P.cellsOf t = m * P.cellsOf e) && decide (e < P.types.size)
  | some (.slice e) => (agOf P e || (P.cellsOf e == 1)) && decide (0 < P.cellsOf e) && decide (e < P.types.size) && decide (0 < P.bytesOf e)
  | _ => true
section
variable {P : Program} {W : World} {H : Type} {enc : TypeId × Value → H} {spare : Nat → Bool}
theorem opt_mapM_spec {α β : Type} {f : α → Option β} : ∀ {l : List α} {r : List β},l.mapM f = some r → l.length = r.length ∧ ∀ (j : Nat) a,l[j]? = some a → ∃ b,r[j]? = some b ∧ f a = some b
  | [],r,h => by simp at h; subst h; exact ⟨rfl,fun j a h => by simp at h⟩
  | a :: l,r,h => by
    rw [List.mapM_cons] at h;simp only [bind,Option.bind_eq_some_iff,pure,Option.some.injEq] at h;obtain ⟨b,hb,r',hr,rfl⟩ := h;obtain ⟨h1,h2⟩ := opt_mapM_spec hr;refine ⟨by simp [h1],fun j x hx => ?_⟩;cases j with
    | zero => simp at hx; subst hx; exact ⟨b,by simp,hb⟩
    | succ j => simpa using h2 j x (by simpa using hx)
theorem cells?_spec {base : Nat} {a : Addr} {n : Nat} {cs : List Value} (h : W.cells? base a n = some cs) : cs = cellsAt W a n ∧ ∀ j,j < n → W.cell? (a.add j) = some (cs.getD j undef) := by
  unfold World.cells? at h
  split at h
  · obtain ⟨h1,h2⟩ := opt_mapM_spec h
    simp at h1
    have key : ∀ j,j < n → W.cell? (a.add j) = some (cs.getD j undef) := by
      intro j hj;obtain ⟨b,hb,hf⟩ := h2 j j (by simp [hj]);rw [hf]; simp [List.getD,hb]
    refine ⟨?_,key⟩;apply List.ext_getElem?;intro j;rcases Nat.lt_or_ge j n with hj | hj
    · have hk := key j hj
      simp [cellsAt,hj,hk,List.getD]
      have : j < cs.length := by omega
      simp [this]
    · rw [List.getElem?_eq_none (by omega),List.getElem?_eq_none (by simp [cellsAt]; omega)]
  · cases h
theorem mkV_cells {ag : Bool} {us : List V} (h : ag = true ∨ us.length = 1) (hc : ag = false → ∀ u ∈ us,u.isAg = false) : (mkV ag us).cells = us ∧ (mkV ag us).isAg = ag := by
  cases ag with
  | true => exact ⟨rfl,rfl⟩
  | false =>
    have hl := h.resolve_left (by simp)
    match us,hl with
    | [u],_ =>
      have := hc rfl u (by simp);refine ⟨?_,this⟩;show u.cells = [u];cases u <;> simp_all [V.isAg,V.cells]
theorem absL_noAg : ∀ (n : Nat) (t : TypeId) (cs : List Value),∀ u ∈ absL P W n t cs,u.isAg = false
  | 0,t,cs,u,h => by simp [absL] at h; obtain ⟨_,_,rfl⟩ := h; rfl
  | n + 1,t,cs,u,h => by
    have scal_no : ∀ v : Value,(scal v).isAg = false := fun v => by
      cases v with
      | float k b => cases k <;> rfl
      | _ => rfl
    have un_no : ∀ (l : List Value),u ∈ l.map (fun _ => V.un) → u.isAg = false := fun l h => by
      simp at h; obtain ⟨_,_,rfl⟩ := h; rfl
    unfold absL at h
    split at h
    · obtain ⟨v,_,rfl⟩ := List.mem_map.mp h; exact scal_no v
    · obtain ⟨v,_,rfl⟩ := List.mem_map.mp h; exact scal_no v
    · obtain ⟨v,_,rfl⟩ := List.mem_map.mp h; exact scal_no v
    · obtain ⟨v,_,rfl⟩ := List.mem_map.mp h; exact scal_no v
    · split at h
      · simp at h; subst h; rfl
      · simp at h; subst h; rfl
      · exact un_no _ h
    · obtain ⟨f,_,hf⟩ := List.mem_flatMap.mp h;exact absL_noAg n _ _ u hf
    · obtain ⟨f,_,hf⟩ := List.mem_flatMap.mp h;exact absL_noAg n _ _ u hf
    · exact un_no _ h
theorem arr_spec {g : Nat → List V} {cs : List Value} {R : V → Value → Prop} {z : Nat} : ∀ (k a : Nat),
    (∀ i,a ≤ i → i < a + k → (g i).length = z ∧ ∀ j c,(g i)[j]? = some c → R c (cs.getD (i * z + j) undef)) →
    ((List.range' a k).flatMap g).length = k * z ∧ (∀ j c,((List.range' a k).flatMap g)[j]? = some c → R c (cs.getD (a * z + j) undef)) ∧ ∀ i,a ≤ i → i < a + k → (((List.range' a k).flatMap g).drop ((i - a) * z)).take z = g i
  | 0,a,hg => ⟨by simp,fun j c h => by simp at h,fun i h1 h2 => by omega⟩
  | k + 1,a,hg => by
    obtain ⟨i1,i2,i3⟩ := arr_spec (g := g) (cs := cs) (R := R) (z := z) k (a + 1) (fun i h1 h2 => hg i (by omega) (by omega));obtain ⟨g1,g2⟩ := hg a (Nat.le_refl a) (by omega);rw [List.range'_succ,List.flatMap_cons];refine ⟨by rw [List.length_append,g1,i1,Nat.add_mul]; omega,fun j c hj => ?_,fun i h1 h2 => ?_⟩
    · rcases Nat.lt_or_ge j (g a).length with hlt | hge
      · rw [List.getElem?_append_left hlt] at hj;exact g2 j c hj
      · rw [List.getElem?_append_right hge] at hj;have := i2 _ c hj
        rwa [show (a + 1) * z + (j - (g a).length) = a * z + j by rw [Nat.add_mul]; omega] at this
    · by_cases hi : i = a
      · subst hi;rw [Nat.sub_self,Nat.zero_mul,List.drop_zero,List.take_append_of_le_length (by omega),List.take_of_length_le (by omega)]
      · have h3 := i3 i (by omega) (by omega);have e : (i - a) * z = z + (i - (a + 1)) * z := by
          have : i - a = 1 + (i - (a + 1)) := by omega
          rw [this,Nat.add_mul,Nat.one_mul]
        rw [e,← List.drop_drop,← g1,List.drop_left,g1];exact h3
theorem seg_spec {g : Field → List V} {cs : List Value} {R : V → Value → Prop} : ∀ (fs : List Field) (o m : Nat),flatOk P o fs = some m → m ≤ cs.length →
    (∀ f ∈ fs,(g f).length = P.cellsOf f.type ∧ ∀ j c,(g f)[j]? = some c → R c (cs.getD (f.offset + j) undef)) →
    o ≤ m ∧ (fs.flatMap g).length = m - o ∧ (∀ j c,(fs.flatMap g)[j]? = some c → R c (cs.getD (o + j) undef)) ∧ ∀ f ∈ fs,o ≤ f.offset ∧ ((fs.flatMap g).drop (f.offset - o)).take (P.cellsOf f.type) = g f
  | [],o,m,h,_,_ => by
    simp only [flatOk,Option.some.injEq] at h; subst h;exact ⟨Nat.le_refl _,by simp,fun j c h => by simp at h,fun f h => by simp at h⟩
  | f :: r,o,m,h,hm,hg => by
    simp only [flatOk] at h
    split at h
    · rename_i ho
      obtain ⟨i0,i1,i2,i3⟩ := seg_spec (g := g) (R := R) r _ m h hm (fun f' hf' => hg f' (by simp [hf']));obtain ⟨g1,g2⟩ := hg f (by simp);refine ⟨by omega,by rw [List.flatMap_cons,List.length_append,g1,i1]; omega,fun j c hj => ?_,fun f' hf' => ?_⟩
      · rw [List.flatMap_cons] at hj;rcases Nat.lt_or_ge j (g f).length with hlt | hge
        · rw [List.getElem?_append_left hlt] at hj;have := g2 j c hj
          rwa [ho] at this
        · rw [List.getElem?_append_right hge] at hj;have := i2 _ c hj
          rwa [show o + P.cellsOf f.type + (j - (g f).length) = o + j by omega] at this
      · rcases List.mem_cons.mp hf' with rfl | hf'
        · refine ⟨by omega,?_⟩;rw [ho,Nat.sub_self,List.drop_zero,List.flatMap_cons,List.take_append_of_le_length (by omega),List.take_of_length_le (by omega)]
        · obtain ⟨j1,j2⟩ := i3 f' hf';refine ⟨by omega,?_⟩;rw [List.flatMap_cons,List.drop_append,List.drop_of_length_le (by omega),List.nil_append,g1];rw [show f'.offset - o - P.cellsOf f.type = f'.offset - (o + P.cellsOf f.type) by omega]; exact j2
    · cases h
theorem allFlat_struct (hf : allFlat P = true) {t : TypeId} {fs : Array Field} (h : P.underlying t = some (.struct fs)) (ht : t < P.types.size) :
    flatOk P 0 fs.toList = some (P.cellsOf t) ∧ ∀ f ∈ fs.toList,f.type < P.types.size := by
  have := List.all_eq_true.mp hf t (List.mem_range.mpr ht);rw [h] at this;simp only [Bool.and_eq_true,beq_iff_eq,List.all_eq_true,decide_eq_true_eq] at this;exact this
theorem allFlat_slice (hf : allFlat P = true) {t e : TypeId} (h : P.underlying t = some (.slice e)) (ht : t < P.types.size) : (((agOf P e = true ∨ P.cellsOf e = 1) ∧ 0 < P.cellsOf e) ∧ e < P.types.size) ∧ 0 < P.bytesOf e := by
  have := List.all_eq_true.mp hf t (List.mem_range.mpr ht);rw [h] at this;simp only [Bool.and_eq_true,Bool.or_eq_true,beq_iff_eq,decide_eq_true_eq] at this;exact this
theorem allFlat_array (hf : allFlat P = true) {t m e : Nat} (h : P.underlying t = some (.array m e)) (ht : t < P.types.size) : P.cellsOf t = m * P.cellsOf e ∧ e < P.types.size := by
  have := List.all_eq_true.mp hf t (List.mem_range.mpr ht);rw [h] at this;simp only [Bool.and_eq_true,decide_eq_true_eq] at this;exact this
abbrev VR0 (W : World) : V → Value → Prop := VR (fun _ => False) W own0
theorem un_rel (l : List Value) : ∀ (j : Nat) (c : V),(l.map fun _ => V.un)[j]? = some c → VR0 W c (l.getD j undef) := by
  intro j c hj;simp only [List.getElem?_map,Option.map_eq_some_iff] at hj;obtain ⟨_,_,rfl⟩ := hj;exact .un _
theorem weights_mem_all {e : TypeId} : ∀ {l : List (DataW H)} {d : DataW H},d ∈ l → ∀ n ∈ d.weights P e,n ∈ DataW.weightsAll P e l
  | d0 :: l,d,hd,n,hn => by
    simp only [DataW.weightsAll,List.mem_append];rcases List.mem_cons.mp hd with rfl | hd
    · exact .inl hn
    · exact .inr (weights_mem_all hd n hn)
theorem trod_V (hf : allFlat P = true) {B : Nat} : ∀ (n : Nat) (t : TypeId) (cs : List Value) (d : DataW H) (ps : List MemPlace),t < P.types.size →
    DataW.trod enc P W 0 spare true n t cs = some (d,ps) → bulkD d ≤ B → (∀ x ∈ d.weights P t,x ≤ reachBytes) →
    (absL P W n t cs).length = cs.length ∧ (∀ j c,(absL P W n t cs)[j]? = some c → VR0 W c (cs.getD j undef)) ∧ WfT P B n t (absL P W n t cs)
  | 0,t,cs,d,ps,_,h,_,_ => by simp [DataW.trod] at h
  | n + 1,t,cs,d,ps,ht,h,hB,hwt => by
    unfold DataW.trod at h;unfold absL WfT
    split at h
    · rename_i b hu
      rw [hu];refine ⟨rfl,fun j c hj => ?_,b,rfl⟩;cases j with
      | zero => simp [scal] at hj; subst hj; exact .bool b
      | succ j => simp at hj
    · rename_i k k' m hu
      rw [hu]
      split at h
      · rename_i hk
        obtain ⟨rfl,hwf⟩ := hk;simp only [Lit.wf,Bool.and_eq_true,decide_eq_true_eq] at hwf;refine ⟨rfl,fun j c hj => ?_,m,rfl,hwf.1,hwf.2⟩;cases j with
        | zero => simp [scal] at hj; subst hj; exact .int _ m
        | succ j => simp at hj
      · cases h
    · rename_i k k' m hu
      rw [hu]
      split at h
      · rename_i hk
        obtain ⟨rfl,hwf⟩ := hk;cases k' with
        | f32 => exact ⟨rfl,un_rel _,trivial⟩
        | f64 =>
          refine ⟨rfl,fun j c hj => ?_,m,rfl,by simpa [Lit.wf] using hwf⟩;cases j with
          | zero => simp [scal] at hj; subst hj; exact .flt m
          | succ j => simp at hj
      · cases h
    · rename_i s hu
      rw [hu]
      split at h
      · cases h;refine ⟨rfl,fun j c hj => ?_,s,rfl,?_⟩
        · cases j with
          | zero => simp [scal] at hj; subst hj; exact .str s
          | succ j => simp at hj
        · simp only [bulkD,Array.length_toList] at hB;have : s.size = s.data.size := rfl;have hw1 := hwt _ (by simp only [DataW.weights]; exact List.mem_singleton.2 rfl);have hw3 : reachBytes < 140737488355328 := by decide
          simp only [Array.length_toList] at hw1
          omega
      · cases h
    · rename_i hu; rw [hu]; exact ⟨rfl,un_rel _,trivial⟩
    · rename_i hu; rw [hu]; exact ⟨by simp,un_rel _,trivial⟩
    · rename_i hu
      rw [hu];refine ⟨rfl,fun j c hj => ?_,[],rfl,Nat.zero_le _,fun x hx => by simp at hx⟩;cases j with
      | zero => simp at hj; subst hj; exact .fzn
      | succ j => simp at hj
    · rename_i e a len cap hu
      rw [hu]
      dsimp only at h
      obtain ⟨⟨⟨hag,hz0⟩,het⟩,hby⟩ := allFlat_slice hf hu ht
      split at h
      · rename_i hcond
        simp only [Option.bind_eq_some_iff,Option.map_eq_some_iff] at h;obtain ⟨elems,hel,rest,hrest,he⟩ := h;cases he;obtain ⟨l1,l2⟩ := opt_mapM_spec hel;simp only [List.length_range] at l1;have hBs : bulkDs (elems.map (·.1)) ≤ B := by simp only [bulkD] at hB; omega
        have hlenB : len ≤ B := by have := bulkDs_len (elems.map (·.1)); simp at this; omega
        have hlenW : len ≤ 140737488355328 := by
          have h1 := hwt ((elems.length + rest.length) * P.bytesOf e) (by simp [DataW.weights,hu]);have h2 : elems.length + rest.length ≤ (elems.length + rest.length) * P.bytesOf e := Nat.le_mul_of_pos_right _ hby;have h3 : reachBytes < 140737488355328 := by decide
          omega
        have el : ∀ i,i < len → ∃ x,elems[i]? = some x ∧ W.cells? 0 (a.add (i * P.cellsOf e)) (P.cellsOf e) = some (cellsAt W (a.add (i * P.cellsOf e)) (P.cellsOf e)) ∧
            DataW.trod enc P W 0 spare true n e (cellsAt W (a.add (i * P.cellsOf e)) (P.cellsOf e)) = some x := by
          intro i hi;obtain ⟨x,hx,hb⟩ := l2 i i (by simp [hi]);simp only [Option.bind_eq_some_iff] at hb;obtain ⟨ccs,hccs,htr⟩ := hb;have := (cells?_spec hccs).1;subst this;exact ⟨x,hx,hccs,htr⟩
        have ih : ∀ i,i < len → (absL P W n e (cellsAt W (a.add (i * P.cellsOf e)) (P.cellsOf e))).length = P.cellsOf e ∧
            (∀ j c,(absL P W n e (cellsAt W (a.add (i * P.cellsOf e)) (P.cellsOf e)))[j]? = some c → VR0 W c ((cellsAt W (a.add (i * P.cellsOf e)) (P.cellsOf e)).getD j undef)) ∧
            WfT P B n e (absL P W n e (cellsAt W (a.add (i * P.cellsOf e)) (P.cellsOf e))) := by
          intro i hi;obtain ⟨⟨dx,px⟩,hx,_,htr⟩ := el i hi;have hbx : bulkD dx ≤ B := Nat.le_trans (bulkDs_mem _ _ (List.mem_map.mpr ⟨_,List.mem_of_getElem? hx,rfl⟩)) hBs;have := trod_V hf n e _ dx px het htr hbx (fun x hx' => hwt x (by simp only [DataW.weights,hu,List.mem_cons,List.mem_append]; exact .inr (.inl (weights_mem_all (List.mem_map.mpr ⟨_,List.mem_of_getElem? hx,rfl⟩) x hx'))));refine ⟨by rw [this.1]; simp [cellsAt],this.2.1,this.2.2⟩
        have mk : ∀ i,i < len → (mkV (agOf P e) (absL P W n e (cellsAt W (a.add (i * P.cellsOf e)) (P.cellsOf e)))).cells = absL P W n e (cellsAt W (a.add (i * P.cellsOf e)) (P.cellsOf e)) ∧
            (mkV (agOf P e) (absL P W n e (cellsAt W (a.add (i * P.cellsOf e)) (P.cellsOf e)))).isAg = agOf P e := by
          intro i hi;refine mkV_cells ?_ (fun _ => absL_noAg n e _);rcases hag with h | h
          · exact .inl h
          · right; rw [(ih i hi).1,h]
        have getx : ∀ i x,((List.range len).map fun i => mkV (agOf P e) (absL P W n e (cellsAt W (a.add (i * P.cellsOf e)) (P.cellsOf e))))[i]? = some x → i < len ∧ x = mkV (agOf P e) (absL P W n e (cellsAt W (a.add (i * P.cellsOf e)) (P.cellsOf e))) := by
          intro i x hx;have hi : i < len := by have := (List.getElem?_eq_some_iff.mp hx).1; simpa using this
          simp [hi] at hx
          exact ⟨hi,hx.symm⟩
        refine ⟨rfl,fun j c hj => ?_,_,rfl,by rw [List.length_map,List.length_range]; exact Nat.le_min.2 ⟨hlenB,hlenW⟩,fun x hx => ?_⟩
        · cases j with
          | succ j => simp at hj
          | zero =>
            simp at hj; subst hj
            show VR0 W _ (.slice (some a) len cap);have hl0 : ((List.range len).map fun i => mkV (agOf P e) (absL P W n e (cellsAt W (a.add (i * P.cellsOf e)) (P.cellsOf e)))).length = len := by simp
            obtain ⟨ab,ao,asp⟩ := a;have q : VR0 W (.fz ((List.range len).map fun i => mkV (agOf P e) (absL P W n e (cellsAt W ((⟨ab,ao,asp⟩ : Addr).add (i * P.cellsOf e)) (P.cellsOf e)))))
                (.slice (some ⟨ab,ao,asp⟩) ((List.range len).map fun i => mkV (agOf P e) (absL P W n e (cellsAt W ((⟨ab,ao,asp⟩ : Addr).add (i * P.cellsOf e)) (P.cellsOf e)))).length cap) := by
              have hsp : ∀ i,i < len → 0 < i * P.cellsOf e + P.cellsOf e → (∀ j,j < P.cellsOf e → W.cell? ((((⟨ab,ao,asp⟩ : Addr).add (i * P.cellsOf e))).add j) = some ((cellsAt W ((⟨ab,ao,asp⟩ : Addr).add (i * P.cellsOf e)) (P.cellsOf e)).getD j undef)) := by
                intro i hi _ j hj;obtain ⟨x,_,hcc,_⟩ := el i hi;exact (cells?_spec hcc).2 j hj
              by_cases hz : len = 0
              · subst hz;exact .fz 0 (fun _ _ => undef) (by simp) (by simp) (by simp) (by simp) (by simp)
              · have h00 := hsp 0 (by omega) (by omega) 0 hz0;have hsp0 : asp = none := by
                  simp only [Nat.zero_mul,Addr.add_zero'] at h00;unfold World.cell? at h00
                  split at h00
                  · split at h00
                    · cases h00
                    · cases asp <;> simp_all
                  · cases h00
                subst hsp0;have hlt : ab < W.heap.size := by
                  simp only [Nat.zero_mul,Addr.add_zero'] at h00;exact World.block_lt_of_cell? _ _ h00
                refine .fz (P.cellsOf e) (fun i j => (cellsAt W ((⟨ab,ao,none⟩ : Addr).add (i * P.cellsOf e)) (P.cellsOf e)).getD j undef) (by rw [hl0]; exact hcond.2.1) (fun _ => ⟨rfl,fun h => h,hlt⟩) (fun i x hx => ?_) (fun i x j c hx hj => ?_) (fun i x j c hx hj => ?_)
                · obtain ⟨hi,rfl⟩ := getx i x hx;rw [(mk i hi).1,(ih i hi).1]
                · obtain ⟨hi,rfl⟩ := getx i x hx;rw [(mk i hi).1] at hj;have hj' : j < P.cellsOf e := by rw [← (ih i hi).1]; exact (List.getElem?_eq_some_iff.mp hj).1
                  have := hsp i hi (by omega) j hj';have e2 : (((⟨ab,ao,none⟩ : Addr).add (i * P.cellsOf e)).add j) = ⟨ab,ao + i * P.cellsOf e + j,none⟩ := by rw [add_none,add_none]
                  rw [e2] at this;exact this
                · obtain ⟨hi,rfl⟩ := getx i x hx;rw [(mk i hi).1] at hj;exact (ih i hi).2.1 j c hj
            rwa [hl0] at q
        · obtain ⟨i,hi,rfl⟩ := List.mem_map.mp hx;have hi' : i < len := by simpa using hi
          obtain ⟨m1,m2⟩ := mk i hi';exact ⟨m2,by rw [m1,(ih i hi').1],by rw [m1]; exact (ih i hi').2.2⟩
      · cases h
    · rename_i cs _ _ fs hu
      rw [hu];obtain ⟨hfl,hft⟩ := allFlat_struct hf hu ht
      split at h
      · rename_i hlen
        simp only [Option.map_eq_some_iff] at h;obtain ⟨xs,hxs,he⟩ := h;cases he;obtain ⟨l1,l2⟩ := opt_mapM_spec hxs;have hBs : bulkDs (xs.map (·.1)) ≤ B := by simp only [bulkD] at hB; omega
        have offs : ∀ (l : List Field) (o m : Nat),flatOk P o l = some m → ∀ f ∈ l,f.offset + P.cellsOf f.type ≤ m := by
          intro l
          induction l with
          | nil => intro o m _ f hf; simp at hf
          | cons g r ihr =>
            intro o m hh f hf;simp only [flatOk] at hh
            split at hh
            · rename_i ho
              have hmono : ∀ (l : List Field) (o m : Nat),flatOk P o l = some m → o ≤ m := by
                intro l
                induction l with
                | nil => intro o m h; simp [flatOk] at h; omega
                | cons g r ih2 => intro o m h; simp only [flatOk] at h; split at h; have := ih2 _ _ h; omega; cases h
              rcases List.mem_cons.mp hf with rfl | hf
              · have := hmono _ _ _ hh; omega
              · exact ihr _ _ hh f hf
            · cases hh
        have ih : ∀ f ∈ fs.toList,(absL P W n f.type ((cs.drop f.offset).take (P.cellsOf f.type))).length = P.cellsOf f.type ∧
            (∀ j c,(absL P W n f.type ((cs.drop f.offset).take (P.cellsOf f.type)))[j]? = some c → VR0 W c (cs.getD (f.offset + j) undef)) ∧
            WfT P B n f.type (absL P W n f.type ((cs.drop f.offset).take (P.cellsOf f.type))) := by
          intro f hfm;obtain ⟨i,hi,rfl⟩ := List.getElem_of_mem hfm;obtain ⟨⟨dx,px⟩,hx,htr⟩ := l2 i _ (List.getElem?_eq_getElem hi);have hbx : bulkD dx ≤ B := Nat.le_trans (bulkDs_mem _ _ (List.mem_map.mpr ⟨_,List.mem_of_getElem? hx,rfl⟩)) hBs;have := trod_V hf n _ _ dx px (hft _ hfm) htr hbx (fun x hx' => hwt x (by simp only [DataW.weights,hu]; exact DataW.weights_mem_each (j := i) (by rw [List.getElem?_map,List.getElem?_eq_getElem hi]; rfl) (by rw [List.getElem?_map,hx]; rfl) x hx'));have hoff := offs _ _ _ hfl _ hfm;have hl2 : ((cs.drop fs.toList[i].offset).take (P.cellsOf fs.toList[i].type)).length = P.cellsOf fs.toList[i].type := by rw [List.length_take,List.length_drop]; omega
          refine ⟨by rw [this.1,hl2],fun j c hj => ?_,this.2.2⟩;have hj' : j < P.cellsOf fs.toList[i].type := by rw [← hl2,← this.1]; exact (List.getElem?_eq_some_iff.mp hj).1
          have hr := this.2.1 j c hj;have e : ((cs.drop fs.toList[i].offset).take (P.cellsOf fs.toList[i].type)).getD j undef = cs.getD (fs.toList[i].offset + j) undef := by
            simp only [List.getD]; rw [List.getElem?_take_of_lt hj',List.getElem?_drop]
          rwa [e] at hr
        obtain ⟨_,s1,s2,s3⟩ := seg_spec (P := P) (g := fun f => absL P W n f.type ((cs.drop f.offset).take (P.cellsOf f.type))) (cs := cs) (R := VR0 W) fs.toList 0 _ hfl (by omega)
          (fun f hfm => ⟨(ih f hfm).1,(ih f hfm).2.1⟩)
        refine ⟨by rw [s1,hlen]; omega,fun j c hj => by simpa using s2 j c hj,by rw [s1]; omega,fun f hfm => ?_⟩;have := (s3 f hfm).2;rw [Nat.sub_zero] at this;rw [this]; exact (ih f hfm).2.2
      · cases h
    · rename_i cs _ _ m e hu
      rw [hu];obtain ⟨hct,het⟩ := allFlat_array hf hu ht
      split at h
      · rename_i hlen
        simp only [Option.map_eq_some_iff] at h;obtain ⟨xs,hxs,he⟩ := h;cases he;obtain ⟨l1,l2⟩ := opt_mapM_spec hxs;have hBs : bulkDs (xs.map (·.1)) ≤ B := by simp only [bulkD] at hB; omega
        have ih : ∀ i,i < m → (absL P W n e ((cs.drop (i * P.cellsOf e)).take (P.cellsOf e))).length = P.cellsOf e ∧
            (∀ j c,(absL P W n e ((cs.drop (i * P.cellsOf e)).take (P.cellsOf e)))[j]? = some c → VR0 W c (cs.getD (i * P.cellsOf e + j) undef)) ∧
            WfT P B n e (absL P W n e ((cs.drop (i * P.cellsOf e)).take (P.cellsOf e))) := by
          intro i hi;obtain ⟨⟨dx,px⟩,hx,htr⟩ := l2 i i (by simp [hi]);have hbx : bulkD dx ≤ B := Nat.le_trans (bulkDs_mem _ _ (List.mem_map.mpr ⟨_,List.mem_of_getElem? hx,rfl⟩)) hBs;have := trod_V hf n e _ dx px het htr hbx (fun x hx' => hwt x (by simp only [DataW.weights,hu]; exact weights_mem_all (List.mem_map.mpr ⟨_,List.mem_of_getElem? hx,rfl⟩) x hx'));have hle : (i + 1) * P.cellsOf e ≤ m * P.cellsOf e := Nat.mul_le_mul_right _ hi;rw [Nat.add_mul,Nat.one_mul] at hle;have hl2 : ((cs.drop (i * P.cellsOf e)).take (P.cellsOf e)).length = P.cellsOf e := by rw [List.length_take,List.length_drop]; omega
          refine ⟨by rw [this.1,hl2],fun j c hj => ?_,this.2.2⟩;have hj' : j < P.cellsOf e := by rw [← hl2,← this.1]; exact (List.getElem?_eq_some_iff.mp hj).1
          have hr := this.2.1 j c hj;have e2 : ((cs.drop (i * P.cellsOf e)).take (P.cellsOf e)).getD j undef = cs.getD (i * P.cellsOf e + j) undef := by
            simp only [List.getD]; rw [List.getElem?_take_of_lt hj',List.getElem?_drop]
          rwa [e2] at hr
        obtain ⟨s1,s2,s3⟩ := arr_spec (g := fun i => absL P W n e ((cs.drop (i * P.cellsOf e)).take (P.cellsOf e))) (cs := cs) (R := VR0 W) (z := P.cellsOf e) m 0
          (fun i _ h2 => by rw [Nat.zero_add] at h2; exact ⟨(ih i h2).1,(ih i h2).2.1⟩)
        refine ⟨by rw [s1,hlen,hct],fun j c hj => by simpa using s2 j c hj,s1,fun i hi => ?_⟩;have := s3 i (Nat.zero_le i) (by omega);rw [Nat.sub_zero] at this;rw [this]; exact (ih i hi).2.2
      · cases h
    all_goals first | (cases h; done) | (rename_i hu; rw [hu]; exact ⟨by simp,un_rel _,trivial⟩)
theorem VR0_ag {us : List V} {v : Value} (hag : ∃ a,v = .agg a) (hl : us.length = v.cells.size) (h : ∀ j c,us[j]? = some c → VR0 W c (v.cells.toList.getD j undef)) : VR0 W (.ag us) v := by
  obtain ⟨a,rfl⟩ := hag;refine .ag hl (fun j c hj => ?_);have := h j c hj;have e : (Value.agg a).cells.toList.getD j undef = a.getD j undef := by
    simp [Value.cells,List.getD,Array.getD_eq_getD_getElem?]
  rwa [e] at this
theorem okWide_cells {r : Reach} {b0 : Nat} {t : TypeId} {v : Value} (hag : agOf P t = false) (h : Value.okWide P W r b0 t v) : v.cells = #[v] := by
  cases v with
  | agg cs =>
    exfalso
    unfold Value.okWide at h;unfold agOf at hag;cases hu : P.underlying t with
    | none => simp [hu,Cell.okWide,Cell.ok] at h
    | some d => cases d <;> simp [hu,Cell.okWide,Cell.ok] at h hag
  | _ => rfl
theorem arg_V (hf : allFlat P = true) {r : Reach} {b0 B : Nat} {t : TypeId} {v : Value} {d : DataW H} {ps : List MemPlace} (ht : t < P.types.size)
    (hok : Value.okWide P W r b0 t v) (h : DataW.Trod enc P W 0 spare true t v d ps) (hB : bulkD d ≤ B) (hwt : ∀ x ∈ d.weights P t,x ≤ reachBytes) (hfl : agOf P t = true → ∃ fs,P.underlying t = some (.struct fs)) :
    ∃ (n : Nat) (u : V),VR0 W u v ∧ u.isAg = agOf P t ∧ WfT P B n t u.cells := by
  obtain ⟨n,h⟩ := h;obtain ⟨h1,h2,h3⟩ := trod_V hf n t _ d ps ht h hB hwt;cases hag : agOf P t with
  | false =>
    have hv := okWide_cells hag hok;have hl : (absL P W n t v.cells.toList).length = 1 := by rw [h1,hv]; rfl
    have hna := absL_noAg (P := P) (W := W) n t v.cells.toList
    match hu : absL P W n t v.cells.toList,hl with
    | [u],_ =>
      rw [hu] at h2 h3 hna;have ha := hna u (by simp);have hc : u.cells = [u] := by cases u <;> simp_all [V.isAg,V.cells]
      refine ⟨n,u,?_,ha,by rw [hc]; exact h3⟩;have := h2 0 u (by simp);rw [hv] at this
      simpa using this
  | true =>
    obtain ⟨fs,hu⟩ := hfl hag;have : ∃ cs,v = .agg cs := by
      unfold Value.okWide at hok;rw [hu] at hok;obtain ⟨cs,h,_⟩ := hok;exact ⟨cs,h⟩
    exact ⟨n,.ag (absL P W n t v.cells.toList),VR0_ag this (by rw [h1]; simp) h2,rfl,h3⟩
theorem WfT.int {B n : Nat} {t : TypeId} {u : V} {k : IntKind} (hu : P.underlying t = some (.int k)) (ha : u.isAg = false) (h : WfT P B n t u.cells) : ∃ m,u = .int k m ∧ k.min ≤ m ∧ m ≤ k.max := by
  have hc : u.cells = [u] := by cases u <;> simp_all [V.isAg,V.cells]
  rw [hc] at h;cases n with
  | zero => exact h.elim
  | succ n =>
    simp only [WfT,hu] at h;obtain ⟨m,h1,h2,h3⟩ := h
    simp at h1
    exact ⟨m,h1,h2,h3⟩
theorem WfT.str {B n : Nat} {t : TypeId} {u : V} (hu : P.underlying t = some .string) (ha : u.isAg = false) (h : WfT P B n t u.cells) : ∃ s,u = .str s ∧ s.size ≤ min B 140737488355328 := by
  have hc : u.cells = [u] := by cases u <;> simp_all [V.isAg,V.cells]
  rw [hc] at h;cases n with
  | zero => exact h.elim
  | succ n =>
    simp only [WfT,hu] at h;obtain ⟨m,h1,h2⟩ := h
    simp at h1
    exact ⟨m,h1,h2⟩
theorem WfT.float {B n : Nat} {t : TypeId} {u : V} (hu : P.underlying t = some (.float .f64)) (ha : u.isAg = false) (h : WfT P B n t u.cells) : ∃ b : Nat,u = .fl (some b) ∧ b < 18446744073709551616 := by
  have hc : u.cells = [u] := by cases u <;> simp_all [V.isAg,V.cells]
  rw [hc] at h;cases n with
  | zero => exact h.elim
  | succ n =>
    simp only [WfT,hu] at h;obtain ⟨m,h1,h2⟩ := h
    simp at h1
    exact ⟨m,h1,h2⟩
theorem WfT.slice {B n : Nat} {t e : TypeId} {u : V} (hu : P.underlying t = some (.slice e)) (ha : u.isAg = false) (h : WfT P B n t u.cells) :
    ∃ m xs,u = .fz xs ∧ xs.length ≤ min B 140737488355328 ∧ ∀ x ∈ xs,x.isAg = agOf P e ∧ x.cells.length = P.cellsOf e ∧ WfT P B m e x.cells := by
  have hc : u.cells = [u] := by cases u <;> simp_all [V.isAg,V.cells]
  rw [hc] at h;cases n with
  | zero => exact h.elim
  | succ n =>
    simp only [WfT,hu] at h;obtain ⟨xs,h1,h2,h3⟩ := h
    simp at h1
    exact ⟨n,xs,h1,h2,h3⟩
theorem list_map_of {α β : Type} {f : β → α} {Q : β → Prop} (l : List α) (h : ∀ x ∈ l,∃ y,x = f y ∧ Q y) : ∃ r : List β,l = r.map f ∧ ∀ y ∈ r,Q y := by
  induction l with
  | nil => exact ⟨[],rfl,fun y h => by simp at h⟩
  | cons a l ih =>
    obtain ⟨b,hb,hq⟩ := h a (by simp);obtain ⟨r,hr,hqr⟩ := ih (fun x hx => h x (by simp [hx]));exact ⟨b :: r,by rw [List.map_cons,← hb,← hr],fun y hy => by rcases List.mem_cons.mp hy with rfl | hy; exact hq; exact hqr y hy⟩
theorem WfT.ints {B n : Nat} {t e : TypeId} {u : V} {k : IntKind} (hu : P.underlying t = some (.slice e)) (he : P.underlying e = some (.int k)) (ha : u.isAg = false) (h : WfT P B n t u.cells) :
    ∃ l : List Int,u = .fz (l.map (V.int k)) ∧ l.length ≤ min B 140737488355328 ∧ ∀ x ∈ l,k.min ≤ x ∧ x ≤ k.max := by
  obtain ⟨m,xs,rfl,h2,h3⟩ := WfT.slice hu ha h;obtain ⟨r,rfl,hr⟩ := list_map_of (f := V.int k) (Q := fun x => k.min ≤ x ∧ x ≤ k.max) xs (fun x hx => by
    obtain ⟨a1,_,a3⟩ := h3 x hx;have : agOf P e = false := by unfold agOf; rw [he]
    exact WfT.int he (by rw [a1,this]) a3)
  exact ⟨r,rfl,by simpa using h2,hr⟩
theorem WfT.rows {B n : Nat} {t e i : TypeId} {u : V} {k : IntKind} (hu : P.underlying t = some (.slice e)) (he : P.underlying e = some (.slice i)) (hi : P.underlying i = some (.int k)) (ha : u.isAg = false) (h : WfT P B n t u.cells) :
    ∃ l : List (List Int),u = .fz (l.map fun r : List Int => V.fz (r.map (V.int k))) ∧ l.length ≤ min B 140737488355328 ∧ ∀ r ∈ l,r.length ≤ min B 140737488355328 ∧ ∀ x ∈ r,k.min ≤ x ∧ x ≤ k.max := by
  obtain ⟨m,xs,rfl,h2,h3⟩ := WfT.slice hu ha h;obtain ⟨r,rfl,hr⟩ := list_map_of (f := fun r : List Int => V.fz (r.map (V.int k))) (Q := fun r : List Int => r.length ≤ min B 140737488355328 ∧ ∀ x ∈ r,k.min ≤ x ∧ x ≤ k.max) xs (fun x hx => by
    obtain ⟨a1,_,a3⟩ := h3 x hx;have : agOf P e = false := by unfold agOf; rw [he]
    exact WfT.ints he hi (by rw [a1,this]) a3)
  exact ⟨r,rfl,by simpa using h2,hr⟩
theorem gl_below {W W' : World} (g : Gl W W') : RowKit.Below W.heap.size W W' := ⟨g.io.1,g.io.2.1,g.io.2.2,g.size,g.same⟩
theorem law_calls [DfrOk P] [XtnOk P] {T : Nat → Option IFun} (hT : ∀ f g,T f = some g → chkF P f g = true) {f k : Nat} {us : List V} {r : V} {H' : Heap} (h : exF T k f us [] = some (r,H')) {W : World} {args : Array Value}
    (hl : us.length = args.size) (ha : ∀ (j : Nat) (c : V),us[j]? = some c → VR0 W c (args.getD j undef)) (hb : r = .bool true) (hG : GOk (fun _ => False) W := by intro g cs h; cases h) :
    Calls P f args W fun e W' => e = .returned (.bool true) ∧ RowKit.Below W.heap.size W W' := by
  subst hb;refine (((exF_sim hT k) f us [] _ H' h).2 (fun _ => False) W own0 args (St.nil (fun _ h => h.elim) hG) hl ha).mono ?_;rintro e W' ⟨v,wr',own',he,hx,_,hv⟩;have := hv.bool_eq;subst this;exact ⟨he,gl_below ⟨hx.size,fun b hb => hx.same b hb (by rintro ⟨x,y,sh,N,ho⟩; simp [own0] at ho),hx.io⟩⟩
end
end Go.Eng
namespace Go.Eng
open Go
set_option linter.unusedSectionVars false
set_option linter.unusedVariables false
set_option linter.unusedSimpArgs false
variable [Xtn]
def DecC (P : Program) {α : Type} (E : Enc α) (t : TypeId) (Q : Nat → α → Prop) : Prop := agOf P t = E.ag ∧ ∀ (B n : Nat) (us : List V),WfT P B n t us → ∃ x,us = E.c x ∧ Q B x
section
variable {P : Program}
theorem enc_of {α : Type} {E : Enc α} {u : V} {x : α} (ha : u.isAg = E.ag) (hc : u.cells = E.c x) : u = E.e x := by
  cases hag : E.ag with
  | true =>
    rw [hag] at ha;cases u <;> simp [V.isAg] at ha;rw [E.h2 hag]; simp only [V.cells] at hc; rw [hc]
  | false =>
    rw [hag] at ha;have h1 : u.cells = [u] := by cases u <;> simp_all [V.isAg,V.cells]
    rw [h1,E.h1 hag] at hc
    simpa using hc
theorem DecC.get {α : Type} {E : Enc α} {t : TypeId} {Q : Nat → α → Prop} (d : DecC P E t Q) {B n : Nat} {u : V} (ha : u.isAg = agOf P t) (h : WfT P B n t u.cells) : ∃ x,u = E.e x ∧ Q B x := by
  obtain ⟨x,hx,hq⟩ := d.2 B n _ h;exact ⟨x,enc_of (by rw [ha,d.1]) hx,hq⟩
theorem dec_int {t : TypeId} {k : IntKind} (hu : P.underlying t = some (.int k)) : DecC P (EI k) t (fun _ m => k.min ≤ m ∧ m ≤ k.max) := by
  refine ⟨by unfold agOf; rw [hu]; rfl,fun B n us h => ?_⟩;cases n with
  | zero => exact h.elim
  | succ n =>
    simp only [WfT,hu] at h;obtain ⟨m,rfl,h1,h2⟩ := h;exact ⟨m,rfl,h1,h2⟩
theorem dec_str {t : TypeId} (hu : P.underlying t = some .string) : DecC P ES t (fun B l => l.length ≤ min B 140737488355328) := by
  refine ⟨by unfold agOf; rw [hu]; rfl,fun B n us h => ?_⟩;cases n with
  | zero => exact h.elim
  | succ n =>
    simp only [WfT,hu] at h;obtain ⟨s,rfl,h1⟩ := h;have e : s.data.toList.length = s.size := Array.length_toList;exact ⟨s.data.toList,rfl,by show s.data.toList.length ≤ _; rw [e]; exact h1⟩
theorem dec_slice {α : Type} {E : Enc α} {t e : TypeId} {Q : Nat → α → Prop} (hu : P.underlying t = some (.slice e)) (d : DecC P E e Q) : DecC P (EL E) t (fun B l => l.length ≤ min B 140737488355328 ∧ ∀ x ∈ l,Q B x) := by
  refine ⟨by unfold agOf; rw [hu]; rfl,fun B n us h => ?_⟩;cases n with
  | zero => exact h.elim
  | succ n =>
    simp only [WfT,hu] at h;obtain ⟨xs,rfl,h1,h2⟩ := h;obtain ⟨r,rfl,hr⟩ := list_map_of (f := E.e) (Q := Q B) xs (fun x hx => by
      obtain ⟨a1,_,a3⟩ := h2 x hx;exact d.get a1 a3)
    exact ⟨r,rfl,by simpa using h1,hr⟩
theorem dec_fields {t : TypeId} {fs : Array Field} (hu : P.underlying t = some (.struct fs)) {B n : Nat} {us : List V} (h : WfT P B n t us) :
    us.length = P.cellsOf t ∧ ∃ m,∀ f ∈ fs.toList,WfT P B m f.type ((us.drop f.offset).take (P.cellsOf f.type)) := by
  cases n with
  | zero => exact h.elim
  | succ n =>
    simp only [WfT,hu] at h;exact ⟨h.1,n,h.2⟩
theorem seg_cons {us a : List V} {o z : Nat} (h : (us.drop o).take z = a) (hl : o + z ≤ us.length) : us.drop o = a ++ us.drop (o + z) := by
  rw [← h,← List.drop_drop,List.take_append_drop]
end
end Go.Eng
namespace Go.Eng.Cop
open Go Go.Eng
set_option linter.unusedVariables false
set_option linter.unusedSimpArgs false
def Q_Code (B : Nat) (x : T_Code) : Prop := (fun _ m => IntKind.u8.min ≤ m ∧ m ≤ IntKind.u8.max) B x.fKind ∧ (fun _ m => IntKind.u8.min ≤ m ∧ m ≤ IntKind.u8.max) B x.fOp ∧ (fun _ m => IntKind.u8.min ≤ m ∧ m ≤ IntKind.u8.max) B x.fType ∧ (fun _ m => IntKind.u8.min ≤ m ∧ m ≤ IntKind.u8.max) B x.fTo ∧ (fun _ m => IntKind.u8.min ≤ m ∧ m ≤ IntKind.u8.max) B x.fTrap ∧ (fun _ m => IntKind.i64.min ≤ m ∧ m ≤ IntKind.i64.max) B x.fA ∧ (fun _ m => IntKind.i64.min ≤ m ∧ m ≤ IntKind.i64.max) B x.fB ∧ (fun _ m => IntKind.i64.min ≤ m ∧ m ≤ IntKind.i64.max) B x.fC ∧ (fun _ m => IntKind.u64.min ≤ m ∧ m ≤ IntKind.u64.max) B x.fBits
theorem dec_Code : DecC Go.Proofs.Tryd.prog E_Code 41 Q_Code := by
  refine ⟨by kernel_rfl,fun B n us h => ?_⟩;obtain ⟨hl, m, hf⟩ := dec_fields (fs := #[⟨"Kind", 35, 0, false, "", "", 0⟩, ⟨"Op", 36, 1, false, "", "", 1⟩, ⟨"Type", 37, 2, false, "", "", 2⟩, ⟨"To", 37, 3, false, "", "", 3⟩, ⟨"Trap", 38, 4, false, "", "", 4⟩, ⟨"A", 3, 5, false, "", "", 8⟩, ⟨"B", 3, 6, false, "", "", 16⟩, ⟨"C", 3, 7, false, "", "", 24⟩, ⟨"Bits", 39, 8, false, "", "", 32⟩]) (by kernel_rfl) h;have hl : us.length = 9 := hl.trans (by kernel_rfl);have hf : ∀ f ∈ ([⟨"Kind", 35, 0, false, "", "", 0⟩, ⟨"Op", 36, 1, false, "", "", 1⟩, ⟨"Type", 37, 2, false, "", "", 2⟩, ⟨"To", 37, 3, false, "", "", 3⟩, ⟨"Trap", 38, 4, false, "", "", 4⟩, ⟨"A", 3, 5, false, "", "", 8⟩, ⟨"B", 3, 6, false, "", "", 16⟩, ⟨"C", 3, 7, false, "", "", 24⟩, ⟨"Bits", 39, 8, false, "", "", 32⟩] : List Field), WfT Go.Proofs.Tryd.prog B m f.type ((us.drop f.offset).take (Go.Proofs.Tryd.prog.cellsOf f.type)) := hf;have z0 : Go.Proofs.Tryd.prog.cellsOf 35 = 1 := by kernel_rfl
  obtain ⟨x0, e0, q0⟩ := (dec_int (P := Go.Proofs.Tryd.prog) (t := 35) (k := .u8) (by kernel_rfl)).2 B m _ (hf ⟨"Kind", 35, 0, false, "", "", 0⟩ (by simp));rw [z0] at e0;have e0 : (us.drop 0).take 1 = (EI .u8).c x0 := e0;have s0 := seg_cons e0 (by omega);have z1 : Go.Proofs.Tryd.prog.cellsOf 36 = 1 := by kernel_rfl
  obtain ⟨x1, e1, q1⟩ := (dec_int (P := Go.Proofs.Tryd.prog) (t := 36) (k := .u8) (by kernel_rfl)).2 B m _ (hf ⟨"Op", 36, 1, false, "", "", 1⟩ (by simp));rw [z1] at e1;have e1 : (us.drop 1).take 1 = (EI .u8).c x1 := e1;have s1 := seg_cons e1 (by omega);have z2 : Go.Proofs.Tryd.prog.cellsOf 37 = 1 := by kernel_rfl
  obtain ⟨x2, e2, q2⟩ := (dec_int (P := Go.Proofs.Tryd.prog) (t := 37) (k := .u8) (by kernel_rfl)).2 B m _ (hf ⟨"Type", 37, 2, false, "", "", 2⟩ (by simp));rw [z2] at e2;have e2 : (us.drop 2).take 1 = (EI .u8).c x2 := e2;have s2 := seg_cons e2 (by omega);have z3 : Go.Proofs.Tryd.prog.cellsOf 37 = 1 := by kernel_rfl
  obtain ⟨x3, e3, q3⟩ := (dec_int (P := Go.Proofs.Tryd.prog) (t := 37) (k := .u8) (by kernel_rfl)).2 B m _ (hf ⟨"To", 37, 3, false, "", "", 3⟩ (by simp));rw [z3] at e3;have e3 : (us.drop 3).take 1 = (EI .u8).c x3 := e3;have s3 := seg_cons e3 (by omega);have z4 : Go.Proofs.Tryd.prog.cellsOf 38 = 1 := by kernel_rfl
  obtain ⟨x4, e4, q4⟩ := (dec_int (P := Go.Proofs.Tryd.prog) (t := 38) (k := .u8) (by kernel_rfl)).2 B m _ (hf ⟨"Trap", 38, 4, false, "", "", 4⟩ (by simp));rw [z4] at e4;have e4 : (us.drop 4).take 1 = (EI .u8).c x4 := e4;have s4 := seg_cons e4 (by omega);have z5 : Go.Proofs.Tryd.prog.cellsOf 3 = 1 := by kernel_rfl
  obtain ⟨x5, e5, q5⟩ := (dec_int (P := Go.Proofs.Tryd.prog) (t := 3) (k := .i64) (by kernel_rfl)).2 B m _ (hf ⟨"A", 3, 5, false, "", "", 8⟩ (by simp));rw [z5] at e5;have e5 : (us.drop 5).take 1 = (EI .i64).c x5 := e5;have s5 := seg_cons e5 (by omega);have z6 : Go.Proofs.Tryd.prog.cellsOf 3 = 1 := by kernel_rfl
  obtain ⟨x6, e6, q6⟩ := (dec_int (P := Go.Proofs.Tryd.prog) (t := 3) (k := .i64) (by kernel_rfl)).2 B m _ (hf ⟨"B", 3, 6, false, "", "", 16⟩ (by simp));rw [z6] at e6;have e6 : (us.drop 6).take 1 = (EI .i64).c x6 := e6;have s6 := seg_cons e6 (by omega);have z7 : Go.Proofs.Tryd.prog.cellsOf 3 = 1 := by kernel_rfl
  obtain ⟨x7, e7, q7⟩ := (dec_int (P := Go.Proofs.Tryd.prog) (t := 3) (k := .i64) (by kernel_rfl)).2 B m _ (hf ⟨"C", 3, 7, false, "", "", 24⟩ (by simp));rw [z7] at e7;have e7 : (us.drop 7).take 1 = (EI .i64).c x7 := e7;have s7 := seg_cons e7 (by omega);have z8 : Go.Proofs.Tryd.prog.cellsOf 39 = 1 := by kernel_rfl
  obtain ⟨x8, e8, q8⟩ := (dec_int (P := Go.Proofs.Tryd.prog) (t := 39) (k := .u64) (by kernel_rfl)).2 B m _ (hf ⟨"Bits", 39, 8, false, "", "", 32⟩ (by simp));rw [z8] at e8;have e8 : (us.drop 8).take 1 = (EI .u64).c x8 := e8;have s8 := seg_cons e8 (by omega);refine ⟨⟨x0,x1,x2,x3,x4,x5,x6,x7,x8⟩,?_,⟨q0,q1,q2,q3,q4,q5,q6,q7,q8⟩⟩;have hend : us.drop 9 = [] := List.drop_eq_nil_of_le (by omega);rw [← List.drop_zero (l := us)];rw [show us.drop 0 = _ from s0];rw [show us.drop 1 = _ from s1];rw [show us.drop 2 = _ from s2];rw [show us.drop 3 = _ from s3];rw [show us.drop 4 = _ from s4];rw [show us.drop 5 = _ from s5];rw [show us.drop 6 = _ from s6];rw [show us.drop 7 = _ from s7];rw [show us.drop 8 = _ from s8];rw [show us.drop (8 + 1) = _ from hend]
  rfl
def Q_Unit (B : Nat) (x : T_Unit) : Prop := (fun B l => l.length ≤ min B 140737488355328) B x.fName ∧ (fun B l => l.length ≤ min B 140737488355328 ∧ ∀ x ∈ l,(fun _ m => IntKind.u8.min ≤ m ∧ m ≤ IntKind.u8.max) B x) B x.fParams ∧ (fun _ m => IntKind.u8.min ≤ m ∧ m ≤ IntKind.u8.max) B x.fResult ∧ (fun _ m => IntKind.i64.min ≤ m ∧ m ≤ IntKind.i64.max) B x.fFrame ∧ (fun B l => l.length ≤ min B 140737488355328 ∧ ∀ x ∈ l,Q_Code B x) B x.fCode
theorem dec_Unit : DecC Go.Proofs.Tryd.prog E_Unit 45 Q_Unit := by
  refine ⟨by kernel_rfl,fun B n us h => ?_⟩;obtain ⟨hl, m, hf⟩ := dec_fields (fs := #[⟨"Name", 9, 0, false, "", "", 0⟩, ⟨"Params", 43, 1, false, "", "", 16⟩, ⟨"Result", 37, 2, false, "", "", 40⟩, ⟨"Frame", 3, 3, false, "", "", 48⟩, ⟨"Code", 42, 4, false, "", "", 56⟩]) (by kernel_rfl) h;have hl : us.length = 5 := hl.trans (by kernel_rfl);have hf : ∀ f ∈ ([⟨"Name", 9, 0, false, "", "", 0⟩, ⟨"Params", 43, 1, false, "", "", 16⟩, ⟨"Result", 37, 2, false, "", "", 40⟩, ⟨"Frame", 3, 3, false, "", "", 48⟩, ⟨"Code", 42, 4, false, "", "", 56⟩] : List Field), WfT Go.Proofs.Tryd.prog B m f.type ((us.drop f.offset).take (Go.Proofs.Tryd.prog.cellsOf f.type)) := hf;have z0 : Go.Proofs.Tryd.prog.cellsOf 9 = 1 := by kernel_rfl
  obtain ⟨x0, e0, q0⟩ := (dec_str (P := Go.Proofs.Tryd.prog) (t := 9) (by kernel_rfl)).2 B m _ (hf ⟨"Name", 9, 0, false, "", "", 0⟩ (by simp));rw [z0] at e0;have e0 : (us.drop 0).take 1 = ES.c x0 := e0;have s0 := seg_cons e0 (by omega);have z1 : Go.Proofs.Tryd.prog.cellsOf 43 = 1 := by kernel_rfl
  obtain ⟨x1, e1, q1⟩ := (dec_slice (P := Go.Proofs.Tryd.prog) (t := 43) (e := 37) (by kernel_rfl) (dec_int (P := Go.Proofs.Tryd.prog) (t := 37) (k := .u8) (by kernel_rfl))).2 B m _ (hf ⟨"Params", 43, 1, false, "", "", 16⟩ (by simp));rw [z1] at e1;have e1 : (us.drop 1).take 1 = (EL (EI .u8)).c x1 := e1;have s1 := seg_cons e1 (by omega);have z2 : Go.Proofs.Tryd.prog.cellsOf 37 = 1 := by kernel_rfl
  obtain ⟨x2, e2, q2⟩ := (dec_int (P := Go.Proofs.Tryd.prog) (t := 37) (k := .u8) (by kernel_rfl)).2 B m _ (hf ⟨"Result", 37, 2, false, "", "", 40⟩ (by simp));rw [z2] at e2;have e2 : (us.drop 2).take 1 = (EI .u8).c x2 := e2;have s2 := seg_cons e2 (by omega);have z3 : Go.Proofs.Tryd.prog.cellsOf 3 = 1 := by kernel_rfl
  obtain ⟨x3, e3, q3⟩ := (dec_int (P := Go.Proofs.Tryd.prog) (t := 3) (k := .i64) (by kernel_rfl)).2 B m _ (hf ⟨"Frame", 3, 3, false, "", "", 48⟩ (by simp));rw [z3] at e3;have e3 : (us.drop 3).take 1 = (EI .i64).c x3 := e3;have s3 := seg_cons e3 (by omega);have z4 : Go.Proofs.Tryd.prog.cellsOf 42 = 1 := by kernel_rfl
  obtain ⟨x4, e4, q4⟩ := (dec_slice (P := Go.Proofs.Tryd.prog) (t := 42) (e := 41) (by kernel_rfl) dec_Code).2 B m _ (hf ⟨"Code", 42, 4, false, "", "", 56⟩ (by simp));rw [z4] at e4;have e4 : (us.drop 4).take 1 = (EL E_Code).c x4 := e4;have s4 := seg_cons e4 (by omega);refine ⟨⟨x0,x1,x2,x3,x4⟩,?_,⟨q0,q1,q2,q3,q4⟩⟩;have hend : us.drop 5 = [] := List.drop_eq_nil_of_le (by omega);rw [← List.drop_zero (l := us)];rw [show us.drop 0 = _ from s0];rw [show us.drop 1 = _ from s1];rw [show us.drop 2 = _ from s2];rw [show us.drop 3 = _ from s3];rw [show us.drop 4 = _ from s4];rw [show us.drop (4 + 1) = _ from hend]
  rfl
theorem dec22 : DecC Go.Proofs.Tryd.prog (EL E_Unit) 22 (fun B l => l.length ≤ min B 140737488355328 ∧ ∀ x ∈ l,Q_Unit B x) := (dec_slice (P := Go.Proofs.Tryd.prog) (t := 22) (e := 45) (by kernel_rfl) dec_Unit)
theorem dec26 : DecC Go.Proofs.Tryd.prog (EL (EI .u8)) 26 (fun B l => l.length ≤ min B 140737488355328 ∧ ∀ x ∈ l,(fun _ m => IntKind.u8.min ≤ m ∧ m ≤ IntKind.u8.max) B x) := (dec_slice (P := Go.Proofs.Tryd.prog) (t := 26) (e := 5) (by kernel_rfl) (dec_int (P := Go.Proofs.Tryd.prog) (t := 5) (k := .u8) (by kernel_rfl)))
theorem dec3 : DecC Go.Proofs.Tryd.prog (EI .i64) 3 (fun _ m => IntKind.i64.min ≤ m ∧ m ≤ IntKind.i64.max) := (dec_int (P := Go.Proofs.Tryd.prog) (t := 3) (k := .i64) (by kernel_rfl))
end Go.Eng.Cop
namespace Go.Eng.Cop
open Go Go.Eng
set_option linter.unusedSectionVars false
set_option linter.unusedVariables false
theorem sz_of {B n : Nat} (h : n ≤ min B 140737488355328) : n ≤ 140737488355328 := Nat.le_trans h (Nat.min_le_right _ _)
theorem u8_isB {m : Int} (h : IntKind.u8.min ≤ m ∧ m ≤ IntKind.u8.max) : isB m := by
  have h0 : IntKind.u8.min = 0 := rfl;have h255 : IntKind.u8.max = 255 := rfl;rw [h0,h255] at h;unfold isB; omega
theorem u64_is {m : Int} (h : IntKind.u64.min ≤ m ∧ m ≤ IntKind.u64.max) : is64 m := by
  have h0 : IntKind.u64.min = 0 := rfl;have h1 : IntKind.u64.max = 18446744073709551615 := rfl;rw [h0,h1] at h;unfold is64; omega
theorem law_CodeBack {B0 n0 : Nat} {u0 : V} (g0 : u0.isAg = agOf Go.Proofs.Tryd.prog 22) (w0 : WfT Go.Proofs.Tryd.prog B0 n0 22 u0.cells)
    {B1 n1 : Nat} {u1 : V} (g1 : u1.isAg = agOf Go.Proofs.Tryd.prog 26) (w1 : WfT Go.Proofs.Tryd.prog B1 n1 26 u1.cells)
    {B2 n2 : Nat} {u2 : V} (g2 : u2.isAg = agOf Go.Proofs.Tryd.prog 3) (w2 : WfT Go.Proofs.Tryd.prog B2 n2 3 u2.cells)
    {B3 n3 : Nat} {u3 : V} (g3 : u3.isAg = agOf Go.Proofs.Tryd.prog 26) (w3 : WfT Go.Proofs.Tryd.prog B3 n3 26 u3.cells) : Fn T 6 [u0,u1,u2,u3] [] (fun r h => r = .bool true) := by
  obtain ⟨l,rfl,h1,h2⟩ := dec22.get g0 w0;obtain ⟨b,rfl,q1,q2⟩ := dec26.get g1 w1;obtain ⟨c,rfl,_⟩ := dec3.get g2 w2;obtain ⟨m,rfl,_,m2⟩ := dec26.get g3 w3;refine (w6 (back l b c m (sz_of h1) (fun u hu => ?_) (fun c hc => u8_isB (q2 c hc)) (fun c hc => u8_isB (m2 c hc))) HP.nil).mono fun v h hv => hv.1
  obtain ⟨p1,p2,p3,_,p5⟩ := h2 u hu;have rd : ∀ x ∈ u.fCode,RD x := fun x hx => by
    obtain ⟨a1,a2,a3,a4,a5,_,_,_,a9⟩ := p5.2 x hx;exact ⟨u64_is a9,u8_isB a1,u8_isB a2,u8_isB a3,u8_isB a4,u8_isB a5⟩
  exact ⟨⟨sz_of p1,sz_of p2.1,sz_of p5.1,fun x hx => (rd x hx).b.1⟩,fun c hc => u8_isB (p2.2 c hc),u8_isB p3,rd⟩
end Go.Eng.Cop
namespace Go.Eng
open Go
set_option linter.unusedSectionVars false
set_option linter.unusedVariables false
set_option linter.unusedSimpArgs false
variable [Xtn]
def contig (P : Program) : Nat → List Field → Option Nat
  | o,[] => some o
  | o,f :: l => if f.offset = o then contig P (o + P.cellsOf f.type) l else none
def litCells (P : Program) : Nat → TypeId → DataW Unit → Option (List Value)
  | 0,_,_ => none
  | n + 1,t,d =>
    match P.underlying t,d with
    | some .bool,.lit (.bool b) => some [.bool b]
    | some (.int k),.lit (.int k' z) => if k' = k then some [.int k z] else none
    | some (.struct fs),.agg parts => if contig P 0 fs.toList = some (P.cellsOf t) then ((fs.toList.zip parts).mapM fun x => litCells P n x.1.type x.2).map List.flatten else none
    | some (.array m e),.agg parts => if P.cellsOf t = m * P.cellsOf e then (parts.mapM fun x => litCells P n e x).map List.flatten else none
    | _,_ => none
theorem mapM_cons_some {α β : Type} {f : α → Option β} {a : α} {l : List α} {r : List β} (h : (a :: l).mapM f = some r) : ∃ b r',f a = some b ∧ l.mapM f = some r' ∧ r = b :: r' := by
  simp only [List.mapM_cons,Option.bind_eq_bind,Option.bind_eq_some_iff,Option.pure_def,Option.some.injEq] at h;obtain ⟨b,hb,r',hr',rfl⟩ := h;exact ⟨b,r',hb,hr',rfl⟩
theorem contig_le {P : Program} : ∀ (l : List Field) {o e : Nat},contig P o l = some e → o ≤ e
  | [],o,e,h => by simp [contig] at h; omega
  | f :: l,o,e,h => by
    simp only [contig] at h
    split at h
    · have := contig_le l h; omega
    · cases h
theorem litCells_spec {P : Program} {W : World} {base : Nat} {sp : Nat → Bool} {held : Bool} : ∀ (n fuel : Nat) (t : TypeId) (cs : List Value) (d : DataW Unit) (p : List MemPlace) (vs : List Value),
    DataW.trod (fun _ => ()) P W base sp held fuel t cs = some (d,p) → litCells P n t d = some vs → cs = vs
  | 0,fuel,t,cs,d,p,vs,h,hl => by simp [litCells] at hl
  | n + 1,0,t,cs,d,p,vs,h,hl => by simp [DataW.trod] at h
  | n + 1,fuel + 1,t,cs,d,p,vs,h,hl => by
    have ih := litCells_spec (P := P) (W := W) (base := base) (sp := sp) (held := held) n fuel;unfold litCells at hl
    split at hl
    · rename_i b hu
      unfold DataW.trod at h;rw [hu] at h
      split at h <;> simp_all
    · rename_i k k' z hu
      split at hl
      · rename_i hk; subst hk
        obtain ⟨z',hc,hd,_⟩ := DataW.trod_int hu h;cases hd; cases hl; exact hc
      · cases hl
    · rename_i fs parts hu
      split at hl
      case isFalse => cases hl
      rename_i hcg
      obtain ⟨vss,hm,rfl⟩ := Option.map_eq_some_iff.1 hl;simp only [DataW.trod,hu] at h
      split at h
      case isFalse => cases h
      rename_i hlen
      obtain ⟨xs,hx,he⟩ := Option.map_eq_some_iff.1 h;have hp : parts = xs.map (·.1) := by
        have := congrArg Prod.fst he; simp only [DataW.agg.injEq] at this; exact this.symm
      subst hp;have key : ∀ (l : List Field) (xs : List (DataW Unit × List MemPlace)) (vss : List (List Value)) (o e : Nat),
          (l.mapM fun f => DataW.trod (fun _ => ()) P W base sp held fuel f.type ((cs.drop f.offset).take (P.cellsOf f.type))) = some xs →
          ((l.zip (xs.map (·.1))).mapM fun x => litCells P n x.1.type x.2) = some vss → contig P o l = some e → (cs.drop o).take (e - o) = vss.flatten := by
        intro l
        induction l with
        | nil => intro xs vss o e h1 h2 h3; simp [contig] at h3; subst h3; simp at h2; subst h2; simp
        | cons f l ihl =>
          intro xs vss o e h1 h2 h3;obtain ⟨x,xs',hx,hxs,rfl⟩ := mapM_cons_some h1;rw [List.map_cons,List.zip_cons_cons] at h2;obtain ⟨v,vss',hv,hvs,rfl⟩ := mapM_cons_some h2;simp only [contig] at h3
          split at h3
          case isFalse => cases h3
          rename_i ho; subst ho
          have h4 := ihl xs' vss' _ e hxs hvs h3;have h5 := ih _ _ x.1 x.2 v hx hv;have h6 := contig_le l h3;rw [List.flatten_cons,← h4,← h5,← List.drop_drop];have : e - f.offset = P.cellsOf f.type + (e - (f.offset + P.cellsOf f.type)) := by omega
          rw [this,List.take_add]
      have := key _ _ _ 0 _ hx hm hcg;rw [List.drop_zero,Nat.sub_zero,← hlen,List.take_length] at this;exact this
    · rename_i m e parts hu
      split at hl
      case isFalse => cases hl
      rename_i hct
      obtain ⟨vss,hm,rfl⟩ := Option.map_eq_some_iff.1 hl;simp only [DataW.trod,hu] at h
      split at h
      case isFalse => cases h
      rename_i hlen
      obtain ⟨xs,hx,he⟩ := Option.map_eq_some_iff.1 h;have hp : parts = xs.map (·.1) := by
        have := congrArg Prod.fst he; simp only [DataW.agg.injEq] at this; exact this.symm
      subst hp;have key : ∀ (k a : Nat) (xs : List (DataW Unit × List MemPlace)) (vss : List (List Value)),
          ((List.range' a k).mapM fun i => DataW.trod (fun _ => ()) P W base sp held fuel e ((cs.drop (i * P.cellsOf e)).take (P.cellsOf e))) = some xs →
          ((xs.map (·.1)).mapM fun x => litCells P n e x) = some vss → (cs.drop (a * P.cellsOf e)).take (k * P.cellsOf e) = vss.flatten := by
        intro k
        induction k with
        | zero => intro a xs vss h1 h2; simp at h1; subst h1; simp at h2; subst h2; simp
        | succ k ihk =>
          intro a xs vss h1 h2;rw [List.range'_succ] at h1;obtain ⟨x,xs',hx,hxs,rfl⟩ := mapM_cons_some h1;rw [List.map_cons] at h2;obtain ⟨v,vss',hv,hvs,rfl⟩ := mapM_cons_some h2;have h4 := ihk _ xs' vss' hxs hvs;have h5 := ih _ _ x.1 x.2 v hx hv;rw [List.flatten_cons,← h4,← h5,Nat.add_mul a 1,Nat.one_mul,← List.drop_drop,Nat.add_comm k 1,Nat.add_mul 1 k,Nat.one_mul,List.take_add]
      rw [List.range_eq_range'] at hx;have := key m 0 xs vss hx hm;rw [Nat.zero_mul,List.drop_zero,← hct,← hlen,List.take_length] at this;exact this
    · cases hl
def litV : V → Option Value
  | .bool b => some (.bool b)
  | .int k n => some (.int k n)
  | _ => none
theorem litV_VR {wr : Nat → Prop} {W : World} {own : Own} {c : V} {v : Value} (h : litV c = some v) : VR wr W own c v := by
  cases c <;> simp [litV] at h
  · subst h; exact .bool _
  · subst h; exact .int _ _
theorem laid_fp {P : Program} {W : World} {name : String} {d : DataW Unit} {rest : List (String × DataW Unit)} {g n : Nat} {t : TypeId} {cs : List V} {vs : List Value} (hg : P.globalNamed name = some g) (hty : (P.globals[g]?).map (·.type) = some t)
    (hl : litCells P n t d = some vs) (hc : cs.mapM litV = some vs) (h : laidMet P ((name,d) :: rest) W) : VR (fun _ => False) W own0 (.fp (.ag cs)) (.pointer (some ⟨g,0,none⟩)) := by
  obtain ⟨ps,⟨g',t',as1,fuel,p,q,hg',ht',hvar,hd,_,_⟩,_⟩ := h;obtain rfl := Option.some.inj (hg.symm.trans hg');obtain rfl := Option.some.inj (hty.symm.trans ht');have he := litCells_spec n fuel t as1.toList d p vs hd hl;have hlt : g < W.heap.size := by
    simp only [World.var?,hg,Option.bind_some] at hvar
    split at hvar
    · rename_i h; exact (Array.getElem?_eq_some_iff.mp h).1
    · cases hvar
  have hat : ∀ (j : Nat) (c : V),cs[j]? = some c → ∃ v,as1[j]? = some v ∧ litV c = some v := by
    intro j c hj;obtain ⟨v,hv,hf⟩ := Lib.mapM_at hc j c hj;refine ⟨v,?_,hf⟩;rw [← Array.getElem?_toList,he]; exact hv
  refine .fp (fun j => as1.getD j undef) (fun h => h) hlt (fun j c hj => ?_) (fun j c hj => ?_)
  · obtain ⟨v,hv,_⟩ := hat j c hj;rw [Nat.zero_add,World.var?_cell hg hvar j,hv]
    simp [Array.getD_eq_getD_getElem?,hv]
  · obtain ⟨v,hv,hf⟩ := hat j c hj;have : as1.getD j undef = v := by simp [Array.getD_eq_getD_getElem?,hv]
    rw [this]; exact litV_VR hf
end Go.Eng
