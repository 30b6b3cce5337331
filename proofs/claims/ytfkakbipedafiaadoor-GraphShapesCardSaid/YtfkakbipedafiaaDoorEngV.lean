/- Functions of this seat, run on unknown values by the rules of the small machine (no condition beyond those stated). -/
import Derived.Test.YtfkakbipedafiaaDoorGshLUp
import Derived.Lib.LaidTab
import GoSem.ClaimJoined
namespace Go.Eng
open Go
set_option linter.unusedSectionVars false
set_option linter.unusedVariables false
set_option linter.unusedSimpArgs false
def contig (P : Program) : Nat → List Field → Option Nat
  | o,[] => some o
  | o,f :: l => if f.offset = o then contig P (o + P.cellsOf f.type) l else none
def litCells (P : Program) : Nat → TypeId → DataW Unit → Option (List Value)
  | 0,_,_ => none
  | n + 1,t,d =>
    match P.underlying t,d with
    | some .bool,.lit (.bool b) => some [.bool b]
    | some (.int k),.lit (.int k' z) => if k' = k then some [.int k z] else none
    | some (.struct fs),.agg parts => if contig P 0 fs.toList = some (P.cellsOf t) then ((fs.toList.zip parts).mapM fun x => litCells P n x.1.type x.2).map List.flatten else none
    | some (.array m e),.agg parts => if P.cellsOf t = m * P.cellsOf e then (parts.mapM fun x => litCells P n e x).map List.flatten else none
    | _,_ => none
theorem mapM_cons_some {α β : Type} {f : α → Option β} {a : α} {l : List α} {r : List β} (h : (a :: l).mapM f = some r) : ∃ b r',f a = some b ∧ l.mapM f = some r' ∧ r = b :: r' := by
  simp only [List.mapM_cons,Option.bind_eq_bind,Option.bind_eq_some_iff,Option.pure_def,Option.some.injEq] at h;obtain ⟨b,hb,r',hr',rfl⟩ := h;exact ⟨b,r',hb,hr',rfl⟩
theorem contig_le {P : Program} : ∀ (l : List Field) {o e : Nat},contig P o l = some e → o ≤ e
  | [],o,e,h => by simp [contig] at h; omega
  | f :: l,o,e,h => by
    simp only [contig] at h
    split at h
    · have := contig_le l h; omega
    · cases h
theorem litCells_spec {P : Program} {W : World} {base : Nat} {sp : Nat → Bool} {held : Bool} : ∀ (n fuel : Nat) (t : TypeId) (cs : List Value) (d : DataW Unit) (p : List MemPlace) (vs : List Value),
    DataW.trod (fun _ => ()) P W base sp held fuel t cs = some (d,p) → litCells P n t d = some vs → cs = vs
  | 0,fuel,t,cs,d,p,vs,h,hl => by simp [litCells] at hl
  | n + 1,0,t,cs,d,p,vs,h,hl => by simp [DataW.trod] at h
  | n + 1,fuel + 1,t,cs,d,p,vs,h,hl => by
    have ih := litCells_spec (P := P) (W := W) (base := base) (sp := sp) (held := held) n fuel;unfold litCells at hl
    split at hl
    · rename_i b hu
      unfold DataW.trod at h;rw [hu] at h
      split at h <;> simp_all
    · rename_i k k' z hu
      split at hl
      · rename_i hk; subst hk
        obtain ⟨z',hc,hd,_⟩ := DataW.trod_int hu h;cases hd; cases hl; exact hc
      · cases hl
    · rename_i fs parts hu
      split at hl
      case isFalse => cases hl
      rename_i hcg
      obtain ⟨vss,hm,rfl⟩ := Option.map_eq_some_iff.1 hl;simp only [DataW.trod,hu] at h
      split at h
      case isFalse => cases h
      rename_i hlen
      obtain ⟨xs,hx,he⟩ := Option.map_eq_some_iff.1 h;have hp : parts = xs.map (·.1) := by
        have := congrArg Prod.fst he; simp only [DataW.agg.injEq] at this; exact this.symm
      subst hp;have key : ∀ (l : List Field) (xs : List (DataW Unit × List MemPlace)) (vss : List (List Value)) (o e : Nat),
          (l.mapM fun f => DataW.trod (fun _ => ()) P W base sp held fuel f.type ((cs.drop f.offset).take (P.cellsOf f.type))) = some xs →
          ((l.zip (xs.map (·.1))).mapM fun x => litCells P n x.1.type x.2) = some vss → contig P o l = some e → (cs.drop o).take (e - o) = vss.flatten := by
        intro l
        induction l with
        | nil => intro xs vss o e h1 h2 h3; simp [contig] at h3; subst h3; simp at h2; subst h2; simp
        | cons f l ihl =>
          intro xs vss o e h1 h2 h3;obtain ⟨x,xs',hx,hxs,rfl⟩ := mapM_cons_some h1;rw [List.map_cons,List.zip_cons_cons] at h2;obtain ⟨v,vss',hv,hvs,rfl⟩ := mapM_cons_some h2;simp only [contig] at h3
          split at h3
          case isFalse => cases h3
          rename_i ho; subst ho
          have h4 := ihl xs' vss' _ e hxs hvs h3;have h5 := ih _ _ x.1 x.2 v hx hv;have h6 := contig_le l h3;rw [List.flatten_cons,← h4,← h5,← List.drop_drop];have : e - f.offset = P.cellsOf f.type + (e - (f.offset + P.cellsOf f.type)) := by omega
          rw [this,List.take_add]
      have := key _ _ _ 0 _ hx hm hcg;rw [List.drop_zero,Nat.sub_zero,← hlen,List.take_length] at this;exact this
    · rename_i m e parts hu
      split at hl
      case isFalse => cases hl
      rename_i hct
      obtain ⟨vss,hm,rfl⟩ := Option.map_eq_some_iff.1 hl;simp only [DataW.trod,hu] at h
      split at h
      case isFalse => cases h
      rename_i hlen
      obtain ⟨xs,hx,he⟩ := Option.map_eq_some_iff.1 h;have hp : parts = xs.map (·.1) := by
        have := congrArg Prod.fst he; simp only [DataW.agg.injEq] at this; exact this.symm
      subst hp;have key : ∀ (k a : Nat) (xs : List (DataW Unit × List MemPlace)) (vss : List (List Value)),
          ((List.range' a k).mapM fun i => DataW.trod (fun _ => ()) P W base sp held fuel e ((cs.drop (i * P.cellsOf e)).take (P.cellsOf e))) = some xs →
          ((xs.map (·.1)).mapM fun x => litCells P n e x) = some vss → (cs.drop (a * P.cellsOf e)).take (k * P.cellsOf e) = vss.flatten := by
        intro k
        induction k with
        | zero => intro a xs vss h1 h2; simp at h1; subst h1; simp at h2; subst h2; simp
        | succ k ihk =>
          intro a xs vss h1 h2;rw [List.range'_succ] at h1;obtain ⟨x,xs',hx,hxs,rfl⟩ := mapM_cons_some h1;rw [List.map_cons] at h2;obtain ⟨v,vss',hv,hvs,rfl⟩ := mapM_cons_some h2;have h4 := ihk _ xs' vss' hxs hvs;have h5 := ih _ _ x.1 x.2 v hx hv;rw [List.flatten_cons,← h4,← h5,Nat.add_mul a 1,Nat.one_mul,← List.drop_drop,Nat.add_comm k 1,Nat.add_mul 1 k,Nat.one_mul,List.take_add]
      rw [List.range_eq_range'] at hx;have := key m 0 xs vss hx hm;rw [Nat.zero_mul,List.drop_zero,← hct,← hlen,List.take_length] at this;exact this
    · cases hl
def litV : V → Option Value
  | .bool b => some (.bool b)
  | .int k n => some (.int k n)
  | _ => none
theorem litV_VR {wr : Nat → Prop} {W : World} {own : Own} {c : V} {v : Value} (h : litV c = some v) : VR wr W own c v := by
  cases c <;> simp [litV] at h
  · subst h; exact .bool _
  · subst h; exact .int _ _
theorem laid_fp {P : Program} {W : World} {name : String} {d : DataW Unit} {rest : List (String × DataW Unit)} {g n : Nat} {t : TypeId} {cs : List V} {vs : List Value} (hg : P.globalNamed name = some g) (hty : (P.globals[g]?).map (·.type) = some t)
    (hl : litCells P n t d = some vs) (hc : cs.mapM litV = some vs) (h : laidMet P ((name,d) :: rest) W) : VR (fun _ => False) W own0 (.fp (.ag cs)) (.pointer (some ⟨g,0,none⟩)) := by
  obtain ⟨ps,⟨g',t',as1,fuel,p,q,hg',ht',hvar,hd,_,_⟩,_⟩ := h;obtain rfl := Option.some.inj (hg.symm.trans hg');obtain rfl := Option.some.inj (hty.symm.trans ht');have he := litCells_spec n fuel t as1.toList d p vs hd hl;have hlt : g < W.heap.size := by
    simp only [World.var?,hg,Option.bind_some] at hvar
    split at hvar
    · rename_i h; exact (Array.getElem?_eq_some_iff.mp h).1
    · cases hvar
  have hat : ∀ (j : Nat) (c : V),cs[j]? = some c → ∃ v,as1[j]? = some v ∧ litV c = some v := by
    intro j c hj;obtain ⟨v,hv,hf⟩ := Lib.mapM_at hc j c hj;refine ⟨v,?_,hf⟩;rw [← Array.getElem?_toList,he]; exact hv
  refine .fp (fun j => as1.getD j undef) (fun h => h) hlt (fun j c hj => ?_) (fun j c hj => ?_)
  · obtain ⟨v,hv,_⟩ := hat j c hj;rw [Nat.zero_add,World.var?_cell hg hvar j,hv]
    simp [Array.getD_eq_getD_getElem?,hv]
  · obtain ⟨v,hv,hf⟩ := hat j c hj;have : as1.getD j undef = v := by simp [Array.getD_eq_getD_getElem?,hv]
    rw [this]; exact litV_VR hf
end Go.Eng
