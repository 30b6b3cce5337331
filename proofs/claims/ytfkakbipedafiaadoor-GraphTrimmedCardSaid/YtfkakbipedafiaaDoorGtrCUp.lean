/- Functions of this seat, run on unknown values by the rules of the small machine (no condition beyond those stated). -/
import Derived.Test.YtfkakbipedafiaaDoorGtrVUp
import Derived.Test.YtfkakbipedafiaaDoorGtrF
namespace Go.Eng.Gra
open Go Go.Eng
set_option linter.unusedSectionVars false
set_option linter.unusedVariables false
set_option linter.unusedSimpArgs false
def rl (g : T_Graph) (i : Nat) : Nat := ((aheadV g.fBlocks).getD i []).length
theorem AH_get (g : T_Graph) {i : Nat} (h : i < g.fBlocks.length) : ∃ r,(aheadV g.fBlocks)[i]? = some r ∧ r.length = rl g i := by
  have hl : i < (aheadV g.fBlocks).length := by rw [show (aheadV g.fBlocks).length = g.fBlocks.length from aheadS_len _ _]; exact h
  exact ⟨(aheadV g.fBlocks)[i],List.getElem?_eq_getElem hl,by unfold rl; rw [List.getD_eq_getElem?_getD,List.getElem?_eq_getElem hl]; rfl⟩
theorem rl_of {g : T_Graph} {i : Nat} {r : List Int} (h : (aheadV g.fBlocks)[i]? = some r) : rl g i = r.length := by
  unfold rl; rw [List.getD_eq_getElem?_getD,h]; rfl
def qP (p : List T_Graph) (g : T_Graph) (i : Nat) (b : T_Block) : Bool := endV g b.fTerm && (jn false (rl g i) 0 [] b.fIns && (!(decide (i = 0) && phi0 b) && b.fIns.all (tyB p g)))
theorem F32_is {p : List T_Graph} {g : T_Graph} (hs : SzG g) (hm : Small g) (hp : ∀ f ∈ p,Sz f.fParams) : F32 p g = some (hd g && allI (qP p g) 0 g.fBlocks) := by
  unfold F32;rw [F59_is g hs,Option.bind_some];refine ite_nn' fun _ => ?_
  have hbl := hm.blocks;have e13 : F13 g = some (aheadV g.fBlocks) := by unfold F13; rw [if_pos (by omega)]
  rw [e13,Option.bind_some];have e : iter (fun s : (Int) => F32_1_b p g (aheadV g.fBlocks) s) FUEL (0 : Int) = some (if allI (qP p g) 0 g.fBlocks = true then .go () else .ret false) := by
    refine loop_all (qP p g) (by omega) (fun i b h => ?_) ?_
    · have hil := lt_of h;have hmem := List.mem_of_getElem? h;have hbi := hm.ins b hmem;obtain ⟨r,hr,hrl⟩ := AH_get g hil;have ej : F32_j1 p g (aheadV g.fBlocks) (i : Int) b = some (if b.fIns.all (tyB p g) = true then .next ((i + 1 : Nat) : Int) else .ret false) := by
        unfold F32_j1;have : iter (fun s : (Int) => F32_2_b p g (aheadV g.fBlocks) (i : Int) b s) FUEL (0 : Int) = some (if b.fIns.all (tyB p g) = true then .go () else .ret false) := by
          rw [← allI_const (tyB p g) 0];refine loop_all (fun _ x => tyB p g x) (by omega) (fun k x hx => ?_) ?_
          · have hkl := lt_of hx;have hxm := List.mem_of_getElem? hx;obtain ⟨t,h31⟩ := F31_some p g x (hs.args b hmem x hxm) hp;simp only [F32_2_b,lt_dec hkl,if_true,idx_some hx,Option.bind_some,h31,wnat (show k ≤ 4611686018427387904 by omega)];cases tyB p g x <;> rfl
          · simp only [F32_2_b,ge_dec,Bool.false_eq_true,if_false]
        rw [this,wnat (show i ≤ 4611686018427387904 by omega)];cases b.fIns.all (tyB p g) <;> rfl
      rw [show qP p g i b = (endV g b.fTerm && (jn false (rl g i) 0 [] b.fIns && (!(decide (i = 0) && phi0 b) && b.fIns.all (tyB p g)))) from rfl];simp only [F32_1_b,lt_dec hil,if_true,idx_some h,Option.bind_some,F60_is,idx_some hr,hrl,F61_is b (rl g i) (by omega),ej]
      generalize endV g b.fTerm = A
      generalize jn false (rl g i) 0 [] b.fIns = B
      generalize hC : b.fIns.all (tyB p g) = C
      cases A
      · rfl
      cases B
      · rfl
      simp only [if_true,Bool.true_and]
      by_cases hi0 : i = 0
      · subst hi0;simp only [Int.natCast_zero,beq_self_eq_true,if_true,decide_true,Bool.true_and];cases hins : b.fIns with
        | nil => simp [phi0,hins]
        | cons y l =>
          have hpos : decide (((List.length (y :: l) : Nat) : Int) > 0) = true := decide_eq_true (by simp);rw [hpos];simp only [if_true,show idx (y :: l) (0 : Int) = some y from rfl,Option.bind_some,phi0,hins]
          by_cases hy : y.fKind = 1
          · have : (y.fKind == 1) = true := by simp [hy]
            rw [this,decide_eq_true hy]; rfl
          · have : (y.fKind == 1) = false := beq_f hy;rw [this,decide_eq_false hy]; rfl
      · have : ((i : Int) == 0) = false := beq_f (by omega);rw [this,decide_eq_false hi0]; rfl
    · simp only [F32_1_b,ge_dec,Bool.false_eq_true,if_false]
  rw [e];cases allI (qP p g) 0 g.fBlocks <;> rfl
def riB (p : List T_Graph) (g : T_Graph) : Bool := hd g && allI (qP p g) 0 g.fBlocks
structure Like (p p' : List T_Graph) : Prop where
  len : p'.length = p.length
  eq : ∀ (i : Nat) f f',p[i]? = some f → p'[i]? = some f' → f' = { f with fBlocks := f'.fBlocks }
theorem F58_like {p p' : List T_Graph} (h : Like p p') (hp : ∀ f ∈ p,Sz f.fParams) (x : T_Ins) (ts : List Int) (to : Int) : F58 p' x ts to = F58 p x ts to := by
  cases hr : inb x.fRef p.length with
  | false =>
    have hr' : inb x.fRef p'.length = false := by rw [h.len]; exact hr
    unfold F58;rw [in34',in34',hr,hr']
    rfl
  | true =>
    have hr' : inb x.fRef p'.length = true := by rw [h.len]; exact hr
    have h1 := of_decide_eq_true hr;have h2 := of_decide_eq_true hr';have hf : p[x.fRef.toNat]? = some (p[x.fRef.toNat]'(by omega)) := List.getElem?_eq_getElem (by omega)
    generalize p[x.fRef.toNat]'(by omega) = f at hf
    have hf' : p'[x.fRef.toNat]? = some (p'[x.fRef.toNat]'(by omega)) := List.getElem?_eq_getElem (by omega)
    generalize p'[x.fRef.toNat]'(by omega) = f' at hf'
    have e := h.eq _ _ _ hf hf';have hsz := hp f (List.mem_of_getElem? hf);rw [F58_is p x ts to f hf hr hsz,F58_is p' x ts to f' hf' hr' (by rw [e]; exact hsz),e]
theorem fm_like (g : T_Graph) (B : List T_Block) (x : T_Ins) : fm { g with fBlocks := B } x = fm g x := rfl
theorem F31_like {p p' : List T_Graph} (h : Like p p') (hp : ∀ f ∈ p,Sz f.fParams) (g : T_Graph) (B : List T_Block) (x : T_Ins) (hx : Sz x.fArgs) : F31 p' { g with fBlocks := B } x = F31 p g x := by
  have e1 : F51 { g with fBlocks := B } x = F51 g x := by rw [F51_is _ x hx,F51_is g x hx,fm_like]
  have e2 : ∀ ts to,F31_j1 p' { g with fBlocks := B } x ts to = F31_j1 p g x ts to := by
    intro ts to;simp only [F31_j1,F31_j3,F58_like h hp]
  unfold F31;rw [e1,F51_is g x hx,Option.bind_some,Option.bind_some];cases hfm : fm g x
  · rfl
  have hA := fm_args hfm;have e3 : F52 { g with fBlocks := B } x.fArgs = F52 g x.fArgs := by rw [F52_is g x.fArgs hx hA]; exact F52_is { g with fBlocks := B } x.fArgs hx hA
  simp only [Bool.not_true,Bool.false_eq_true,if_false,e2,e3]
theorem tyB_like {p p' : List T_Graph} (h : Like p p') (hp : ∀ f ∈ p,Sz f.fParams) (g : T_Graph) (B : List T_Block) (x : T_Ins) (hx : Sz x.fArgs) : tyB p' { g with fBlocks := B } x = tyB p g x := by
  unfold tyB; rw [F31_like h hp g B x hx]
theorem tyB_phi {p p' : List T_Graph} {g : T_Graph} {B : List T_Block} {x : T_Ins} {a : List Int} (hx : Sz x.fArgs) (ha : Sz a) (hk : x.fKind = 1) (hm : ∀ v ∈ a,v ∈ x.fArgs) (h : tyB p g x = true) : tyB p' { g with fBlocks := B } { x with fArgs := a } = true := by
  obtain ⟨t,e⟩ := F31_phi p g x hx hk;obtain ⟨t',e'⟩ := F31_phi p' { g with fBlocks := B } { x with fArgs := a } ha hk;unfold tyB at h ⊢;rw [e] at h;rw [e'];simp only [Bool.and_eq_true] at h ⊢;obtain ⟨k,op,dst,args,bits,ref⟩ := x;simp only at hk hm h;subst hk;obtain ⟨h1,h2⟩ := h;rw [fm_phi] at h1;rw [fm_like,fm_phi];simp only [fmV,Bool.and_eq_true] at h1 ⊢;have h3 := h1.2.2.2.2.2.2;refine ⟨⟨h1.1,h1.2.1,h1.2.2.1,h1.2.2.2.1,rfl,h1.2.2.2.2.2.1,?_⟩,?_⟩
  · rw [List.all_eq_true] at h3 ⊢;exact fun v hv => h3 v (hm v hv)
  · rw [List.all_eq_true] at h2 ⊢;exact fun v hv => h2 v (hm v hv)
theorem jn_args {n : Nat} : ∀ (l : List T_Ins) (k : Nat) (set : List Int),jn false n k set l = true → ∀ x ∈ l,x.fKind = 1 → x.fArgs.length = n
  | [],k,set,_,x,hx,_ => by simp at hx
  | y :: l,k,set,h,x,hx,hk => by
    unfold jn at h;rw [runs] at h;cases hs : stepPhi false n k set y with
    | inl r => rw [hs] at h; cases h
    | inr s =>
      rw [hs] at h;rcases List.mem_cons.1 hx with rfl | hx
      · unfold stepPhi at hs;rw [if_pos hk] at hs
        split at hs
        · cases hs
        · rename_i hb
          unfold badPhi at hb;simp only [Bool.false_or,Bool.or_eq_true,decide_eq_true_eq,not_or,Decidable.not_not] at hb;exact hb.2.1
      · exact jn_args l (k + 1) s (by unfold jn; exact h) x hx hk
theorem jn_map {n n1 : Nat} (f : T_Ins → T_Ins) (hk : ∀ x,(f x).fKind = x.fKind) (hd : ∀ x,(f x).fDst = x.fDst) (hl : ∀ x,x.fKind = 1 → x.fArgs.length = n → (f x).fArgs.length = n1) : ∀ (l : List T_Ins) (k : Nat) (set : List Int),jn false n k set l = true → jn false n1 k set (l.map f) = true
  | [],k,set,_ => rfl
  | y :: l,k,set,h => by
    unfold jn at h ⊢;rw [runs] at h;rw [List.map_cons,runs];have e : ∀ s,stepPhi false n k set y = .inr s → stepPhi false n1 k set (f y) = .inr s := by
      intro s hs;unfold stepPhi at hs ⊢;rw [hk]
      by_cases hy : y.fKind = 1
      · rw [if_pos hy] at hs ⊢
        split at hs
        · cases hs
        · rename_i hb
          have hb' : ¬ badPhi false n1 k set (f y) = true := by
            unfold badPhi at hb ⊢;simp only [Bool.false_or,Bool.or_eq_true,decide_eq_true_eq,not_or,Decidable.not_not] at hb ⊢;refine ⟨hb.1,hl y hy hb.2.1,?_⟩;rw [hd]; exact hb.2.2
          rw [if_neg hb',hd]; exact hs
      · rw [if_neg hy] at hs ⊢; exact hs
    cases hs : stepPhi false n k set y with
    | inl r => rw [hs] at h; cases h
    | inr s =>
      rw [hs] at h;rw [e s hs];exact jn_map f hk hd hl l (k + 1) s (by unfold jn; exact h)
theorem insV_kind (wr ord nw : List Int) (x : T_Ins) : (insV wr ord nw x).fKind = x.fKind := by unfold insV; split <;> rfl
theorem insV_dst (wr ord nw : List Int) (x : T_Ins) : (insV wr ord nw x).fDst = x.fDst := by unfold insV; split <;> rfl
theorem blk_eq {x : Int} {n : Nat} : blkV x n = true ↔ 0 < x ∧ x < (n : Int) := by unfold blkV; simp
theorem end_in {g : T_Graph} {t : T_Term} (h : endV g t = true) : EIn g.fBlocks.length t := by
  unfold endV at h
  by_cases h1 : t.fKind = 1
  · rw [if_pos h1] at h;simp only [Bool.and_eq_true,blk_eq] at h;have e : (t.fKind == 2) = false := by simp [h1]
    exact ⟨fun _ => h.1,fun hh => by unfold goV at hh; rw [e] at hh; simp at hh⟩
  rw [if_neg h1] at h
  by_cases h2 : t.fKind = 2
  · rw [if_pos h2] at h;simp only [Bool.and_eq_true,blk_eq] at h;exact ⟨fun _ => h.1,fun _ => h.2.1⟩
  have e1 : (t.fKind == 2) = false := by simp [h2]
  have e2 : (t.fKind == 1) = false := by simp [h1]
  exact ⟨fun hh => (by unfold goV at hh; rw [e1,e2] at hh; simp at hh),fun hh => (by unfold goV at hh; rw [e1,e2] at hh; simp at hh)⟩
theorem end_same {g : T_Graph} {B : List T_Block} {ord : List Int} (hB : B.length = ord.length) (h0 : ord[0]? = some 0) {t t1 : T_Term} (te : TE ord t t1) (h : endV g t = true) : endV { g with fBlocks := B } t1 = true := by
  have blk : ∀ {to to1 : Int},(0 < to ∧ to < (g.fBlocks.length : Int)) → (∃ j : Nat,ord[j]? = some to ∧ to1 = (j : Int)) → blkV to1 B.length = true := by
    rintro to to1 hto ⟨j,hj,rfl⟩;rw [blk_eq,hB];have := lt_of hj;have hj0 : j ≠ 0 := by rintro rfl; rw [h0] at hj; cases hj; omega
    omega
  have hin := end_in h;have ofs : ∀ w,ofV w t1 { g with fBlocks := B } = ofV w t g := fun w => by unfold ofV; rw [te.arg]
  unfold endV at h ⊢;simp only [te.kind,te.arg,te.trap,ofs]
  by_cases h1 : t.fKind = 1
  · rw [if_pos h1] at h ⊢;simp only [Bool.and_eq_true] at h ⊢;have g0 : goV t 0 = true := by unfold goV; simp [h1]
    have g1 : goV t 1 = false := by unfold goV; simp [h1]
    refine ⟨blk (hin.a0 g0) (te.a0 g0),?_,h.2.2⟩;rw [te.n1 g1]; exact h.2.1
  rw [if_neg h1] at h ⊢
  by_cases h2 : t.fKind = 2
  · rw [if_pos h2] at h ⊢;simp only [Bool.and_eq_true] at h ⊢;have g0 : goV t 0 = true := by unfold goV; simp [h2]
    have g1 : goV t 1 = true := by unfold goV; simp [h2]
    exact ⟨blk (hin.a0 g0) (te.a0 g0),blk (hin.a1 g1) (te.a1 g1),h.2.2⟩
  have g0 : goV t 0 = false := by unfold goV; simp [h1,h2]
  have g1 : goV t 1 = false := by unfold goV; simp [h1,h2]
  have eto : t1.fTo = t.fTo := by
    have a := te.n0 g0;have b := te.n1 g1;obtain ⟨_,_,⟨u0,u1⟩,_⟩ := t1;obtain ⟨_,_,⟨v0,v1⟩,_⟩ := t;simp only at a b ⊢;rw [a,b]
  rw [eto];rw [if_neg h2] at h ⊢;exact h
theorem allI_of {α : Type} {q : Nat → α → Bool} : ∀ (l : List α) (i : Nat),(∀ j a,l[j]? = some a → q (i + j) a = true) → allI q i l = true
  | [],i,h => rfl
  | x :: l,i,h => by
    rw [allI,Bool.and_eq_true];refine ⟨h 0 x rfl,allI_of l (i + 1) (fun j a ha => ?_)⟩;have := h (j + 1) a (by simpa using ha)
    rwa [show i + (j + 1) = i + 1 + j by omega] at this
theorem right_trim {p p' : List T_Graph} {g : T_Graph} {ord : List Int} {bs : List T_Block} (hl : Like p p') (hp : ∀ f ∈ p,Sz f.fParams) (hs : SzG g) (hN : g.fBlocks.length ≤ 400) (h0 : ord[0]? = some 0) (ht : TrimOf g ord bs) (h : riB p g = true) : riB p' { g with fBlocks := bs } = true := by
  unfold riB at h ⊢;rw [Bool.and_eq_true] at h ⊢;obtain ⟨hh,hb⟩ := h;have hlen := ht.iso.len;have hol := ht.ok.len;have hpos := lt_of h0;refine ⟨?_,allI_of _ _ (fun j b1 hj => ?_)⟩
  · unfold hd hdV at hh ⊢;simp only [Bool.and_eq_true,Bool.not_eq_true',decide_eq_false_iff_not] at hh ⊢;refine ⟨by omega,by omega,hh.2.2⟩
  · rw [Nat.zero_add];have hjl : j < bs.length := lt_of hj;have hk : ord[j]? = some (ord[j]'(by omega)) := List.getElem?_eq_getElem (by omega)
    generalize ord[j]'(by omega) = k at hk
    have hkr := ht.iso.rng k (List.mem_of_getElem? hk);obtain ⟨b,b1',hbk,hbj,te⟩ := ht.iso.blk j k hk;rw [hj] at hbj; cases hbj;obtain ⟨b1',nw,wr,hbj,hnw,hwr,hins,hwas⟩ := ht.ins j k b hk hbk;rw [hj] at hbj; cases hbj;have hq := allI_get _ _ hb k.toNat b hbk;rw [Nat.zero_add] at hq;unfold qP at hq ⊢;simp only [Bool.and_eq_true] at hq ⊢;obtain ⟨q1,q2,q3,q4⟩ := hq;have hbm := List.mem_of_getElem? hbk;rw [rl_of hwr] at q2;have hrl : rl { g with fBlocks := bs } j = nw.length := rl_of hnw;rw [hrl,hins];have hlenP : ∀ x,x.fKind = 1 → x.fArgs.length = wr.length → (insV wr ord nw x).fArgs.length = nw.length := by
      intro x hx hxl;unfold insV; rw [if_pos hx];exact (GT_all hxl nw hwas).1
    refine ⟨end_same hlen h0 te q1,jn_map _ (insV_kind wr ord nw) (insV_dst wr ord nw) hlenP _ _ _ q2,?_,?_⟩
    · rw [Bool.not_eq_true'] at q3 ⊢
      by_cases hj0 : j = 0
      · subst hj0;rw [h0] at hk; cases hk;rw [show decide ((0 : Int).toNat = 0) = true from rfl] at q3;rw [show decide (0 = 0) = true from rfl];unfold phi0 at q3 ⊢;rw [hins];cases hbi : b.fIns with
        | nil => rfl
        | cons y l =>
          rw [hbi] at q3;simp only [List.map_cons,insV_kind];exact q3
      · rw [decide_eq_false hj0]; rfl
    · rw [List.all_eq_true] at q4 ⊢;intro y hy;obtain ⟨x,hx,rfl⟩ := List.mem_map.1 hy;have hxs := hs.args b hbm x hx;have hty := q4 x hx;unfold insV
      by_cases hx1 : x.fKind = 1
      · rw [if_pos hx1];have hxl := jn_args _ _ _ q2 x hx hx1;obtain ⟨e1,e2⟩ := GT_all hxl nw hwas;have hnl : nw.length ≤ 140737488355328 := by
          have := aheadS_row bs bs.length nw (List.mem_of_getElem? hnw)
          omega
        exact tyB_phi hxs (by unfold Sz; omega) hx1 e2 hty
      · rw [if_neg hx1,tyB_like hl hp g bs x hxs]; exact hty
end Go.Eng.Gra
namespace Go.Eng.Gra
open Go Go.Eng
set_option linter.unusedSectionVars false
set_option linter.unusedVariables false
set_option linter.unusedSimpArgs false
structure Sm (g : T_Graph) : Prop where
  blocks : g.fBlocks.length ≤ 400
  params : g.fParams.length ≤ 2000
  vars : g.fVars.length ≤ 2000
  arrays : g.fArrays.length ≤ 2000
  ins : ∀ b ∈ g.fBlocks,b.fIns.length ≤ 2000
  args : ∀ b ∈ g.fBlocks,∀ x ∈ b.fIns,x.fArgs.length ≤ 2000
  bits : ∀ b ∈ g.fBlocks,∀ x ∈ b.fIns,0 ≤ x.fBits ∧ x.fBits < 18446744073709551616
theorem Sm.szg {g : T_Graph} (h : Sm g) : SzG g := by
  have := h.params; have := h.vars; have := h.arrays; have := h.blocks;exact ⟨by unfold Sz; omega,by unfold Sz; omega,by unfold Sz; omega,by unfold Sz; omega,fun b hb => by have := h.ins b hb; unfold Sz; omega,fun b hb x hx => by have := h.args b hb x hx; unfold Sz; omega,h.bits⟩
theorem Sm.small {g : T_Graph} (h : Sm g) : Small g := ⟨h.blocks,h.ins⟩
theorem Sm.trim {g : T_Graph} {ord : List Int} {bs : List T_Block} (h : Sm g) (ht : TrimOf g ord bs) : Sm { g with fBlocks := bs } := by
  have hlen := ht.iso.len;have hol := ht.ok.len;have hb := h.blocks;have key : ∀ b1 ∈ bs,∃ b nw wr,b ∈ g.fBlocks ∧ b1.fIns = b.fIns.map (insV wr ord nw) ∧ nw.length ≤ 2000 := by
    intro b1 hb1;obtain ⟨j,hj⟩ := List.getElem?_of_mem hb1;have hjl := lt_of hj;have hk : ord[j]? = some (ord[j]'(by omega)) := List.getElem?_eq_getElem (by omega)
    generalize ord[j]'(by omega) = k at hk
    obtain ⟨b,_,hbk,_,_⟩ := ht.iso.blk j k hk;obtain ⟨b1',nw,wr,hbj,hnw,hwr,hins,hwas⟩ := ht.ins j k b hk hbk;rw [hj] at hbj; cases hbj;have := aheadS_row bs bs.length nw (List.mem_of_getElem? hnw);exact ⟨b,nw,wr,List.mem_of_getElem? hbk,hins,by omega⟩
  refine ⟨by show bs.length ≤ _; omega,h.params,h.vars,h.arrays,fun b1 hb1 => ?_,fun b1 hb1 y hy => ?_,fun b1 hb1 y hy => ?_⟩
  · obtain ⟨b,nw,wr,hbm,hins,_⟩ := key b1 hb1;rw [hins,List.length_map]; exact h.ins b hbm
  · obtain ⟨b,nw,wr,hbm,hins,hn⟩ := key b1 hb1;rw [hins] at hy;obtain ⟨x,hx,rfl⟩ := List.mem_map.1 hy;unfold insV
    split
    · have : (nw.filterMap (GT wr ord x.fArgs)).length ≤ nw.length := List.length_filterMap_le ..;show (nw.filterMap (GT wr ord x.fArgs)).length ≤ 2000
      omega
    · exact h.args b hbm x hx
  · obtain ⟨b,nw,wr,hbm,hins,_⟩ := key b1 hb1;rw [hins] at hy;obtain ⟨x,hx,rfl⟩ := List.mem_map.1 hy;have : (insV wr ord nw x).fBits = x.fBits := by unfold insV; split <;> rfl
    rw [this];exact h.bits b hbm x hx
theorem ri_ends {p : List T_Graph} {g : T_Graph} (h : riB p g = true) : 0 < g.fBlocks.length ∧ ∀ b ∈ g.fBlocks,EIn g.fBlocks.length b.fTerm := by
  unfold riB at h;rw [Bool.and_eq_true] at h;obtain ⟨hh,hb⟩ := h;refine ⟨?_,fun b hbm => ?_⟩
  · unfold hd hdV at hh;simp only [Bool.and_eq_true,Bool.not_eq_true',decide_eq_false_iff_not] at hh
    omega
  · obtain ⟨i,hi⟩ := List.getElem?_of_mem hbm;have hq := allI_get _ _ hb i b hi;unfold qP at hq;simp only [Bool.and_eq_true] at hq;exact end_in hq.1
theorem trim_id {p : List T_Graph} {g : T_Graph} {ord : List Int} {bs : List T_Block} (hr : riB p g = true) (ht : TrimOf g ord bs) (hid : ord = (List.range g.fBlocks.length).map (fun j : Nat => (j : Int))) (hN : g.fBlocks.length ≤ 400) : bs = g.fBlocks := by
  have hol : ord.length = g.fBlocks.length := by rw [hid]; simp
  have hlen : bs.length = g.fBlocks.length := ht.iso.len.trans hol;have hget : ∀ j,j < g.fBlocks.length → ord[j]? = some (j : Int) := fun j hj => by rw [hid]; simp [hj]
  have hgo : ∀ (j : Nat) (k : Int),ord[j]? = some k → k = (j : Int) := fun j k hk => by
    have hjl := lt_of hk;rw [hget j (by omega)] at hk;exact (Option.some.inj hk).symm
  have terms : ∀ j : Nat,j < g.fBlocks.length → ∃ b b1,g.fBlocks[j]? = some b ∧ bs[j]? = some b1 ∧ b1.fTerm = b.fTerm := by
    intro j hj;obtain ⟨b,b1,h1,h2,te⟩ := ht.iso.blk j j (hget j hj);rw [Int.toNat_natCast] at h1;refine ⟨b,b1,h1,h2,?_⟩;have a0 : b1.fTerm.fTo.a0 = b.fTerm.fTo.a0 := by
      cases hg : goV b.fTerm 0
      · exact te.n0 hg
      · obtain ⟨i,hi,e⟩ := te.a0 hg;rw [e,hgo i _ hi]
    have a1 : b1.fTerm.fTo.a1 = b.fTerm.fTo.a1 := by
      cases hg : goV b.fTerm 1
      · exact te.n1 hg
      · obtain ⟨i,hi,e⟩ := te.a1 hg;rw [e,hgo i _ hi]
    have ek := te.kind; have ea := te.arg; have et := te.trap;obtain ⟨_,⟨k1,r1,⟨u0,u1⟩,p1⟩⟩ := b1;obtain ⟨_,⟨k2,r2,⟨v0,v1⟩,p2⟩⟩ := b;simp only at a0 a1 ek ea et ⊢;rw [a0,a1,ek,ea,et]
  have hah : aheadV bs = aheadV g.fBlocks := by
    unfold aheadV;rw [hlen];refine aheadS_congr hlen (fun j => ?_) _
    by_cases hj : j < g.fBlocks.length
    · obtain ⟨b,b1,h1,h2,h3⟩ := terms j hj;rw [h1,h2];exact congrArg some (next_term h3)
    · rw [List.getElem?_eq_none (by omega),List.getElem?_eq_none (by omega)]
  unfold riB at hr;rw [Bool.and_eq_true] at hr;refine List.ext_getElem? fun j => ?_
  by_cases hj : j < g.fBlocks.length
  · obtain ⟨b,b1,h1,h2,h3⟩ := terms j hj;obtain ⟨b1',nw,wr,hbj,hnw,hwr,hins,hwas⟩ := ht.ins j j b (hget j hj) (by rw [Int.toNat_natCast]; exact h1);rw [h2] at hbj; cases hbj;rw [hah] at hnw;rw [Int.toNat_natCast,hnw] at hwr;cases hwr;have hq := allI_get _ _ hr.2 j b h1;rw [Nat.zero_add] at hq;unfold qP at hq;simp only [Bool.and_eq_true] at hq;have q2 := hq.2.1;rw [rl_of hnw] at q2;have hnw' : rowP g.fBlocks g.fBlocks.length j = nw := by
      unfold aheadV at hnw;rw [ahead_row g.fBlocks g.fBlocks.length j (Nat.le_refl _) hj] at hnw;exact Option.some.inj hnw
    have hnd : nw.Nodup := by
      rw [← hnw'];exact (row_up g.fBlocks g.fBlocks.length j).imp (fun h => by omega)
    have hsz : Sz nw := by
      have := aheadS_row g.fBlocks g.fBlocks.length nw (List.mem_of_getElem? hnw);unfold Sz; omega
    have hio : ∀ q ∈ nw,idx ord q = some q := by
      intro q hq;rw [← hnw'] at hq;obtain ⟨c,hq0,hc,_⟩ := row_mem.1 hq;have := lt_of hc;unfold idx;rw [if_pos hq0,hget q.toNat this,Int.toNat_of_nonneg hq0]
    have hmap : b.fIns.map (insV nw ord nw) = b.fIns := by
      refine (List.map_congr_left fun x hx => ?_).trans (List.map_id _);unfold insV
      split
      · rename_i hx1
        rw [GT_id (jn_args _ _ _ q2 x hx hx1) hnd hsz hio]
        rfl
      · rfl
    rw [h1,h2];obtain ⟨i1,t1⟩ := b1;obtain ⟨i2,t2⟩ := b;simp only at h3 hins hmap ⊢;rw [h3,hins,hmap]
  · rw [List.getElem?_eq_none (by omega),List.getElem?_eq_none (by omega)]
end Go.Eng.Gra
namespace Go.Eng.Gra
open Go Go.Eng
set_option linter.unusedSectionVars false
set_option linter.unusedVariables false
set_option linter.unusedSimpArgs false
structure Small2 (g : T_Graph) : Prop where
  blocks : g.fBlocks.length ≤ 400
  params : g.fParams.length ≤ 2000
  vars : g.fVars.length ≤ 2000
  arrays : g.fArrays.length ≤ 2000
  ins : ∀ b ∈ g.fBlocks,b.fIns.length ≤ 2000
  args : ∀ b ∈ g.fBlocks,∀ x ∈ b.fIns,x.fArgs.length ≤ 2000
theorem first_none {α R : Type} : ∀ (l : List α) (i : Nat),first (R := R) (fun _ _ => none) i l = none
  | [],_ => rfl
  | a :: l,i => by simp only [first]; exact first_none l (i + 1)
theorem loop_go {α R A : Type} {l : List α} {f : Int → Option (Stp Int R A)} {a0 : A} (hl : l.length < 4611686018427387904) (hin : ∀ (i : Nat) (a : α),l[i]? = some a → f (i : Int) = some (.next ((i + 1 : Nat) : Int))) (hout : f (l.length : Int) = some (.go a0)) : iter f FUEL 0 = some (.go a0) := by
  rw [loop_first (a0 := a0) (fun _ _ => none) hl (fun i a h => hin i a h) hout,first_none]; rfl
theorem F17_refl (l : List Int) (hl : Sz l) : F17 l l = some true := by
  unfold Sz at hl;have e : iter (fun s : (Int) => F17_1_b l l s) FUEL (0 : Int) = some (.go ()) := by
    refine loop_go (l := l) (by omega) (fun i a h => ?_) ?_
    · have := lt_of h;simp only [F17_1_b,lt_dec this,if_true,idx_some h,Option.bind_some,wnat (show i ≤ 4611686018427387904 by omega),bne_self_eq_false,Bool.false_eq_true,if_false]
    · simp only [F17_1_b,ge_dec,Bool.false_eq_true,if_false]
  unfold F17;rw [e]; simp
theorem F40_refl (l : List Int) (hl : Sz l) : F40 l l = some true := by
  unfold Sz at hl;have e : iter (fun s : (Int) => F40_1_b l l s) FUEL (0 : Int) = some (.go ()) := by
    refine loop_go (l := l) (by omega) (fun i a h => ?_) ?_
    · have := lt_of h;simp only [F40_1_b,lt_dec this,if_true,idx_some h,Option.bind_some,wnat (show i ≤ 4611686018427387904 by omega),bne_self_eq_false,Bool.false_eq_true,if_false]
    · simp only [F40_1_b,ge_dec,Bool.false_eq_true,if_false]
  unfold F40;rw [e]; simp
theorem F41_refl (l : List T_Array) (hl : Sz l) : F41 l l = some true := by
  unfold Sz at hl;have e : iter (fun s : (Int) => F41_1_b l l s) FUEL (0 : Int) = some (.go ()) := by
    refine loop_go (l := l) (by omega) (fun i a h => ?_) ?_
    · have := lt_of h;simp only [F41_1_b,lt_dec this,if_true,idx_some h,Option.bind_some,wnat (show i ≤ 4611686018427387904 by omega),decide_true,Bool.not_true,Bool.false_eq_true,if_false]
    · simp only [F41_1_b,ge_dec,Bool.false_eq_true,if_false]
  unfold F41;rw [e]; simp
theorem F97_refl (x : T_Ins) (hl : Sz x.fArgs) : F97 x x = some true := by
  unfold F97
  simp [F17_refl _ hl]
theorem F87_refl (l : List T_Ins) (hl : Sz l) (hr : ∀ x ∈ l,Sz x.fArgs) : F87 l l = some true := by
  unfold Sz at hl;have e : iter (fun s : (Int) => F87_1_b l l s) FUEL (0 : Int) = some (.go ()) := by
    refine loop_go (l := l) (by omega) (fun i a h => ?_) ?_
    · have := lt_of h;simp only [F87_1_b,lt_dec this,if_true,idx_some h,Option.bind_some,F97_refl a (hr a (List.mem_of_getElem? h)),wnat (show i ≤ 4611686018427387904 by omega),Bool.not_true,Bool.false_eq_true,if_false]
    · simp only [F87_1_b,ge_dec,Bool.false_eq_true,if_false]
  unfold F87;rw [e]; simp
theorem F64_refl (b : T_Block) (hl : Sz b.fIns) (hr : ∀ x ∈ b.fIns,Sz x.fArgs) : F64 b b = some true := by
  unfold F64;rw [F87_refl _ hl hr,Option.bind_some,if_pos rfl]; simp
theorem F42_refl (l : List T_Block) (hl : Sz l) (hi : ∀ b ∈ l,Sz b.fIns) (hr : ∀ b ∈ l,∀ x ∈ b.fIns,Sz x.fArgs) : F42 l l = some true := by
  unfold Sz at hl;have e : iter (fun s : (Int) => F42_1_b l l s) FUEL (0 : Int) = some (.go ()) := by
    refine loop_go (l := l) (by omega) (fun i a h => ?_) ?_
    · have := lt_of h;have hm := List.mem_of_getElem? h;simp only [F42_1_b,lt_dec this,if_true,idx_some h,Option.bind_some,F64_refl a (hi a hm) (hr a hm),wnat (show i ≤ 4611686018427387904 by omega),Bool.not_true,Bool.false_eq_true,if_false]
    · simp only [F42_1_b,ge_dec,Bool.false_eq_true,if_false]
  unfold F42;rw [e]; simp
theorem F24_refl (g : T_Graph) (hp : Sz g.fParams) (hv : Sz g.fVars) (ha : Sz g.fArrays) (hb : Sz g.fBlocks) (hi : ∀ b ∈ g.fBlocks,Sz b.fIns) (hr : ∀ b ∈ g.fBlocks,∀ x ∈ b.fIns,Sz x.fArgs) : F24 g g = some true := by
  unfold F24
  simp [F17_refl _ hp,F40_refl _ hv,F41_refl _ ha,F42_refl _ hb hi hr]
theorem F12_is2 (g : T_Graph) (hs : SzG g) : ∃ b,F12 g = some b ∧ (b = false → Small2 g) := by
  unfold F12
  by_cases h1 : ((List.length g.fBlocks : Nat) : Int) > 400
  · exact ⟨true,by rw [decide_eq_true h1]; rfl,fun h => by cases h⟩
  rw [decide_eq_false h1];simp only [Bool.false_eq_true,if_false]
  by_cases h2 : ((List.length g.fVars : Nat) : Int) > 2000
  · exact ⟨true,by rw [decide_eq_true h2]; rfl,fun h => by cases h⟩
  rw [decide_eq_false h2];simp only [Bool.false_eq_true,if_false]
  by_cases h3 : ((List.length g.fArrays : Nat) : Int) > 2000
  · exact ⟨true,by rw [decide_eq_true h3]; rfl,fun h => by cases h⟩
  rw [decide_eq_false h3];simp only [Bool.false_eq_true,if_false]
  by_cases h4 : ((List.length g.fParams : Nat) : Int) > 2000
  · exact ⟨true,by rw [decide_eq_true h4]; rfl,fun h => by cases h⟩
  rw [decide_eq_false h4];simp only [Bool.false_eq_true,if_false];have key : ∃ o,iter (fun s : (Int × Int) => F12_1_b g s.1 s.2) FUEL ((0 : Int),(0 : Int)) = some o ∧ (o = .ret true ∨ o = .go () ∧ ∀ b ∈ g.fBlocks,b.fIns.length ≤ 2000 ∧ ∀ x ∈ b.fIns,x.fArgs.length ≤ 2000) := by
    refine iter_ok (I := fun m s => ∃ i : Nat,i ≤ g.fBlocks.length ∧ m = g.fBlocks.length - i ∧ s.2 = (i : Int) ∧ 0 ≤ s.1 ∧ s.1 ≤ 2000 ∧ ∀ (j : Nat) b,j < i → g.fBlocks[j]? = some b → b.fIns.length ≤ 2000 ∧ ∀ x ∈ b.fIns,x.fArgs.length ≤ 2000) ?_ FUEL g.fBlocks.length _ ⟨0,by omega,by omega,rfl,by decide,by decide,fun j b h => by omega⟩ (by unfold FUEL; omega);rintro m ⟨n,i'⟩ ⟨i,hi,rfl,hi',hn0,hn1,hall⟩;simp only at hi' hn0 hn1;subst hi';unfold F12_1_b
    by_cases hil : i < g.fBlocks.length
    · have hb : g.fBlocks[i]? = some g.fBlocks[i] := List.getElem?_eq_getElem hil
      generalize g.fBlocks[i] = b at hb
      have hmem : b ∈ g.fBlocks := List.mem_of_getElem? hb;have hbi := hs.ins b hmem;unfold Sz at hbi;have hw : IntKind.i64.wrap (n + ((List.length b.fIns : Nat) : Int)) = n + ((List.length b.fIns : Nat) : Int) := wrap64_in (by omega) (by omega);simp only [lt_dec hil,if_true,idx_some hb,Option.bind_some,hw];have hin : ∃ o,iter (fun s : (Int × Int) => F12_2_b g (i : Int) s.1 s.2) FUEL (n + ((List.length b.fIns : Nat) : Int),(0 : Int)) = some o ∧ ∃ v,o = .go v ∧ n + ((List.length b.fIns : Nat) : Int) ≤ v ∧ (v ≤ 2000 → ∀ x ∈ b.fIns,x.fArgs.length ≤ 2000) := by
        refine iter_ok (I := fun m s => ∃ k : Nat,k ≤ b.fIns.length ∧ m = b.fIns.length - k ∧ s.2 = (k : Int) ∧ n + ((List.length b.fIns : Nat) : Int) ≤ s.1 ∧ s.1 ≤ 562949953421312 ∧ 0 ≤ s.1 ∧ ∀ (j : Nat) x,j < k → b.fIns[j]? = some x → ((List.length x.fArgs : Nat) : Int) ≤ s.1) ?_ FUEL b.fIns.length _ ⟨0,by omega,by omega,rfl,by simp,by simp only; omega,by simp only; omega,fun j x h => by omega⟩ (by unfold FUEL; omega);rintro m ⟨v,k'⟩ ⟨k,hk,rfl,hk',hv0,hv1,hv2,hv3⟩;simp only at hk' hv0 hv1 hv2 hv3;subst hk';unfold F12_2_b;simp only [idx_some hb,Option.bind_some]
        by_cases hkl : k < b.fIns.length
        · have hx : b.fIns[k]? = some b.fIns[k] := List.getElem?_eq_getElem hkl
          generalize b.fIns[k] = x at hx
          have hxa := hs.args b hmem x (List.mem_of_getElem? hx);unfold Sz at hxa;simp only [lt_dec hkl,if_true,idx_some hx,Option.bind_some]
          by_cases hv : v ≤ 2000
          · rw [decide_eq_true hv];have hw2 : IntKind.i64.wrap (v + ((List.length x.fArgs : Nat) : Int)) = v + ((List.length x.fArgs : Nat) : Int) := wrap64_in (by omega) (by omega);refine ⟨_,rfl,b.fIns.length - (k + 1),by omega,k + 1,by omega,rfl,wnat (by omega),?_,?_,?_,?_⟩
            · simp only [hw2]; omega
            · simp only [hw2]; omega
            · simp only [hw2]; omega
            · simp only [hw2];intro j y hj hy
              by_cases hjk : j = k
              · subst hjk; rw [hx] at hy; cases hy; omega
              · have := hv3 j y (by omega) hy; omega
          · rw [decide_eq_false hv];exact ⟨_,rfl,v,rfl,hv0,fun h => absurd h hv⟩
        · have : k = b.fIns.length := by omega
          subst this;simp only [ge_dec,Bool.false_eq_true,if_false];exact ⟨_,rfl,v,rfl,hv0,fun h y hy => by
            obtain ⟨j,hj⟩ := List.getElem?_of_mem hy;have := hv3 j y (List.getElem?_eq_some_iff.mp hj).1 hj
            omega⟩
      obtain ⟨o,ho,v,rfl,hv,hva⟩ := hin;rw [ho,Option.bind_some]
      by_cases hv2 : v > 2000
      · exact ⟨.ret true,by simp only [decide_eq_true hv2,if_true],.inl rfl⟩
      · refine ⟨.next (v,IntKind.i64.wrap ((i : Int) + 1)),by simp only [decide_eq_false hv2,Bool.false_eq_true,if_false],g.fBlocks.length - (i + 1),by omega,i + 1,by omega,rfl,wnat (by omega),by simp only; omega,by simp only; omega,fun j c hj hc => ?_⟩
        by_cases hji : j = i
        · subst hji; rw [hb] at hc; cases hc; exact ⟨by omega,hva (by omega)⟩
        · exact hall j c (by omega) hc
    · have : i = g.fBlocks.length := by omega
      subst this;simp only [ge_dec,Bool.false_eq_true,if_false];refine ⟨_,rfl,.inr ⟨rfl,fun b hb => ?_⟩⟩;obtain ⟨j,hj,rfl⟩ := List.mem_iff_getElem.mp hb;exact hall j _ hj (List.getElem?_eq_getElem hj)
  obtain ⟨o,ho,h | ⟨h,hall⟩⟩ := key
  · rw [ho,h]; exact ⟨true,rfl,fun h => by cases h⟩
  · rw [ho,h]; exact ⟨false,rfl,fun _ => ⟨by omega,by omega,by omega,by omega,fun b hb => (hall b hb).1,fun b hb => (hall b hb).2⟩⟩
theorem Sm.of {g : T_Graph} (hs : SzG g) (h : Small2 g) : Sm g := ⟨h.blocks,h.params,h.vars,h.arrays,h.ins,h.args,hs.bits⟩
theorem Sm.same {g : T_Graph} (h : Sm g) : F24 g g = some true := by
  have hs := h.szg;exact F24_refl g hs.params hs.vars hs.arrays hs.blocks hs.ins hs.args
end Go.Eng.Gra
