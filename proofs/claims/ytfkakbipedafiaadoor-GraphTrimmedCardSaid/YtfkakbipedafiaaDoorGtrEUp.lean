/- Functions of this seat, run on unknown values by the rules of the small machine (no condition beyond those stated). -/
import Derived.Test.YtfkakbipedafiaaDoorGtrCUp
import Derived.Test.YtfkakbipedafiaaDoorGt7F
import Derived.Test.YtfkakbipedafiaaDoorEngM0Up
import GoSem.ClaimChange
import Derived.Below
import Derived.Carry
import Derived.SizedLaws
import Derived.Test.YtfkakbipedafiaaDoorEngT
namespace Go.Eng.Gra
open Go Go.Eng
set_option linter.unusedSectionVars false
set_option linter.unusedVariables false
set_option linter.unusedSimpArgs false
theorem runs_app {α R : Type} : ∀ (l : List α) (i : Nat) (s : List α),runs (R := R) (fun _ (s : List α) a => .inr (s ++ [a])) i s l = .inr (s ++ l)
  | [],i,s => by simp [runs]
  | a :: l,i,s => by
    simp only [runs];rw [runs_app l]
    simp
theorem copy_loop {α R : Type} (l : List α) (f : List α × Int → Option (Stp (List α × Int) R (List α))) (hl : l.length < 4611686018427387904) (hin : ∀ (i : Nat) (a : α) (s : List α),l[i]? = some a → s.length = i → f (s,(i : Int)) = some (.next (s ++ [a],((i + 1 : Nat) : Int)))) (hout : ∀ s,f (s,(l.length : Int)) = some (.go s)) : iter f FUEL ([],(0 : Int)) = some (.go l) := by
  have e : iter f FUEL ([],(0 : Int)) = some (outOf (R := R) (fun s : List α => s) (runs (R := R) (fun _ (s : List α) a => .inr (s ++ [a])) 0 [] l)) := by
    refine loop_st (l := l) (f := f) (fun s i => (s,i)) (fun s => s) (fun _ (s : List α) a => .inr (s ++ [a])) (fun i s => s.length = i) hl (fun i s a hs ha => ⟨hin i a s ha hs,fun s' hs' => ?_⟩) (fun s _ => hout s) rfl;cases hs'
    simp [hs]
  rw [e,runs_app]; rfl
theorem more_zero {α : Type} {by_ : Nat} {l : List α} (h : l.length * by_ ≤ 140737488355328) : more by_ ([] : List α) l = some l := by
  unfold more;rw [if_pos (by simpa using h)]; rfl
theorem F67_id (l : List Int) (h : l.length ≤ 2000) : F67 l = some l := by unfold F67; rw [more_zero (by omega)]; rfl
theorem F68_id (l : List Int) (h : l.length ≤ 2000) : F68 l = some l := by unfold F68; rw [more_zero (by omega)]; rfl
theorem F69_id (l : List T_Array) (h : l.length ≤ 2000) : F69 l = some l := by unfold F69; rw [more_zero (by omega)]; rfl
theorem F101_id (x : T_Ins) (h : x.fArgs.length ≤ 2000) : F101 x = some x := by unfold F101; rw [F67_id _ h]; rfl
theorem F98_id (l : List T_Ins) (hl : l.length ≤ 2000) (h : ∀ x ∈ l,x.fArgs.length ≤ 2000) : F98 l = some l := by
  unfold F98;rw [copy_loop l (fun s : ((List T_Ins) × Int) => F98_1_b l s.1 s.2) (by omega) (fun i a s ha hs => ?_) (fun s => ?_)]
  · rfl
  · have := lt_of ha;simp only [F98_1_b,lt_dec this,if_true,idx_some ha,Option.bind_some,F101_id a (h a (List.mem_of_getElem? ha)),wnat (show i ≤ 4611686018427387904 by omega)];rw [more_nat (by simp only [List.length_singleton]; omega)]; rfl
  · simp only [F98_1_b,ge_dec,Bool.false_eq_true,if_false]
theorem F88_id (b : T_Block) (hl : b.fIns.length ≤ 2000) (h : ∀ x ∈ b.fIns,x.fArgs.length ≤ 2000) : F88 b = some b := by unfold F88; rw [F98_id _ hl h]; rfl
theorem F70_id (l : List T_Block) (hl : l.length ≤ 2000) (h : ∀ b ∈ l,b.fIns.length ≤ 2000 ∧ ∀ x ∈ b.fIns,x.fArgs.length ≤ 2000) : F70 l = some l := by
  unfold F70;rw [copy_loop l (fun s : ((List T_Block) × Int) => F70_1_b l s.1 s.2) (by omega) (fun i a s ha hs => ?_) (fun s => ?_)]
  · rfl
  · have := lt_of ha;have hb := h a (List.mem_of_getElem? ha);simp only [F70_1_b,lt_dec this,if_true,idx_some ha,Option.bind_some,F88_id a hb.1 hb.2,wnat (show i ≤ 4611686018427387904 by omega)];rw [more_nat (by simp only [List.length_singleton]; omega)]; rfl
  · simp only [F70_1_b,ge_dec,Bool.false_eq_true,if_false]
theorem F50_id (g : T_Graph) (h : Sm g) : F50 g = some g := by
  have := h.blocks;unfold F50;rw [F67_id _ h.params,Option.bind_some,F68_id _ h.vars,Option.bind_some,F69_id _ h.arrays,Option.bind_some,F70_id _ (by omega) (fun b hb => ⟨h.ins b hb,h.args b hb⟩)]; rfl
theorem F30_id (p : List T_Graph) (hl : p.length ≤ 2000) (h : ∀ g ∈ p,Sm g) : F30 p = some p := by
  unfold F30;rw [copy_loop p (fun s : ((List T_Graph) × Int) => F30_1_b p s.1 s.2) (by omega) (fun i a s ha hs => ?_) (fun s => ?_)]
  · rfl
  · have := lt_of ha;simp only [F30_1_b,lt_dec this,if_true,idx_some ha,Option.bind_some,F50_id a (h a (List.mem_of_getElem? ha)),wnat (show i ≤ 4611686018427387904 by omega)];rw [more_nat (by simp only [List.length_singleton]; omega)]; rfl
  · simp only [F30_1_b,ge_dec,Bool.false_eq_true,if_false]
theorem first_get {α R : Type} {q : Nat → α → Option R} : ∀ (l : List α) (i : Nat),first q i l = none → ∀ j a,l[j]? = some a → q (i + j) a = none
  | [],i,h,j,a,ha => by simp at ha
  | x :: l,i,h,j,a,ha => by
    simp only [first] at h
    split at h
    · cases h
    · rename_i hx
      cases j with
      | zero => simp at ha; subst ha; exact hx
      | succ j =>
        have := first_get l (i + 1) h j a (by simpa using ha)
        rwa [show i + (j + 1) = i + 1 + j by omega]
theorem first_nil {α R : Type} {q : Nat → α → Option R} : ∀ (l : List α) (i : Nat),(∀ j a,l[j]? = some a → q (i + j) a = none) → first q i l = none
  | [],i,h => rfl
  | x :: l,i,h => by
    simp only [first];rw [show q i x = none from h 0 x rfl];exact first_nil l (i + 1) (fun j a ha => by
      have := h (j + 1) a (by simpa using ha)
      rwa [show i + (j + 1) = i + 1 + j by omega] at this)
theorem first_ex {α R : Type} {q : Nat → α → Option R} {r : R} : ∀ (l : List α) (i : Nat),first q i l = some r → ∃ j a,q j a = some r
  | [],i,h => by cases h
  | x :: l,i,h => by
    simp only [first] at h
    split at h
    · rename_i hx; exact ⟨i,x,hx.trans h⟩
    · exact first_ex l (i + 1) h
theorem check_is (p : List T_Graph) (hs : ∀ g ∈ p,Sm g) : ∃ r : Int × Int,F10 p = some r ∧ (r.1 = 0 ∨ r.1 = 3 ∨ r.1 = 4) ∧ (r.1 = 0 ↔ p.length ≤ 64 ∧ ∀ g ∈ p,riB p g = true) := by
  have hp : ∀ f ∈ p,Sz f.fParams := fun f hf => (hs f hf).szg.params
  have h32 : ∀ g ∈ p,F32 p g = some (riB p g) := fun g hg => F32_is (hs g hg).szg (hs g hg).small hp
  unfold F10
  by_cases hc : ((List.length p : Nat) : Int) > 64
  · rw [decide_eq_true hc];refine ⟨(3,0),rfl,.inr (.inl rfl),fun h => (by cases h),fun h => by have := h.1; omega⟩
  rw [decide_eq_false hc];simp only [Bool.false_eq_true,if_false];have e1 : iter (fun s : (Int) => F10_1_b p s) FUEL (0 : Int) = some (outF () (first (fun i g => if riB p g then none else some ((4 : Int),((i : Nat) : Int))) 0 p)) := by
    refine loop_first (l := p) (fun i g => if riB p g then none else some ((4 : Int),(i : Int))) (by omega) (fun i a h => ?_) ?_
    · have := lt_of h;simp only [F10_1_b,lt_dec this,if_true,idx_some h,Option.bind_some,h32 a (List.mem_of_getElem? h),wnat (show i ≤ 4611686018427387904 by omega)];cases riB p a <;> rfl
    · simp only [F10_1_b,ge_dec,Bool.false_eq_true,if_false]
  rw [e1];cases hf : first (fun i g => if riB p g then none else some ((4 : Int),((i : Nat) : Int))) 0 p with
  | none =>
    refine ⟨(0,0),rfl,.inl rfl,fun _ => ⟨by omega,fun g hg => ?_⟩,fun _ => rfl⟩;obtain ⟨j,hj⟩ := List.getElem?_of_mem hg;have := first_get _ _ hf j g hj
    by_cases hr : riB p g = true
    · exact hr
    · rw [if_neg hr] at this; cases this
  | some r =>
    have hr4 : r.1 = 4 := by
      obtain ⟨j,a,h⟩ := first_ex _ _ hf
      split at h
      · cases h
      · cases h; rfl
    refine ⟨r,rfl,.inr (.inr hr4),fun h => by omega,fun h => ?_⟩;have : first (fun i g => if riB p g then none else some ((4 : Int),((i : Nat) : Int))) 0 p = none := first_nil _ _ (fun j a ha => by rw [if_pos (h.2 a (List.mem_of_getElem? ha))]);rw [hf] at this; cases this
theorem check_ok (p : List T_Graph) (hs : ∀ g ∈ p,Sm g) (hl : p.length ≤ 64) (hr : ∀ g ∈ p,riB p g = true) : ∃ r : Int × Int,F10 p = some r ∧ r.1 = 0 := by
  obtain ⟨r,h1,_,h3⟩ := check_is p hs;exact ⟨r,h1,h3.2 ⟨hl,hr⟩⟩
theorem F8_is2 (p : List T_Graph) (hp : Sz p) (hs : ∀ g ∈ p,SzG g) : ∃ b,F8 p = some b ∧ (b = false → p.length ≤ 100 ∧ ∀ g ∈ p,Sm g) := by
  unfold Sz at hp;unfold F8
  by_cases h1 : ((List.length p : Nat) : Int) > 100
  · exact ⟨true,by rw [decide_eq_true h1]; rfl,fun h => by cases h⟩
  rw [decide_eq_false h1];simp only [Bool.false_eq_true,if_false];have key : ∃ o,iter (fun s : (Int) => F8_1_b p s) FUEL (0 : Int) = some o ∧ (o = .ret true ∨ o = .go () ∧ ∀ g ∈ p,Sm g) := by
    refine iter_ok (I := fun m s => ∃ i : Nat,i ≤ p.length ∧ m = p.length - i ∧ s = (i : Int) ∧ ∀ (j : Nat) g,j < i → p[j]? = some g → Sm g) ?_ FUEL p.length _ ⟨0,by omega,by omega,rfl,fun j g h => by omega⟩ (by unfold FUEL; omega);rintro m s ⟨i,hi,rfl,rfl,hall⟩;unfold F8_1_b
    by_cases hil : i < p.length
    · have hg : p[i]? = some p[i] := List.getElem?_eq_getElem hil
      generalize p[i] = g at hg
      have hmem := List.mem_of_getElem? hg;obtain ⟨b,hb1,hb2⟩ := F12_is2 g (hs g hmem);simp only [lt_dec hil,if_true,idx_some hg,Option.bind_some,hb1];cases b
      · refine ⟨_,rfl,?_⟩;refine ⟨p.length - (i + 1),by omega,i + 1,by omega,rfl,wnat (show i ≤ 4611686018427387904 by omega),fun j g' hj hg' => ?_⟩
        by_cases hji : j = i
        · subst hji; rw [hg] at hg'; cases hg'; exact Sm.of (hs _ hmem) (hb2 rfl)
        · exact hall j g' (by omega) hg'
      · exact ⟨_,rfl,.inl rfl⟩
    · have : i = p.length := by omega
      subst this;simp only [ge_dec,Bool.false_eq_true,if_false];refine ⟨_,rfl,.inr ⟨rfl,fun g hg => ?_⟩⟩;obtain ⟨j,hj⟩ := List.getElem?_of_mem hg;exact hall j g (lt_of hj) hj
  obtain ⟨o,ho,h⟩ := key;rw [ho];rcases h with rfl | ⟨rfl,h⟩
  · exact ⟨true,rfl,fun h => by cases h⟩
  · exact ⟨false,rfl,fun _ => ⟨by omega,h⟩⟩
end Go.Eng.Gra
namespace Go.Eng.Gra
open Go Go.Eng
set_option linter.unusedSectionVars false
set_option linter.unusedVariables false
set_option linter.unusedSimpArgs false
theorem ri_like {p p' : List T_Graph} (h : Like p p') (hp : ∀ f ∈ p,Sz f.fParams) {g : T_Graph} (hs : SzG g) : riB p' g = riB p g := by
  unfold riB
  congr 1
  refine allI_congr 0 g.fBlocks (fun j b hb => ?_);unfold qP;have : b.fIns.all (tyB p' g) = b.fIns.all (tyB p g) := by
    have key : ∀ x ∈ b.fIns,tyB p' g x = tyB p g x := fun x hx => tyB_like h hp g g.fBlocks x (hs.args b (List.mem_of_getElem? hb) x hx)
    rw [Bool.eq_iff_iff,List.all_eq_true,List.all_eq_true];exact ⟨fun h x hx => by rw [← key x hx]; exact h x hx,fun h x hx => by rw [key x hx]; exact h x hx⟩
  rw [this]
def Good (p : List T_Graph) (g : T_Graph) : Prop := ∀ p',Like p p' → riB p' g = true
theorem good_self {p : List T_Graph} (hp : ∀ f ∈ p,Sz f.fParams) {g : T_Graph} (hs : SzG g) (h : riB p g = true) : Good p g := fun p' hl => by rw [ri_like hl hp hs]; exact h
theorem Like.refl (p : List T_Graph) : Like p p := ⟨rfl,fun i f f' h h' => by rw [h] at h'; cases h'; rfl⟩
theorem Like.set {p q : List T_Graph} (h : Like p q) {i : Nat} {g : T_Graph} (hg : p[i]? = some g) (B : List T_Block) : Like p (q.set i { g with fBlocks := B }) := by
  refine ⟨by rw [List.length_set]; exact h.len,fun j f f' hf hf' => ?_⟩
  by_cases hj : j = i
  · subst hj;rw [hg] at hf; cases hf;have hl : j < q.length := by rw [h.len]; exact lt_of hg
    rw [List.getElem?_set_self hl] at hf';cases hf'
    rfl
  · rw [List.getElem?_set_ne (fun e => hj e.symm)] at hf';exact h.eq j f f' hf hf'
theorem trimmed (p : List T_Graph) (hl : Sz p) (hs : ∀ g ∈ p,SzG g) : F7 p = some true := by
  unfold F7;rw [awake9,Option.bind_some];simp only [Bool.not_true,Bool.false_eq_true,if_false];obtain ⟨b,hb,hsm⟩ := F8_is2 p hl hs;rw [hb,Option.bind_some];cases b
  case true => rfl
  obtain ⟨h100,hsm⟩ := hsm rfl;simp only [Bool.false_eq_true,if_false];have hp : ∀ f ∈ p,Sz f.fParams := fun f hf => (hs f hf).params
  obtain ⟨r,hr,hr3,hriff⟩ := check_is p hsm;rw [hr,Option.bind_some]
  by_cases h0 : r.1 = 0
  case neg =>
    have : (r.1 != 0) = true := by simp [h0]
    rw [this];simp only [if_true];rcases hr3 with h | h | h
    · exact absurd h h0
    · rw [h]; rfl
    · rw [h]; rfl
  obtain ⟨h64,hri⟩ := hriff.1 h0;have : (r.1 != 0) = false := by simp [h0]
  rw [this];simp only [Bool.false_eq_true,if_false];rw [F30_id p (by omega) hsm,Option.bind_some];have key : ∃ o,iter (fun s : ((List T_Graph) × Int) => F7_1_b p s.1 s.2) FUEL (p,(0 : Int)) = some o ∧ o = .go () := by
    refine iter_ok (I := fun m s => ∃ i : Nat,i ≤ p.length ∧ m = p.length - i ∧ s.2 = (i : Int) ∧ Like p s.1 ∧ ∀ g ∈ s.1,Good p g ∧ Sm g) ?_ FUEL p.length _ ⟨0,by omega,by omega,rfl,Like.refl p,fun g hg => ⟨good_self hp (hs g hg) (hri g hg),hsm g hg⟩⟩ (by unfold FUEL; omega);rintro m ⟨q,i'⟩ ⟨i,hi,rfl,hi',hq,hgood⟩;simp only at hi' hq hgood;subst hi';unfold F7_1_b
    by_cases hil : i < p.length
    case neg =>
      have : i = p.length := by omega
      subst this;simp only [ge_dec,Bool.false_eq_true,if_false];exact ⟨_,rfl,rfl⟩
    have hg : p[i]? = some p[i] := List.getElem?_eq_getElem hil
    generalize p[i] = g at hg
    have hmem := List.mem_of_getElem? hg;have hgs := hsm g hmem;have hgr := hri g hmem;obtain ⟨hpos,hends⟩ := ri_ends hgr;obtain ⟨ord,bs,ho,ht,hto⟩ := trim_of hgs.blocks hgs.params hgs.vars hgs.arrays hgs.ins hgs.args hends;have hhead := order_head hpos hgs.blocks ho;have hts := hgs.trim hto;have hqi : i < q.length := by rw [hq.len]; exact hil
    have hq' : Like p (q.set i { g with fBlocks := bs }) := hq.set hg bs;have hgt : Good p { g with fBlocks := bs } := fun p' hl' => right_trim hl' hp (hs g hmem) hgs.blocks hhead hto hgr
    have hall : ∀ g' ∈ q.set i { g with fBlocks := bs },Good p g' ∧ Sm g' := by
      intro g' hg';rcases List.mem_or_eq_of_mem_set hg' with h | h
      · exact hgood g' h
      · rw [h]; exact ⟨hgt,hts⟩
    obtain ⟨rc,hc1,hc2⟩ := check_ok (q.set i { g with fBlocks := bs }) (fun g' hg' => (hall g' hg').2) (by rw [List.length_set,hq.len]; exact h64) (fun g' hg' => (hall g' hg').1 _ hq');have hix : (q.set i { g with fBlocks := bs })[i]? = some { g with fBlocks := bs } := List.getElem?_set_self hqi;have hrr : riB p { g with fBlocks := bs } = true := hgt p (Like.refl p);obtain ⟨hpos1,hends1⟩ := ri_ends hrr;obtain ⟨ord1,bs1,ho1,ht1,hto1⟩ := trim_of hts.blocks hts.params hts.vars hts.arrays hts.ins hts.args hends1;have hid := order_id hpos hgs.blocks ho hto.iso hto.ok.len ho1 hto1.ok.rng;have hol : ord.length = bs.length := hto.iso.len.symm;rw [hol] at hid;have hsame : bs1 = bs := trim_id hrr hto1 hid hts.blocks;have hlen1 : ord1.length = bs.length := by rw [hid]; simp
    rw [hsame] at ht1;have hF24 := hts.same;have e14 : F14 g = some ord := ho;have e14' : F14 { g with fBlocks := bs } = some ord1 := ho1;have hbl := hts.blocks;have hin : iter (fun s : (Int) => F7_2_b p (i : Int) (q.set i { g with fBlocks := bs }) ord1 s) FUEL (0 : Int) = some (.go ()) := by
      refine loop_go (l := ord1) (by rw [hlen1]; simp only at hbl; omega) (fun k a ha => ?_) ?_
      · have hk := lt_of ha;have hka : a = (k : Int) := by
          rw [hid] at ha;rw [hlen1] at hk;rw [List.getElem?_map,List.getElem?_range hk] at ha;exact (Option.some.inj ha).symm
        subst hka;have hkb : k ≤ 4611686018427387904 := by rw [hlen1] at hk; simp only at hbl; omega
        simp only [F7_2_b,lt_dec hk,if_true,idx_some ha,Option.bind_some,bne_self_eq_false,Bool.false_eq_true,if_false,wnat hkb]
      · simp only [F7_2_b,ge_dec,Bool.false_eq_true,if_false]
    have hqe : q[i]? = some (q[i]'hqi) := List.getElem?_eq_getElem hqi;have b1 : (rc.1 != 0) = false := by simp [hc2]
    have b2 : (((List.length ord1 : Nat) : Int) != ((List.length bs : Nat) : Int)) = false := by simp [hlen1]
    have b3 : (((List.length ord1 : Nat) : Int) != ((List.length ord : Nat) : Int)) = false := by simp [hlen1,hol]
    simp only [lt_dec hil,if_true,idx_some hg,Option.bind_some,ht,idx_some hqe,upd_nat hqi,hc1,idx_some hix,e14',b1,Bool.false_eq_true,if_false,b2,e14,b3,ht1,hF24,Bool.not_true,hin];refine ⟨_,rfl,p.length - (i + 1),by omega,i + 1,by omega,rfl,wnat (show i ≤ 4611686018427387904 by omega),hq',hall⟩
  obtain ⟨o,e,rfl⟩ := key;rw [e]; rfl
end Go.Eng.Gra
namespace Go.Eng
open Go
set_option linter.unusedSectionVars false
set_option linter.unusedVariables false
set_option linter.unusedSimpArgs false
variable [Glob]
mutual
def bulkD {H : Type} : DataW H → Nat
  | .lit (.string bytes) => bytes.length + 1
  | .lit _ => 1
  | .nil => 1
  | .ptr d => bulkD d + 1
  | .slice elems spare => bulkDs elems + bulkDs spare + 1
  | .agg parts => bulkDs parts + 1
  | .iface _ d => bulkD d + 1
  | .map _ => 1
  | .held _ => 1
def bulkDs {H : Type} : List (DataW H) → Nat
  | [] => 0
  | d :: r => bulkD d + bulkDs r
end
theorem bulkD_pos {H : Type} (d : DataW H) : 1 ≤ bulkD d := by
  cases d with
  | lit l => cases l <;> simp [bulkD]
  | nil => simp [bulkD]
  | ptr d => simp [bulkD]
  | slice a b => simp [bulkD]
  | agg a => simp [bulkD]
  | iface t d => simp [bulkD]
  | map e => simp [bulkD]
  | held h => simp [bulkD]
theorem bulkDs_len {H : Type} : ∀ (l : List (DataW H)),l.length ≤ bulkDs l
  | [] => Nat.zero_le _
  | d :: r => by have := bulkDs_len r; have := bulkD_pos d; simp only [bulkDs,List.length_cons]; omega
theorem bulkDs_mem {H : Type} : ∀ (l : List (DataW H)) (d : DataW H),d ∈ l → bulkD d ≤ bulkDs l
  | [],d,h => by simp at h
  | x :: r,d,h => by
    simp only [bulkDs];rcases List.mem_cons.mp h with rfl | h
    · omega
    · have := bulkDs_mem r d h; omega
def mkV (ag : Bool) (us : List V) : V := if ag then .ag us else us.headD .un
def scal : Value → V
  | .bool b => .bool b
  | .int k n => .int k n
  | .string s => .str s
  | .float .f64 b => .fl (some b)
  | _ => .un
def cellsAt (W : World) (a : Addr) (n : Nat) : List Value := (List.range n).map fun j => (W.cell? (a.add j)).getD undef
def absL (P : Program) (W : World) : Nat → TypeId → List Value → List V
  | 0,_,cs => cs.map fun _ => .un
  | n + 1,t,cs => match P.underlying t with
    | some .bool | some (.int _) | some (.float .f64) | some .string => cs.map scal
    | some (.slice e) => match cs with
      | [.slice (some a) len _] => [.fz ((List.range len).map fun i => mkV (agOf P e) (absL P W n e (cellsAt W (a.add (i * P.cellsOf e)) (P.cellsOf e))))]
      | [.slice none 0 0] => [.fz []]
      | cs => cs.map fun _ => .un
    | some (.struct fs) => fs.toList.flatMap fun f => absL P W n f.type ((cs.drop f.offset).take (P.cellsOf f.type))
    | some (.array m e) => (List.range' 0 m).flatMap fun i => absL P W n e ((cs.drop (i * P.cellsOf e)).take (P.cellsOf e))
    | _ => cs.map fun _ => .un
def WfT (P : Program) (B : Nat) : Nat → TypeId → List V → Prop
  | 0,_,_ => False
  | n + 1,t,us => match P.underlying t with
    | some .bool => ∃ b,us = [.bool b]
    | some (.int k) => ∃ m,us = [.int k m] ∧ k.min ≤ m ∧ m ≤ k.max
    | some (.float .f64) => ∃ b : Nat,us = [.fl (some b)] ∧ b < 18446744073709551616
    | some .string => ∃ s,us = [.str s] ∧ s.size ≤ min B 140737488355328
    | some (.slice e) => ∃ xs,us = [.fz xs] ∧ xs.length ≤ min B 140737488355328 ∧ ∀ x ∈ xs,x.isAg = agOf P e ∧ x.cells.length = P.cellsOf e ∧ WfT P B n e x.cells
    | some (.struct fs) => us.length = P.cellsOf t ∧ ∀ f ∈ fs.toList,WfT P B n f.type ((us.drop f.offset).take (P.cellsOf f.type))
    | some (.array m e) => us.length = m * P.cellsOf e ∧ ∀ i,i < m → WfT P B n e ((us.drop (i * P.cellsOf e)).take (P.cellsOf e))
    | _ => True
def flatOk (P : Program) : Nat → List Field → Option Nat
  | o,[] => some o
  | o,f :: r => if f.offset = o then flatOk P (o + P.cellsOf f.type) r else none
def allFlat (P : Program) : Bool := (List.range P.types.size).all fun t => match P.underlying t with
  | some (.struct fs) => flatOk P 0 fs.toList == some (P.cellsOf t) && fs.toList.all (fun f => decide (f.type < P.types.size))
  | some (.array m e) => decide (P.cellsOf t = m * P.cellsOf e) && decide (e < P.types.size)
  | some (.slice e) => (agOf P e || (P.cellsOf e == 1)) && decide (0 < P.cellsOf e) && decide (e < P.types.size) && decide (0 < P.bytesOf e)
  | _ => true
section
variable {P : Program} {W : World} {H : Type} {enc : TypeId × Value → H} {spare : Nat → Bool}
theorem opt_mapM_spec {α β : Type} {f : α → Option β} : ∀ {l : List α} {r : List β},l.mapM f = some r → l.length = r.length ∧ ∀ (j : Nat) a,l[j]? = some a → ∃ b,r[j]? = some b ∧ f a = some b
  | [],r,h => by simp at h; subst h; exact ⟨rfl,fun j a h => by simp at h⟩
  | a :: l,r,h => by
    rw [List.mapM_cons] at h;simp only [bind,Option.bind_eq_some_iff,pure,Option.some.injEq] at h;obtain ⟨b,hb,r',hr,rfl⟩ := h;obtain ⟨h1,h2⟩ := opt_mapM_spec hr;refine ⟨by simp [h1],fun j x hx => ?_⟩;cases j with
    | zero => simp at hx; subst hx; exact ⟨b,by simp,hb⟩
    | succ j => simpa using h2 j x (by simpa using hx)
theorem cells?_spec {base : Nat} {a : Addr} {n : Nat} {cs : List Value} (h : W.cells? base a n = some cs) : cs = cellsAt W a n ∧ ∀ j,j < n → W.cell? (a.add j) = some (cs.getD j undef) := by
  unfold World.cells? at h
  split at h
  · obtain ⟨h1,h2⟩ := opt_mapM_spec h
    simp at h1
    have key : ∀ j,j < n → W.cell? (a.add j) = some (cs.getD j undef) := by
      intro j hj;obtain ⟨b,hb,hf⟩ := h2 j j (by simp [hj]);rw [hf]; simp [List.getD,hb]
    refine ⟨?_,key⟩;apply List.ext_getElem?;intro j;rcases Nat.lt_or_ge j n with hj | hj
    · have hk := key j hj
      simp [cellsAt,hj,hk,List.getD]
      have : j < cs.length := by omega
      simp [this]
    · rw [List.getElem?_eq_none (by omega),List.getElem?_eq_none (by simp [cellsAt]; omega)]
  · cases h
theorem mkV_cells {ag : Bool} {us : List V} (h : ag = true ∨ us.length = 1) (hc : ag = false → ∀ u ∈ us,u.isAg = false) : (mkV ag us).cells = us ∧ (mkV ag us).isAg = ag := by
  cases ag with
  | true => exact ⟨rfl,rfl⟩
  | false =>
    have hl := h.resolve_left (by simp)
    match us,hl with
    | [u],_ =>
      have := hc rfl u (by simp);refine ⟨?_,this⟩;show u.cells = [u];cases u <;> simp_all [V.isAg,V.cells]
theorem absL_noAg : ∀ (n : Nat) (t : TypeId) (cs : List Value),∀ u ∈ absL P W n t cs,u.isAg = false
  | 0,t,cs,u,h => by simp [absL] at h; obtain ⟨_,_,rfl⟩ := h; rfl
  | n + 1,t,cs,u,h => by
    have scal_no : ∀ v : Value,(scal v).isAg = false := fun v => by
      cases v with
      | float k b => cases k <;> rfl
      | _ => rfl
    have un_no : ∀ (l : List Value),u ∈ l.map (fun _ => V.un) → u.isAg = false := fun l h => by
      simp at h; obtain ⟨_,_,rfl⟩ := h; rfl
    unfold absL at h
    split at h
    · obtain ⟨v,_,rfl⟩ := List.mem_map.mp h; exact scal_no v
    · obtain ⟨v,_,rfl⟩ := List.mem_map.mp h; exact scal_no v
    · obtain ⟨v,_,rfl⟩ := List.mem_map.mp h; exact scal_no v
    · obtain ⟨v,_,rfl⟩ := List.mem_map.mp h; exact scal_no v
    · split at h
      · simp at h; subst h; rfl
      · simp at h; subst h; rfl
      · exact un_no _ h
    · obtain ⟨f,_,hf⟩ := List.mem_flatMap.mp h;exact absL_noAg n _ _ u hf
    · obtain ⟨f,_,hf⟩ := List.mem_flatMap.mp h;exact absL_noAg n _ _ u hf
    · exact un_no _ h
theorem arr_spec {g : Nat → List V} {cs : List Value} {R : V → Value → Prop} {z : Nat} : ∀ (k a : Nat),
    (∀ i,a ≤ i → i < a + k → (g i).length = z ∧ ∀ j c,(g i)[j]? = some c → R c (cs.getD (i * z + j) undef)) →
    ((List.range' a k).flatMap g).length = k * z ∧ (∀ j c,((List.range' a k).flatMap g)[j]? = some c → R c (cs.getD (a * z + j) undef)) ∧ ∀ i,a ≤ i → i < a + k → (((List.range' a k).flatMap g).drop ((i - a) * z)).take z = g i
  | 0,a,hg => ⟨by simp,fun j c h => by simp at h,fun i h1 h2 => by omega⟩
  | k + 1,a,hg => by
    obtain ⟨i1,i2,i3⟩ := arr_spec (g := g) (cs := cs) (R := R) (z := z) k (a + 1) (fun i h1 h2 => hg i (by omega) (by omega));obtain ⟨g1,g2⟩ := hg a (Nat.le_refl a) (by omega);rw [List.range'_succ,List.flatMap_cons];refine ⟨by rw [List.length_append,g1,i1,Nat.add_mul]; omega,fun j c hj => ?_,fun i h1 h2 => ?_⟩
    · rcases Nat.lt_or_ge j (g a).length with hlt | hge
      · rw [List.getElem?_append_left hlt] at hj;exact g2 j c hj
      · rw [List.getElem?_append_right hge] at hj;have := i2 _ c hj
        rwa [show (a + 1) * z + (j - (g a).length) = a * z + j by rw [Nat.add_mul]; omega] at this
    · by_cases hi : i = a
      · subst hi;rw [Nat.sub_self,Nat.zero_mul,List.drop_zero,List.take_append_of_le_length (by omega),List.take_of_length_le (by omega)]
      · have h3 := i3 i (by omega) (by omega);have e : (i - a) * z = z + (i - (a + 1)) * z := by
          have : i - a = 1 + (i - (a + 1)) := by omega
          rw [this,Nat.add_mul,Nat.one_mul]
        rw [e,← List.drop_drop,← g1,List.drop_left,g1];exact h3
theorem seg_spec {g : Field → List V} {cs : List Value} {R : V → Value → Prop} : ∀ (fs : List Field) (o m : Nat),flatOk P o fs = some m → m ≤ cs.length →
    (∀ f ∈ fs,(g f).length = P.cellsOf f.type ∧ ∀ j c,(g f)[j]? = some c → R c (cs.getD (f.offset + j) undef)) →
    o ≤ m ∧ (fs.flatMap g).length = m - o ∧ (∀ j c,(fs.flatMap g)[j]? = some c → R c (cs.getD (o + j) undef)) ∧ ∀ f ∈ fs,o ≤ f.offset ∧ ((fs.flatMap g).drop (f.offset - o)).take (P.cellsOf f.type) = g f
  | [],o,m,h,_,_ => by
    simp only [flatOk,Option.some.injEq] at h; subst h;exact ⟨Nat.le_refl _,by simp,fun j c h => by simp at h,fun f h => by simp at h⟩
  | f :: r,o,m,h,hm,hg => by
    simp only [flatOk] at h
    split at h
    · rename_i ho
      obtain ⟨i0,i1,i2,i3⟩ := seg_spec (g := g) (R := R) r _ m h hm (fun f' hf' => hg f' (by simp [hf']));obtain ⟨g1,g2⟩ := hg f (by simp);refine ⟨by omega,by rw [List.flatMap_cons,List.length_append,g1,i1]; omega,fun j c hj => ?_,fun f' hf' => ?_⟩
      · rw [List.flatMap_cons] at hj;rcases Nat.lt_or_ge j (g f).length with hlt | hge
        · rw [List.getElem?_append_left hlt] at hj;have := g2 j c hj
          rwa [ho] at this
        · rw [List.getElem?_append_right hge] at hj;have := i2 _ c hj
          rwa [show o + P.cellsOf f.type + (j - (g f).length) = o + j by omega] at this
      · rcases List.mem_cons.mp hf' with rfl | hf'
        · refine ⟨by omega,?_⟩;rw [ho,Nat.sub_self,List.drop_zero,List.flatMap_cons,List.take_append_of_le_length (by omega),List.take_of_length_le (by omega)]
        · obtain ⟨j1,j2⟩ := i3 f' hf';refine ⟨by omega,?_⟩;rw [List.flatMap_cons,List.drop_append,List.drop_of_length_le (by omega),List.nil_append,g1];rw [show f'.offset - o - P.cellsOf f.type = f'.offset - (o + P.cellsOf f.type) by omega]; exact j2
    · cases h
theorem allFlat_struct (hf : allFlat P = true) {t : TypeId} {fs : Array Field} (h : P.underlying t = some (.struct fs)) (ht : t < P.types.size) :
    flatOk P 0 fs.toList = some (P.cellsOf t) ∧ ∀ f ∈ fs.toList,f.type < P.types.size := by
  have := List.all_eq_true.mp hf t (List.mem_range.mpr ht);rw [h] at this;simp only [Bool.and_eq_true,beq_iff_eq,List.all_eq_true,decide_eq_true_eq] at this;exact this
theorem allFlat_slice (hf : allFlat P = true) {t e : TypeId} (h : P.underlying t = some (.slice e)) (ht : t < P.types.size) : (((agOf P e = true ∨ P.cellsOf e = 1) ∧ 0 < P.cellsOf e) ∧ e < P.types.size) ∧ 0 < P.bytesOf e := by
  have := List.all_eq_true.mp hf t (List.mem_range.mpr ht);rw [h] at this;simp only [Bool.and_eq_true,Bool.or_eq_true,beq_iff_eq,decide_eq_true_eq] at this;exact this
theorem allFlat_array (hf : allFlat P = true) {t m e : Nat} (h : P.underlying t = some (.array m e)) (ht : t < P.types.size) : P.cellsOf t = m * P.cellsOf e ∧ e < P.types.size := by
  have := List.all_eq_true.mp hf t (List.mem_range.mpr ht);rw [h] at this;simp only [Bool.and_eq_true,decide_eq_true_eq] at this;exact this
abbrev VR0 (W : World) : V → Value → Prop := VR (fun _ => False) W own0
theorem un_rel (l : List Value) : ∀ (j : Nat) (c : V),(l.map fun _ => V.un)[j]? = some c → VR0 W c (l.getD j undef) := by
  intro j c hj;simp only [List.getElem?_map,Option.map_eq_some_iff] at hj;obtain ⟨_,_,rfl⟩ := hj;exact .un _
theorem weights_mem_all {e : TypeId} : ∀ {l : List (DataW H)} {d : DataW H},d ∈ l → ∀ n ∈ d.weights P e,n ∈ DataW.weightsAll P e l
  | d0 :: l,d,hd,n,hn => by
    simp only [DataW.weightsAll,List.mem_append];rcases List.mem_cons.mp hd with rfl | hd
    · exact .inl hn
    · exact .inr (weights_mem_all hd n hn)
theorem trod_V (hf : allFlat P = true) {B : Nat} : ∀ (n : Nat) (t : TypeId) (cs : List Value) (d : DataW H) (ps : List MemPlace),t < P.types.size →
    DataW.trod enc P W 0 spare true n t cs = some (d,ps) → bulkD d ≤ B → (∀ x ∈ d.weights P t,x ≤ reachBytes) →
    (absL P W n t cs).length = cs.length ∧ (∀ j c,(absL P W n t cs)[j]? = some c → VR0 W c (cs.getD j undef)) ∧ WfT P B n t (absL P W n t cs)
  | 0,t,cs,d,ps,_,h,_,_ => by simp [DataW.trod] at h
  | n + 1,t,cs,d,ps,ht,h,hB,hwt => by
    unfold DataW.trod at h;unfold absL WfT
    split at h
    · rename_i b hu
      rw [hu];refine ⟨rfl,fun j c hj => ?_,b,rfl⟩;cases j with
      | zero => simp [scal] at hj; subst hj; exact .bool b
      | succ j => simp at hj
    · rename_i k k' m hu
      rw [hu]
      split at h
      · rename_i hk
        obtain ⟨rfl,hwf⟩ := hk;simp only [Lit.wf,Bool.and_eq_true,decide_eq_true_eq] at hwf;refine ⟨rfl,fun j c hj => ?_,m,rfl,hwf.1,hwf.2⟩;cases j with
        | zero => simp [scal] at hj; subst hj; exact .int _ m
        | succ j => simp at hj
      · cases h
    · rename_i k k' m hu
      rw [hu]
      split at h
      · rename_i hk
        obtain ⟨rfl,hwf⟩ := hk;cases k' with
        | f32 => exact ⟨rfl,un_rel _,trivial⟩
        | f64 =>
          refine ⟨rfl,fun j c hj => ?_,m,rfl,by simpa [Lit.wf] using hwf⟩;cases j with
          | zero => simp [scal] at hj; subst hj; exact .flt m
          | succ j => simp at hj
      · cases h
    · rename_i s hu
      rw [hu]
      split at h
      · cases h;refine ⟨rfl,fun j c hj => ?_,s,rfl,?_⟩
        · cases j with
          | zero => simp [scal] at hj; subst hj; exact .str s
          | succ j => simp at hj
        · simp only [bulkD,Array.length_toList] at hB;have : s.size = s.data.size := rfl;have hw1 := hwt _ (by simp only [DataW.weights]; exact List.mem_singleton.2 rfl);have hw3 : reachBytes < 140737488355328 := by decide
          simp only [Array.length_toList] at hw1
          omega
      · cases h
    · rename_i hu; rw [hu]; exact ⟨rfl,un_rel _,trivial⟩
    · rename_i hu; rw [hu]; exact ⟨by simp,un_rel _,trivial⟩
    · rename_i hu
      rw [hu];refine ⟨rfl,fun j c hj => ?_,[],rfl,Nat.zero_le _,fun x hx => by simp at hx⟩;cases j with
      | zero => simp at hj; subst hj; exact .fzn
      | succ j => simp at hj
    · rename_i e a len cap hu
      rw [hu]
      dsimp only at h
      obtain ⟨⟨⟨hag,hz0⟩,het⟩,hby⟩ := allFlat_slice hf hu ht
      split at h
      · rename_i hcond
        simp only [Option.bind_eq_some_iff,Option.map_eq_some_iff] at h;obtain ⟨elems,hel,rest,hrest,he⟩ := h;cases he;obtain ⟨l1,l2⟩ := opt_mapM_spec hel;simp only [List.length_range] at l1;have hBs : bulkDs (elems.map (·.1)) ≤ B := by simp only [bulkD] at hB; omega
        have hlenB : len ≤ B := by have := bulkDs_len (elems.map (·.1)); simp at this; omega
        have hlenW : len ≤ 140737488355328 := by
          have h1 := hwt ((elems.length + rest.length) * P.bytesOf e) (by simp [DataW.weights,hu]);have h2 : elems.length + rest.length ≤ (elems.length + rest.length) * P.bytesOf e := Nat.le_mul_of_pos_right _ hby;have h3 : reachBytes < 140737488355328 := by decide
          omega
        have el : ∀ i,i < len → ∃ x,elems[i]? = some x ∧ W.cells? 0 (a.add (i * P.cellsOf e)) (P.cellsOf e) = some (cellsAt W (a.add (i * P.cellsOf e)) (P.cellsOf e)) ∧
            DataW.trod enc P W 0 spare true n e (cellsAt W (a.add (i * P.cellsOf e)) (P.cellsOf e)) = some x := by
          intro i hi;obtain ⟨x,hx,hb⟩ := l2 i i (by simp [hi]);simp only [Option.bind_eq_some_iff] at hb;obtain ⟨ccs,hccs,htr⟩ := hb;have := (cells?_spec hccs).1;subst this;exact ⟨x,hx,hccs,htr⟩
        have ih : ∀ i,i < len → (absL P W n e (cellsAt W (a.add (i * P.cellsOf e)) (P.cellsOf e))).length = P.cellsOf e ∧
            (∀ j c,(absL P W n e (cellsAt W (a.add (i * P.cellsOf e)) (P.cellsOf e)))[j]? = some c → VR0 W c ((cellsAt W (a.add (i * P.cellsOf e)) (P.cellsOf e)).getD j undef)) ∧
            WfT P B n e (absL P W n e (cellsAt W (a.add (i * P.cellsOf e)) (P.cellsOf e))) := by
          intro i hi;obtain ⟨⟨dx,px⟩,hx,_,htr⟩ := el i hi;have hbx : bulkD dx ≤ B := Nat.le_trans (bulkDs_mem _ _ (List.mem_map.mpr ⟨_,List.mem_of_getElem? hx,rfl⟩)) hBs;have := trod_V hf n e _ dx px het htr hbx (fun x hx' => hwt x (by simp only [DataW.weights,hu,List.mem_cons,List.mem_append]; exact .inr (.inl (weights_mem_all (List.mem_map.mpr ⟨_,List.mem_of_getElem? hx,rfl⟩) x hx'))));refine ⟨by rw [this.1]; simp [cellsAt],this.2.1,this.2.2⟩
        have mk : ∀ i,i < len → (mkV (agOf P e) (absL P W n e (cellsAt W (a.add (i * P.cellsOf e)) (P.cellsOf e)))).cells = absL P W n e (cellsAt W (a.add (i * P.cellsOf e)) (P.cellsOf e)) ∧
            (mkV (agOf P e) (absL P W n e (cellsAt W (a.add (i * P.cellsOf e)) (P.cellsOf e)))).isAg = agOf P e := by
          intro i hi;refine mkV_cells ?_ (fun _ => absL_noAg n e _);rcases hag with h | h
          · exact .inl h
          · right; rw [(ih i hi).1,h]
        have getx : ∀ i x,((List.range len).map fun i => mkV (agOf P e) (absL P W n e (cellsAt W (a.add (i * P.cellsOf e)) (P.cellsOf e))))[i]? = some x → i < len ∧ x = mkV (agOf P e) (absL P W n e (cellsAt W (a.add (i * P.cellsOf e)) (P.cellsOf e))) := by
          intro i x hx;have hi : i < len := by have := (List.getElem?_eq_some_iff.mp hx).1; simpa using this
          simp [hi] at hx
          exact ⟨hi,hx.symm⟩
        refine ⟨rfl,fun j c hj => ?_,_,rfl,by rw [List.length_map,List.length_range]; exact Nat.le_min.2 ⟨hlenB,hlenW⟩,fun x hx => ?_⟩
        · cases j with
          | succ j => simp at hj
          | zero =>
            simp at hj; subst hj
            show VR0 W _ (.slice (some a) len cap);have hl0 : ((List.range len).map fun i => mkV (agOf P e) (absL P W n e (cellsAt W (a.add (i * P.cellsOf e)) (P.cellsOf e)))).length = len := by simp
            obtain ⟨ab,ao,asp⟩ := a;have q : VR0 W (.fz ((List.range len).map fun i => mkV (agOf P e) (absL P W n e (cellsAt W ((⟨ab,ao,asp⟩ : Addr).add (i * P.cellsOf e)) (P.cellsOf e)))))
                (.slice (some ⟨ab,ao,asp⟩) ((List.range len).map fun i => mkV (agOf P e) (absL P W n e (cellsAt W ((⟨ab,ao,asp⟩ : Addr).add (i * P.cellsOf e)) (P.cellsOf e)))).length cap) := by
              have hsp : ∀ i,i < len → 0 < i * P.cellsOf e + P.cellsOf e → (∀ j,j < P.cellsOf e → W.cell? ((((⟨ab,ao,asp⟩ : Addr).add (i * P.cellsOf e))).add j) = some ((cellsAt W ((⟨ab,ao,asp⟩ : Addr).add (i * P.cellsOf e)) (P.cellsOf e)).getD j undef)) := by
                intro i hi _ j hj;obtain ⟨x,_,hcc,_⟩ := el i hi;exact (cells?_spec hcc).2 j hj
              by_cases hz : len = 0
              · subst hz;exact .fz 0 (fun _ _ => undef) (by simp) (by simp) (by simp) (by simp) (by simp)
              · have h00 := hsp 0 (by omega) (by omega) 0 hz0;have hsp0 : asp = none := by
                  simp only [Nat.zero_mul,Addr.add_zero'] at h00;unfold World.cell? at h00
                  split at h00
                  · split at h00
                    · cases h00
                    · cases asp <;> simp_all
                  · cases h00
                subst hsp0;have hlt : ab < W.heap.size := by
                  simp only [Nat.zero_mul,Addr.add_zero'] at h00;exact World.block_lt_of_cell? _ _ h00
                refine .fz (P.cellsOf e) (fun i j => (cellsAt W ((⟨ab,ao,none⟩ : Addr).add (i * P.cellsOf e)) (P.cellsOf e)).getD j undef) (by rw [hl0]; exact hcond.2.1) (fun _ => ⟨rfl,fun h => h,hlt⟩) (fun i x hx => ?_) (fun i x j c hx hj => ?_) (fun i x j c hx hj => ?_)
                · obtain ⟨hi,rfl⟩ := getx i x hx;rw [(mk i hi).1,(ih i hi).1]
                · obtain ⟨hi,rfl⟩ := getx i x hx;rw [(mk i hi).1] at hj;have hj' : j < P.cellsOf e := by rw [← (ih i hi).1]; exact (List.getElem?_eq_some_iff.mp hj).1
                  have := hsp i hi (by omega) j hj';have e2 : (((⟨ab,ao,none⟩ : Addr).add (i * P.cellsOf e)).add j) = ⟨ab,ao + i * P.cellsOf e + j,none⟩ := by rw [add_none,add_none]
                  rw [e2] at this;exact this
                · obtain ⟨hi,rfl⟩ := getx i x hx;rw [(mk i hi).1] at hj;exact (ih i hi).2.1 j c hj
            rwa [hl0] at q
        · obtain ⟨i,hi,rfl⟩ := List.mem_map.mp hx;have hi' : i < len := by simpa using hi
          obtain ⟨m1,m2⟩ := mk i hi';exact ⟨m2,by rw [m1,(ih i hi').1],by rw [m1]; exact (ih i hi').2.2⟩
      · cases h
    · rename_i cs _ _ fs hu
      rw [hu];obtain ⟨hfl,hft⟩ := allFlat_struct hf hu ht
      split at h
      · rename_i hlen
        simp only [Option.map_eq_some_iff] at h;obtain ⟨xs,hxs,he⟩ := h;cases he;obtain ⟨l1,l2⟩ := opt_mapM_spec hxs;have hBs : bulkDs (xs.map (·.1)) ≤ B := by simp only [bulkD] at hB; omega
        have offs : ∀ (l : List Field) (o m : Nat),flatOk P o l = some m → ∀ f ∈ l,f.offset + P.cellsOf f.type ≤ m := by
          intro l
          induction l with
          | nil => intro o m _ f hf; simp at hf
          | cons g r ihr =>
            intro o m hh f hf;simp only [flatOk] at hh
            split at hh
            · rename_i ho
              have hmono : ∀ (l : List Field) (o m : Nat),flatOk P o l = some m → o ≤ m := by
                intro l
                induction l with
                | nil => intro o m h; simp [flatOk] at h; omega
                | cons g r ih2 => intro o m h; simp only [flatOk] at h; split at h; have := ih2 _ _ h; omega; cases h
              rcases List.mem_cons.mp hf with rfl | hf
              · have := hmono _ _ _ hh; omega
              · exact ihr _ _ hh f hf
            · cases hh
        have ih : ∀ f ∈ fs.toList,(absL P W n f.type ((cs.drop f.offset).take (P.cellsOf f.type))).length = P.cellsOf f.type ∧
            (∀ j c,(absL P W n f.type ((cs.drop f.offset).take (P.cellsOf f.type)))[j]? = some c → VR0 W c (cs.getD (f.offset + j) undef)) ∧
            WfT P B n f.type (absL P W n f.type ((cs.drop f.offset).take (P.cellsOf f.type))) := by
          intro f hfm;obtain ⟨i,hi,rfl⟩ := List.getElem_of_mem hfm;obtain ⟨⟨dx,px⟩,hx,htr⟩ := l2 i _ (List.getElem?_eq_getElem hi);have hbx : bulkD dx ≤ B := Nat.le_trans (bulkDs_mem _ _ (List.mem_map.mpr ⟨_,List.mem_of_getElem? hx,rfl⟩)) hBs;have := trod_V hf n _ _ dx px (hft _ hfm) htr hbx (fun x hx' => hwt x (by simp only [DataW.weights,hu]; exact DataW.weights_mem_each (j := i) (by rw [List.getElem?_map,List.getElem?_eq_getElem hi]; rfl) (by rw [List.getElem?_map,hx]; rfl) x hx'));have hoff := offs _ _ _ hfl _ hfm;have hl2 : ((cs.drop fs.toList[i].offset).take (P.cellsOf fs.toList[i].type)).length = P.cellsOf fs.toList[i].type := by rw [List.length_take,List.length_drop]; omega
          refine ⟨by rw [this.1,hl2],fun j c hj => ?_,this.2.2⟩;have hj' : j < P.cellsOf fs.toList[i].type := by rw [← hl2,← this.1]; exact (List.getElem?_eq_some_iff.mp hj).1
          have hr := this.2.1 j c hj;have e : ((cs.drop fs.toList[i].offset).take (P.cellsOf fs.toList[i].type)).getD j undef = cs.getD (fs.toList[i].offset + j) undef := by
            simp only [List.getD]; rw [List.getElem?_take_of_lt hj',List.getElem?_drop]
          rwa [e] at hr
        obtain ⟨_,s1,s2,s3⟩ := seg_spec (P := P) (g := fun f => absL P W n f.type ((cs.drop f.offset).take (P.cellsOf f.type))) (cs := cs) (R := VR0 W) fs.toList 0 _ hfl (by omega)
          (fun f hfm => ⟨(ih f hfm).1,(ih f hfm).2.1⟩)
        refine ⟨by rw [s1,hlen]; omega,fun j c hj => by simpa using s2 j c hj,by rw [s1]; omega,fun f hfm => ?_⟩;have := (s3 f hfm).2;rw [Nat.sub_zero] at this;rw [this]; exact (ih f hfm).2.2
      · cases h
    · rename_i cs _ _ m e hu
      rw [hu];obtain ⟨hct,het⟩ := allFlat_array hf hu ht
      split at h
      · rename_i hlen
        simp only [Option.map_eq_some_iff] at h;obtain ⟨xs,hxs,he⟩ := h;cases he;obtain ⟨l1,l2⟩ := opt_mapM_spec hxs;have hBs : bulkDs (xs.map (·.1)) ≤ B := by simp only [bulkD] at hB; omega
        have ih : ∀ i,i < m → (absL P W n e ((cs.drop (i * P.cellsOf e)).take (P.cellsOf e))).length = P.cellsOf e ∧
            (∀ j c,(absL P W n e ((cs.drop (i * P.cellsOf e)).take (P.cellsOf e)))[j]? = some c → VR0 W c (cs.getD (i * P.cellsOf e + j) undef)) ∧
            WfT P B n e (absL P W n e ((cs.drop (i * P.cellsOf e)).take (P.cellsOf e))) := by
          intro i hi;obtain ⟨⟨dx,px⟩,hx,htr⟩ := l2 i i (by simp [hi]);have hbx : bulkD dx ≤ B := Nat.le_trans (bulkDs_mem _ _ (List.mem_map.mpr ⟨_,List.mem_of_getElem? hx,rfl⟩)) hBs;have := trod_V hf n e _ dx px het htr hbx (fun x hx' => hwt x (by simp only [DataW.weights,hu]; exact weights_mem_all (List.mem_map.mpr ⟨_,List.mem_of_getElem? hx,rfl⟩) x hx'));have hle : (i + 1) * P.cellsOf e ≤ m * P.cellsOf e := Nat.mul_le_mul_right _ hi;rw [Nat.add_mul,Nat.one_mul] at hle;have hl2 : ((cs.drop (i * P.cellsOf e)).take (P.cellsOf e)).length = P.cellsOf e := by rw [List.length_take,List.length_drop]; omega
          refine ⟨by rw [this.1,hl2],fun j c hj => ?_,this.2.2⟩;have hj' : j < P.cellsOf e := by rw [← hl2,← this.1]; exact (List.getElem?_eq_some_iff.mp hj).1
          have hr := this.2.1 j c hj;have e2 : ((cs.drop (i * P.cellsOf e)).take (P.cellsOf e)).getD j undef = cs.getD (i * P.cellsOf e + j) undef := by
            simp only [List.getD]; rw [List.getElem?_take_of_lt hj',List.getElem?_drop]
          rwa [e2] at hr
        obtain ⟨s1,s2,s3⟩ := arr_spec (g := fun i => absL P W n e ((cs.drop (i * P.cellsOf e)).take (P.cellsOf e))) (cs := cs) (R := VR0 W) (z := P.cellsOf e) m 0
          (fun i _ h2 => by rw [Nat.zero_add] at h2; exact ⟨(ih i h2).1,(ih i h2).2.1⟩)
        refine ⟨by rw [s1,hlen,hct],fun j c hj => by simpa using s2 j c hj,s1,fun i hi => ?_⟩;have := s3 i (Nat.zero_le i) (by omega);rw [Nat.sub_zero] at this;rw [this]; exact (ih i hi).2.2
      · cases h
    all_goals first | (cases h; done) | (rename_i hu; rw [hu]; exact ⟨by simp,un_rel _,trivial⟩)
def absA (P : Program) (W : World) (n : Nat) (t : TypeId) (v : Value) : V := mkV (agOf P t) (absL P W n t v.cells.toList)
theorem VR0_ag {us : List V} {v : Value} (hag : ∃ a,v = .agg a) (hl : us.length = v.cells.size) (h : ∀ j c,us[j]? = some c → VR0 W c (v.cells.toList.getD j undef)) : VR0 W (.ag us) v := by
  obtain ⟨a,rfl⟩ := hag;refine .ag hl (fun j c hj => ?_);have := h j c hj;have e : (Value.agg a).cells.toList.getD j undef = a.getD j undef := by
    simp [Value.cells,List.getD,Array.getD_eq_getD_getElem?]
  rwa [e] at this
theorem okWide_cells {r : Reach} {b0 : Nat} {t : TypeId} {v : Value} (hag : agOf P t = false) (h : Value.okWide P W r b0 t v) : v.cells = #[v] := by
  cases v with
  | agg cs =>
    exfalso
    unfold Value.okWide at h;unfold agOf at hag;cases hu : P.underlying t with
    | none => simp [hu,Cell.okWide,Cell.ok] at h
    | some d => cases d <;> simp [hu,Cell.okWide,Cell.ok] at h hag
  | _ => rfl
theorem arg_V (hf : allFlat P = true) {r : Reach} {b0 B : Nat} {t : TypeId} {v : Value} {d : DataW H} {ps : List MemPlace} (ht : t < P.types.size)
    (hok : Value.okWide P W r b0 t v) (h : DataW.Trod enc P W 0 spare true t v d ps) (hB : bulkD d ≤ B) (hwt : ∀ x ∈ d.weights P t,x ≤ reachBytes) (hfl : agOf P t = true → ∃ fs,P.underlying t = some (.struct fs)) :
    ∃ (n : Nat) (u : V),VR0 W u v ∧ u.isAg = agOf P t ∧ WfT P B n t u.cells := by
  obtain ⟨n,h⟩ := h;obtain ⟨h1,h2,h3⟩ := trod_V hf n t _ d ps ht h hB hwt;cases hag : agOf P t with
  | false =>
    have hv := okWide_cells hag hok;have hl : (absL P W n t v.cells.toList).length = 1 := by rw [h1,hv]; rfl
    have hna := absL_noAg (P := P) (W := W) n t v.cells.toList
    match hu : absL P W n t v.cells.toList,hl with
    | [u],_ =>
      rw [hu] at h2 h3 hna;have ha := hna u (by simp);have hc : u.cells = [u] := by cases u <;> simp_all [V.isAg,V.cells]
      refine ⟨n,u,?_,ha,by rw [hc]; exact h3⟩;have := h2 0 u (by simp);rw [hv] at this
      simpa using this
  | true =>
    obtain ⟨fs,hu⟩ := hfl hag;have : ∃ cs,v = .agg cs := by
      unfold Value.okWide at hok;rw [hu] at hok;obtain ⟨cs,h,_⟩ := hok;exact ⟨cs,h⟩
    exact ⟨n,.ag (absL P W n t v.cells.toList),VR0_ag this (by rw [h1]; simp) h2,rfl,h3⟩
theorem WfT.int {B n : Nat} {t : TypeId} {u : V} {k : IntKind} (hu : P.underlying t = some (.int k)) (ha : u.isAg = false) (h : WfT P B n t u.cells) : ∃ m,u = .int k m ∧ k.min ≤ m ∧ m ≤ k.max := by
  have hc : u.cells = [u] := by cases u <;> simp_all [V.isAg,V.cells]
  rw [hc] at h;cases n with
  | zero => exact h.elim
  | succ n =>
    simp only [WfT,hu] at h;obtain ⟨m,h1,h2,h3⟩ := h
    simp at h1
    exact ⟨m,h1,h2,h3⟩
theorem WfT.str {B n : Nat} {t : TypeId} {u : V} (hu : P.underlying t = some .string) (ha : u.isAg = false) (h : WfT P B n t u.cells) : ∃ s,u = .str s ∧ s.size ≤ min B 140737488355328 := by
  have hc : u.cells = [u] := by cases u <;> simp_all [V.isAg,V.cells]
  rw [hc] at h;cases n with
  | zero => exact h.elim
  | succ n =>
    simp only [WfT,hu] at h;obtain ⟨m,h1,h2⟩ := h
    simp at h1
    exact ⟨m,h1,h2⟩
theorem WfT.float {B n : Nat} {t : TypeId} {u : V} (hu : P.underlying t = some (.float .f64)) (ha : u.isAg = false) (h : WfT P B n t u.cells) : ∃ b : Nat,u = .fl (some b) ∧ b < 18446744073709551616 := by
  have hc : u.cells = [u] := by cases u <;> simp_all [V.isAg,V.cells]
  rw [hc] at h;cases n with
  | zero => exact h.elim
  | succ n =>
    simp only [WfT,hu] at h;obtain ⟨m,h1,h2⟩ := h
    simp at h1
    exact ⟨m,h1,h2⟩
theorem WfT.slice {B n : Nat} {t e : TypeId} {u : V} (hu : P.underlying t = some (.slice e)) (ha : u.isAg = false) (h : WfT P B n t u.cells) :
    ∃ m xs,u = .fz xs ∧ xs.length ≤ min B 140737488355328 ∧ ∀ x ∈ xs,x.isAg = agOf P e ∧ x.cells.length = P.cellsOf e ∧ WfT P B m e x.cells := by
  have hc : u.cells = [u] := by cases u <;> simp_all [V.isAg,V.cells]
  rw [hc] at h;cases n with
  | zero => exact h.elim
  | succ n =>
    simp only [WfT,hu] at h;obtain ⟨xs,h1,h2,h3⟩ := h
    simp at h1
    exact ⟨n,xs,h1,h2,h3⟩
theorem list_choose {α β : Type} {R : α → β → Prop} : ∀ (l : List α),(∀ x ∈ l,∃ y,R x y) → ∃ r : List β,l.length = r.length ∧ ∀ (j : Nat) a,l[j]? = some a → ∃ b,r[j]? = some b ∧ R a b
  | [],_ => ⟨[],rfl,fun j a h => by simp at h⟩
  | a :: l,h => by
    obtain ⟨b,hb⟩ := h a (by simp);obtain ⟨r,h1,h2⟩ := list_choose l (fun x hx => h x (by simp [hx]));refine ⟨b :: r,by simp [h1],fun j x hx => ?_⟩;cases j with
    | zero => simp at hx; subst hx; exact ⟨b,by simp,hb⟩
    | succ j => simpa using h2 j x (by simpa using hx)
theorem list_map_of {α β : Type} {f : β → α} {Q : β → Prop} (l : List α) (h : ∀ x ∈ l,∃ y,x = f y ∧ Q y) : ∃ r : List β,l = r.map f ∧ ∀ y ∈ r,Q y := by
  induction l with
  | nil => exact ⟨[],rfl,fun y h => by simp at h⟩
  | cons a l ih =>
    obtain ⟨b,hb,hq⟩ := h a (by simp);obtain ⟨r,hr,hqr⟩ := ih (fun x hx => h x (by simp [hx]));exact ⟨b :: r,by rw [List.map_cons,← hb,← hr],fun y hy => by rcases List.mem_cons.mp hy with rfl | hy; exact hq; exact hqr y hy⟩
theorem WfT.ints {B n : Nat} {t e : TypeId} {u : V} {k : IntKind} (hu : P.underlying t = some (.slice e)) (he : P.underlying e = some (.int k)) (ha : u.isAg = false) (h : WfT P B n t u.cells) :
    ∃ l : List Int,u = .fz (l.map (V.int k)) ∧ l.length ≤ min B 140737488355328 ∧ ∀ x ∈ l,k.min ≤ x ∧ x ≤ k.max := by
  obtain ⟨m,xs,rfl,h2,h3⟩ := WfT.slice hu ha h;obtain ⟨r,rfl,hr⟩ := list_map_of (f := V.int k) (Q := fun x => k.min ≤ x ∧ x ≤ k.max) xs (fun x hx => by
    obtain ⟨a1,_,a3⟩ := h3 x hx;have : agOf P e = false := by unfold agOf; rw [he]
    exact WfT.int he (by rw [a1,this]) a3)
  exact ⟨r,rfl,by simpa using h2,hr⟩
theorem WfT.rows {B n : Nat} {t e i : TypeId} {u : V} {k : IntKind} (hu : P.underlying t = some (.slice e)) (he : P.underlying e = some (.slice i)) (hi : P.underlying i = some (.int k)) (ha : u.isAg = false) (h : WfT P B n t u.cells) :
    ∃ l : List (List Int),u = .fz (l.map fun r : List Int => V.fz (r.map (V.int k))) ∧ l.length ≤ min B 140737488355328 ∧ ∀ r ∈ l,r.length ≤ min B 140737488355328 ∧ ∀ x ∈ r,k.min ≤ x ∧ x ≤ k.max := by
  obtain ⟨m,xs,rfl,h2,h3⟩ := WfT.slice hu ha h;obtain ⟨r,rfl,hr⟩ := list_map_of (f := fun r : List Int => V.fz (r.map (V.int k))) (Q := fun r : List Int => r.length ≤ min B 140737488355328 ∧ ∀ x ∈ r,k.min ≤ x ∧ x ≤ k.max) xs (fun x hx => by
    obtain ⟨a1,_,a3⟩ := h3 x hx;have : agOf P e = false := by unfold agOf; rw [he]
    exact WfT.ints he hi (by rw [a1,this]) a3)
  exact ⟨r,rfl,by simpa using h2,hr⟩
theorem gl_below {W W' : World} (g : Gl W W') : RowKit.Below W.heap.size W W' := ⟨g.io.1,g.io.2.1,g.io.2.2,g.size,g.same⟩
theorem law_calls {T : Nat → Option IFun} (hT : ∀ f g,T f = some g → chkF P f g = true) {f k : Nat} {us : List V} {r : V} {H' : Heap} (h : exF T k f us [] = some (r,H')) {W : World} {args : Array Value}
    (hl : us.length = args.size) (ha : ∀ (j : Nat) (c : V),us[j]? = some c → VR0 W c (args.getD j undef)) (hb : r = .bool true) (hG : GOk (fun _ => False) W := by intro g cs h; cases h) :
    Calls P f args W fun e W' => e = .returned (.bool true) ∧ RowKit.Below W.heap.size W W' := by
  subst hb;refine (((exF_sim hT k) f us [] _ H' h).2 (fun _ => False) W own0 args (St.nil (fun _ h => h.elim) hG) hl ha).mono ?_;rintro e W' ⟨v,wr',own',he,hx,_,hv⟩;have := hv.bool_eq;subst this;exact ⟨he,gl_below ⟨hx.size,fun b hb => hx.same b hb (by rintro ⟨x,y,sh,N,ho⟩; simp [own0] at ho),hx.io⟩⟩
end
end Go.Eng
namespace Go.Eng
open Go
set_option linter.unusedSectionVars false
set_option linter.unusedVariables false
set_option linter.unusedSimpArgs false
def DecC (P : Program) {α : Type} (E : Enc α) (t : TypeId) (Q : Nat → α → Prop) : Prop := agOf P t = E.ag ∧ ∀ (B n : Nat) (us : List V),WfT P B n t us → ∃ x,us = E.c x ∧ Q B x
section
variable {P : Program}
theorem enc_of {α : Type} {E : Enc α} {u : V} {x : α} (ha : u.isAg = E.ag) (hc : u.cells = E.c x) : u = E.e x := by
  cases hag : E.ag with
  | true =>
    rw [hag] at ha;cases u <;> simp [V.isAg] at ha;rw [E.h2 hag]; simp only [V.cells] at hc; rw [hc]
  | false =>
    rw [hag] at ha;have h1 : u.cells = [u] := by cases u <;> simp_all [V.isAg,V.cells]
    rw [h1,E.h1 hag] at hc
    simpa using hc
theorem DecC.get {α : Type} {E : Enc α} {t : TypeId} {Q : Nat → α → Prop} (d : DecC P E t Q) {B n : Nat} {u : V} (ha : u.isAg = agOf P t) (h : WfT P B n t u.cells) : ∃ x,u = E.e x ∧ Q B x := by
  obtain ⟨x,hx,hq⟩ := d.2 B n _ h;exact ⟨x,enc_of (by rw [ha,d.1]) hx,hq⟩
theorem dec_int {t : TypeId} {k : IntKind} (hu : P.underlying t = some (.int k)) : DecC P (EI k) t (fun _ m => k.min ≤ m ∧ m ≤ k.max) := by
  refine ⟨by unfold agOf; rw [hu]; rfl,fun B n us h => ?_⟩;cases n with
  | zero => exact h.elim
  | succ n =>
    simp only [WfT,hu] at h;obtain ⟨m,rfl,h1,h2⟩ := h;exact ⟨m,rfl,h1,h2⟩
theorem dec_bool {t : TypeId} (hu : P.underlying t = some .bool) : DecC P EB t (fun _ _ => True) := by
  refine ⟨by unfold agOf; rw [hu]; rfl,fun B n us h => ?_⟩;cases n with
  | zero => exact h.elim
  | succ n =>
    simp only [WfT,hu] at h;obtain ⟨m,rfl⟩ := h;exact ⟨m,rfl,trivial⟩
theorem dec_str {t : TypeId} (hu : P.underlying t = some .string) : DecC P ES t (fun B l => l.length ≤ min B 140737488355328) := by
  refine ⟨by unfold agOf; rw [hu]; rfl,fun B n us h => ?_⟩;cases n with
  | zero => exact h.elim
  | succ n =>
    simp only [WfT,hu] at h;obtain ⟨s,rfl,h1⟩ := h;have e : s.data.toList.length = s.size := Array.length_toList;exact ⟨s.data.toList,rfl,by show s.data.toList.length ≤ _; rw [e]; exact h1⟩
theorem dec_slice {α : Type} {E : Enc α} {t e : TypeId} {Q : Nat → α → Prop} (hu : P.underlying t = some (.slice e)) (d : DecC P E e Q) : DecC P (EL E) t (fun B l => l.length ≤ min B 140737488355328 ∧ ∀ x ∈ l,Q B x) := by
  refine ⟨by unfold agOf; rw [hu]; rfl,fun B n us h => ?_⟩;cases n with
  | zero => exact h.elim
  | succ n =>
    simp only [WfT,hu] at h;obtain ⟨xs,rfl,h1,h2⟩ := h;obtain ⟨r,rfl,hr⟩ := list_map_of (f := E.e) (Q := Q B) xs (fun x hx => by
      obtain ⟨a1,_,a3⟩ := h2 x hx;exact d.get a1 a3)
    exact ⟨r,rfl,by simpa using h1,hr⟩
theorem dec_fields {t : TypeId} {fs : Array Field} (hu : P.underlying t = some (.struct fs)) {B n : Nat} {us : List V} (h : WfT P B n t us) :
    us.length = P.cellsOf t ∧ ∃ m,∀ f ∈ fs.toList,WfT P B m f.type ((us.drop f.offset).take (P.cellsOf f.type)) := by
  cases n with
  | zero => exact h.elim
  | succ n =>
    simp only [WfT,hu] at h;exact ⟨h.1,n,h.2⟩
theorem dec_array {t m e z : Nat} (hu : P.underlying t = some (.array m e)) (hz : P.cellsOf e = z) {B n : Nat} {us : List V} (h : WfT P B n t us) :
    us.length = m * z ∧ ∃ k,∀ i,i < m → WfT P B k e ((us.drop (i * z)).take z) := by
  subst hz;cases n with
  | zero => exact h.elim
  | succ n =>
    simp only [WfT,hu] at h;exact ⟨h.1,n,h.2⟩
theorem ag_struct {t : TypeId} {fs : Array Field} (hu : P.underlying t = some (.struct fs)) : agOf P t = true := by unfold agOf; rw [hu]
theorem seg_cons {us a : List V} {o z : Nat} (h : (us.drop o).take z = a) (hl : o + z ≤ us.length) : us.drop o = a ++ us.drop (o + z) := by
  rw [← h,← List.drop_drop,List.take_append_drop]
end
end Go.Eng
