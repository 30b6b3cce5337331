/- Functions of this seat, run on unknown values by the rules of the small machine (no condition beyond those stated). -/
import Derived.Test.YtfkakbipedafiaaDoorGshD2Up
import Derived.Test.YtfkakbipedafiaaDoorGshPUp
namespace Go.Eng.Gra
open Go Go.Eng
set_option linter.unusedSectionVars false
set_option linter.unusedVariables false
set_option linter.unusedSimpArgs false
set_option maxRecDepth 20000
def zipB (bs : List T_Block) (ll : List (List T_Ins)) : List T_Block := List.zipWith (fun b l => ⟨l,b.fTerm⟩) bs ll
theorem zip_ds {f : T_Block → List T_Ins → T_Block} : ∀ (ds : List RD) (g : RD → T_Block) (h : RD → List T_Ins),List.zipWith f (ds.map g) (ds.map h) = ds.map fun d => f (g d) (h d)
  | [],g,h => rfl
  | d :: ds,g,h => by simp [zip_ds ds g h]
theorem rowsR_len {was : List (List Int)} {o : List Int} {now : List (List Int)} : ∀ {rows : List RB} {i : Nat} {ll : List (List T_Ins)},rowsR was o now i rows = some ll → ll.map List.length = rows.map (fun r => r.l.length)
  | [],i,ll,h => by simp [rowsR] at h; subst h; rfl
  | r :: rs,i,ll,h => by
    simp only [rowsR] at h;obtain ⟨nw,_,h⟩ := bind_some h;obtain ⟨l,hl,h⟩ := bind_some h;obtain ⟨t,ht,rfl⟩ := Option.map_eq_some_iff.1 h;rw [List.map_cons,List.map_cons,rowsR_len ht,omap_len hl]
theorem deep_rds {H : Heap} {L Y : List Ob} (hp : HP H L) (i : Nat) {ob : Option (Nat × Nat)} {ds : List RD} (hi : L[i]? = some (ob,rbs (ds.map (·.1)) ++ [])) (hY : ∀ ob ∈ Y,ob ∈ L)
    (hd : ∀ d ∈ ds,d.ob ∈ L ∧ (d.1.w = slv 6 true d.2.length d.1.o ∨ d.2 = [] ∧ d.1.w = .fz []) ∧ ∀ q ∈ d.2,q.ok Y) (n : Nat) :
    deep false H (n + 10) (slv 6 true ds.length ob) = some ((EL E_Block).e (ds.map fun d => ⟨d.2.map RI.z,d.1.t⟩)) := by
  cases ob with
  | none =>
    have h0' := hp.at_ i _ _ hi;have hl : (rbs (ds.map (fun d : RD => d.1)) ++ []).length = 0 := by rw [show rbs (ds.map (fun d : RD => d.1)) ++ [] = [] from h0']; rfl
    rw [List.append_nil,rbs_len,List.length_map] at hl;have : ds = [] := List.eq_nil_of_length_eq_zero (by omega);subst this; rfl
  | some p =>
    obtain ⟨b,g⟩ := p;simp only [slv];have hr := rows_rb (ds.map (fun d : RD => d.1)) [];rw [List.length_map] at hr;rw [deep_sl,rdB_of (hp.get hi),Option.bind_some,if_pos ⟨by rw [List.append_nil,rbs_len,List.length_map]; omega,by decide,.inl rfl⟩,List.drop_zero,hr,List.map_map,show (RB.c ∘ fun d : RD => d.1) = (fun d : RD => RB.c d.1) from rfl];rw [omap_mapM (fun d : RD => RB.c d.1) _ (fun d : RD => E_Block.e ⟨d.2.map RI.z,d.1.t⟩) ds (fun d hdm => ?_)]
    · show some (V.fz _) = some (V.fz _);rw [List.map_map]; rfl
    · obtain ⟨h1,h2,h3⟩ := hd d hdm;show (omap (deep false H (n + 9)) (d.1.w :: E_Term.c d.1.t)).map V.ag = _;have hw : deep false H (n + 9) d.1.w = some ((EL E_Ins).e (d.2.map RI.z)) := deep_rd hp hY h1 h2 h3 (n + 1);have : omap (deep false H (n + 9)) (d.1.w :: E_Term.c d.1.t) = some ((EL E_Ins).e (d.2.map RI.z) :: E_Term.c d.1.t) := omapc hw rfl;rw [this]; rfl
theorem walk26 {x0 : T_Graph} {o : List Int} {bs1 : List T_Block} {ll : List (List T_Ins)} (hk : Cok x0) (ho : orderV x0 = some o) (hol : o.length ≤ 1048576) (hnd : o.Nodup) (h1 : omap (nwB o x0.fBlocks) o = some bs1) (h2 : rowsB (aheadV x0.fBlocks) o (aheadV bs1) 0 bs1 = some ll) :
    Fn T 26 [E_Graph.e x0] [] (fun v hh => deep false hh deepN v = some (E_Graph.e (blocksOf x0 (zipB bs1 ll)))) := by
  refine Fn.enterE t26 (e0 := (mkE [(0,E_Graph.e x0)] 165)) (by kernel_rfl) ?_;show Run T (.fin [some (some 6)] (.clr [] i26n98)) _ _ (finE (some [some (some 6)]) [2] _);refine Run.finb ?_;refine Rn.k (mkE [(0,E_Graph.e x0)] 165) ?_;refine Rn.g ?_;refine RunO.boxh HP.nil (by kernel_rfl) (v := E_Graph.e x0) (by kernel_rfl) rfl ?_;intro b1 H hp;refine RunO.alloc hp (by kernel_rfl) ?_;intro b2 H hp;refine Ro.d (mkE [(1,.ptr b1 0 0),(0,.ptr b2 0 0)] 163) ?_;refine Rn.g ?_;refine Ro.p (hp.ld 1 (off := 0) (n := some 6) (v := E_Graph.e x0) rfl rfl) ?_;refine RunO.h1 (n := 48) (caps := []) (us := [E_Graph.e x0]) (by kernel_rfl) (by kernel_rfl) (by kernel_rfl) ?_;refine (w48 hk hp).mono ?_;rintro v H ⟨op,ov,oa,ob,rows,rfl,hok,hrows,hp⟩;have hp := HP.rot (A := OA oa x0.fArrays :: OV ov x0.fVars :: OI op x0.fParams :: (ob,rbs rows ++ []) :: robs rows.reverse) (B := [(some (b2,0),ZG),(some (b1,0),E_Graph.c x0)]) hp;refine RunO.st hp (by kernel_rfl) 1 (off := 0) (v := .ag (CG x0 op ov oa (slv 6 true rows.length ob))) rfl (by kernel_rfl) (by kernel_rfl) stC_6 ?_;intro H hp;have hp : HP H ((some (b2,0),ZG) :: (some (b1,0),CG x0 op ov oa (slv 6 true rows.length ob)) :: OA oa x0.fArrays :: OV ov x0.fVars :: OI op x0.fParams :: (ob,rbs rows ++ []) :: robs rows.reverse) := hp;have hx : blocksOf x0 (rows.map RB.b) = x0 := by rw [hrows]; rfl
  have hda : omap (deep false H deepN) [.ag (CG x0 op ov oa (slv 6 true rows.length ob))] = some [E_Graph.e x0] := by
    have h := deep_CG hp 4 3 2 rfl rfl rfl (deep_rbs hp 5 rfl (fun r hr => ⟨hok r hr,by
      obtain ⟨i,hi⟩ := List.getElem?_of_mem hr;exact ⟨rows.length - 1 - i + 6,rrev hi⟩⟩) 31)
    rw [hx] at h;exact omapc h rfl
  refine Ro.d (mkE [(1,.ptr b1 0 0),(0,.ptr b2 0 0)] 163) ?_;have hldg := hp.ld 1 (off := 0) (n := some 6) (v := .ag (CG x0 op ov oa (slv 6 true rows.length ob))) rfl ld_CG;refine Rn.g ?_;refine Ro.p hldg ?_;refine RunO.c1 (us := [E_Graph.e x0]) (by kernel_rfl) ?_ (c21s ho _) ?_
  · show omap (deep false H deepN) _ = _;refine Eq.trans ?_ hda
    kernel_rfl
  refine Ro.t 1 ?_;refine Ro.d (mkE [(1,.ptr b1 0 0),(0,.ptr b2 0 0),(0,Zl (EI .i64) o)] 162) ?_;refine Rn.g ?_;refine Ro.p hldg ?_;refine RunO.c1 (us := [E_Graph.e x0]) (by kernel_rfl) ?_ (c20s (r := aheadV x0.fBlocks) (by unfold F20; exact if_pos hk.b) _) ?_
  · show omap (deep false H deepN) _ = _;refine Eq.trans ?_ hda
    kernel_rfl
  refine Ro.t 1 ?_;obtain ⟨was,hwas⟩ : ∃ was,aheadV x0.fBlocks = was := ⟨_,rfl⟩;rw [hwas] at h2 ⊢;refine Ro.d (mkE [(1,.ptr b1 0 0),(0,.ptr b2 0 0),(0,Zl (EI .i64) o),(0,Zl (EL (EI .i64)) was)] 161) ?_;refine Rn.g ?_;refine Ro.t 1 ?_;refine Ro.d (mkE [(1,.ptr b1 0 0),(0,.ptr b2 0 0),(0,Zl (EI .i64) o),(0,Zl (EL (EI .i64)) was),(0,.nils)] 160) ?_;rw [← hrows] at h1;obtain ⟨rows2,hrw,hbs⟩ := nw_rows h1;subst hbs;rw [← rowsR_B] at h2;have hl2 : rows2.length = o.length := omap_len hrw;have hbig : ∀ r ∈ rows2,r.l.length ≤ 140737488355328 := by
    intro r hr;obtain ⟨i,hi⟩ := List.getElem?_of_mem hr;obtain ⟨a,_,ha⟩ := omap_get hrw hi;unfold nwR at ha;obtain ⟨r0,hr0,ha⟩ := bind_some ha;obtain ⟨t,_,rfl⟩ := Option.map_eq_some_iff.1 ha;have hm := List.mem_of_getElem? (idx_lt hr0).2.2;have := hk.i r0.b (by rw [← hrows]; exact List.mem_map.2 ⟨r0,hm,rfl⟩);have : r0.l.length * 56 ≤ 140737488355328 := this;show r0.l.length ≤ _
    omega
  refine Run.seq ?_;refine bl26 _ hol hok hp hrw (fun nb H e he hok2 hp => ?_);show Run T (.clr _ i26n92) _ _ _;refine Run.clr ?_;rw [he];refine Rn.g ?_;refine Ro.t 2 ?_;refine RunO.st hp (by kernel_rfl) 2 (off := 5) (v := slv 6 true rows2.length nb) rfl (by kernel_rfl) (by kernel_rfl) stC_4 ?_;intro H hp;have hp := HP.rows (F := [(nb,rbs rows2 ++ []),(some (b2,0),ZG),(some (b1,0),CG x0 op ov oa (slv 6 true rows2.length nb)),OA oa x0.fArrays,OV ov x0.fVars,OI op x0.fParams]) (hp.del 6) hrw hnd;have hda : omap (deep false H deepN) [.ag (CG x0 op ov oa (slv 6 true rows2.length nb))] = some [E_Graph.e (blocksOf x0 (rows2.map RB.b))] := by
    have h := deep_CG hp 5 4 3 rfl rfl rfl (deep_rbs hp 0 rfl (fun r hr => ⟨hok2 r hr,by
      obtain ⟨i,hi⟩ := List.getElem?_of_mem hr;refine ⟨i + 6,?_⟩;show (robs rows2 ++ [])[i]? = _;rw [List.append_nil];exact robs_get hi⟩) 31)
    exact omapc h rfl
  have hF : F20 (blocksOf x0 (rows2.map RB.b)) = some (aheadV (rows2.map RB.b)) := by unfold F20; exact if_pos (by show (rows2.map RB.b).length ≤ 1048576; rw [List.length_map]; omega)
  refine Ro.d (mkE [(1,.ptr b1 0 0),(0,.ptr b2 0 0),(0,Zl (EI .i64) o),(0,Zl (EL (EI .i64)) was),(0,slv 6 true rows2.length nb)] 160) ?_;refine Rn.g ?_;refine Ro.p (hp.ld 2 (off := 0) (n := some 6) (v := .ag (CG x0 op ov oa (slv 6 true rows2.length nb))) rfl ld_CG) ?_;refine RunO.c1 (us := [E_Graph.e (blocksOf x0 (rows2.map RB.b))]) (by kernel_rfl) ?_ (c20s hF _) ?_
  · show omap (deep false H deepN) _ = _;refine Eq.trans ?_ hda
    kernel_rfl
  refine Ro.t 1 ?_;refine Ro.d (mkE [(1,.ptr b1 0 0),(0,.ptr b2 0 0),(0,Zl (EI .i64) o),(0,Zl (EL (EI .i64)) was),(0,slv 6 true rows2.length nb),(4,Zl (EL (EI .i64)) (aheadV (rows2.map RB.b)))] 155) ?_;have hsm : ∀ nw ∈ aheadV (rows2.map RB.b),nw.length ≤ 1152921504606846976 := by
    intro nw hnw;have := aheadS_row (rows2.map RB.b) _ nw hnw;rw [List.length_map] at this
    omega
  refine Run.seq ?_;refine rows26 _ rfl hok2 hbig (by omega) hsm hp h2 (fun ds Y' H e he hds hll hdok hp => ?_);show Run T (.clr _ i26n89) _ _ _;refine Run.clr ?_;rw [he];refine Rn.g ?_;refine Ro.p (hp.ld 2 (off := 0) (n := some 6) (v := .ag (CG x0 op ov oa (slv 6 true rows2.length nb))) rfl ld_CG) ?_;refine RunO.st hp (by kernel_rfl) 1 (off := 0) (v := .ag (CG x0 op ov oa (slv 6 true rows2.length nb))) rfl (by kernel_rfl) (by kernel_rfl) stC_5 ?_;intro H hp;have hp : HP H ([(nb,rbs rows2 ++ []),(some (b2,0),CG x0 op ov oa (slv 6 true rows2.length nb)),(some (b1,0),CG x0 op ov oa (slv 6 true rows2.length nb)),OA oa x0.fArrays,OV ov x0.fVars,OI op x0.fParams] ++ (ds.map RD.ob ++ Y')) := hp;refine Ro.d (mkE [(2,.ptr b2 0 0)] 163) ?_;refine Run.ret ?_;have hw : ldV H (.ptr b2 0 0) (some 6) = some (.ag (CG x0 op ov oa (slv 6 true rows2.length nb))) := hp.ld 1 (off := 0) (n := some 6) rfl ld_CG;refine ⟨_,resW_cells (vs := [.ag (CG x0 op ov oa (slv 6 true rows2.length nb))]) (omapc hw rfl),?_⟩;have hlen : ds.length = rows2.length := by rw [← hds,List.length_map]
  have hlens : ∀ d ∈ ds,d.2.length = d.1.l.length := by
    have h := rowsR_len h2;rw [← hll,← hds,List.map_map,List.map_map] at h;intro d hd;have := (List.map_inj_left.1 h) d hd
    simpa using this
  have hdd := deep_rds hp 0 (ob := nb) (ds := ds) (by rw [hds]; rfl) (Y := Y') (fun ob h => List.mem_append_right _ (List.mem_append_right _ h)) (fun d hd => ⟨List.mem_append_right _ (List.mem_append_left _ (List.mem_map.2 ⟨d,hd,rfl⟩)),by
      have hq := hok2 d.1 (by rw [← hds]; exact List.mem_map.2 ⟨d,hd,rfl⟩);have hn := hlens d hd;rcases hq with h | ⟨h1,_,h⟩
      · left; rw [h,hn]
      · right
        rw [h1] at hn;exact ⟨List.eq_nil_of_length_eq_zero (by simpa using hn),h⟩,hdok d hd⟩) 29
  rw [hlen] at hdd;have hz : ds.map (fun d => (⟨d.2.map RI.z,d.1.t⟩ : T_Block)) = zipB (rows2.map RB.b) ll := by
    rw [← hll,← hds,List.map_map];unfold zipB;rw [zip_ds]; rfl
  rw [hz] at hdd;exact deep_CG hp 5 4 3 rfl rfl rfl hdd
end Go.Eng.Gra
namespace Go.Eng.Gra
open Go Go.Eng
set_option linter.unusedSectionVars false
set_option linter.unusedVariables false
def F21 (g : T_Graph) : Option (List Int) := orderV g
def cokB (g : T_Graph) : Bool := decide (g.fParams.length * 8 ≤ 140737488355328) && decide (g.fVars.length * 1 ≤ 140737488355328) && decide (g.fArrays.length * 16 ≤ 140737488355328) && decide (g.fBlocks.length ≤ 1048576) &&
  g.fBlocks.all (fun b => decide (b.fIns.length * 56 ≤ 140737488355328) && b.fIns.all (fun x => decide (x.fArgs.length * 8 ≤ 140737488355328)))
theorem cokB_ok {g : T_Graph} (h : cokB g = true) : Cok g := by
  unfold cokB at h;simp only [Bool.and_eq_true,decide_eq_true_eq,List.all_eq_true] at h;obtain ⟨⟨⟨⟨h1,h2⟩,h3⟩,h4⟩,h5⟩ := h;exact ⟨h1,h2,h3,h4,fun b hb => (h5 b hb).1,fun b hb x hx => (h5 b hb).2 x hx⟩
def F26 (g : T_Graph) : Option T_Graph :=
  (orderV g).bind fun o => if cokB g = true ∧ o.length ≤ 1048576 ∧ o.Nodup then
    (omap (nwB o g.fBlocks) o).bind fun bs1 => (rowsB (aheadV g.fBlocks) o (aheadV bs1) 0 bs1).map fun ll => blocksOf g (zipB bs1 ll)
  else none
theorem c26 {x0 r : T_Graph} (h : F26 x0 = some r) : Fn T 26 [E_Graph.e x0] [] (fun v hh => deep false hh deepN v = some (E_Graph.e r)) := by
  unfold F26 at h;obtain ⟨o,ho,h⟩ := bind_some h
  split at h
  case isFalse => cases h
  rename_i hc
  obtain ⟨bs1,h1,h⟩ := bind_some h;obtain ⟨ll,h2,rfl⟩ := Option.map_eq_some_iff.1 h;exact walk26 (cokB_ok hc.1) ho hc.2.1 hc.2.2 h1 h2
end Go.Eng.Gra
namespace Go.Eng.Gra
open Go Go.Eng
set_option linter.unusedSectionVars false
set_option linter.unusedVariables false
set_option linter.unusedSimpArgs false
theorem first_sp (x : Int) : ∀ (l : List Int) (i : Nat),(first (R := Int) (fun i a => if a == x then some ((i : Nat) : Int) else none) i l = none ∧ x ∉ l) ∨ ∃ k : Nat,first (R := Int) (fun i a => if a == x then some ((i : Nat) : Int) else none) i l = some ((i + k : Nat) : Int) ∧ l[k]? = some x
  | [],i => .inl ⟨rfl,by simp⟩
  | a :: l,i => by
    by_cases h : a = x
    · subst h;exact .inr ⟨0,by simp [first],rfl⟩
    · have hb : (a == x) = false := by simp [h]
      rcases first_sp x l (i + 1) with ⟨h1,h2⟩ | ⟨k,h1,h2⟩
      · refine .inl ⟨by simp only [first,hb,Bool.false_eq_true,if_false]; exact h1,?_⟩;simp only [List.mem_cons,not_or];exact ⟨fun e => h e.symm,h2⟩
      · refine .inr ⟨k + 1,?_,by simpa using h2⟩;simp only [first,hb,Bool.false_eq_true,if_false];rw [h1]; congr 1; omega
theorem F49_sp (l : List Int) (x : Int) (hl : Sz l) : ∃ r,F49 l x = some r ∧ F65 l x = some r ∧ ((r = -1 ∧ x ∉ l) ∨ ∃ k : Nat,r = (k : Int) ∧ l[k]? = some x) := by
  unfold Sz at hl;have e1 : iter (fun s : (Int) => F49_1_b l x s) FUEL (0 : Int) = some (outF () (first (R := Int) (fun i a => if a == x then some ((i : Nat) : Int) else none) 0 l)) := by
    refine loop_first (l := l) _ (by omega) (fun i a h => ?_) ?_
    · have := lt_of h;simp only [F49_1_b,lt_dec this,if_true,idx_some h,Option.bind_some,wnat (show i ≤ 4611686018427387904 by omega)];cases a == x <;> rfl
    · simp only [F49_1_b,ge_dec,Bool.false_eq_true,if_false]
  have e2 : iter (fun s : (Int) => F65_1_b l x s) FUEL (0 : Int) = some (outF () (first (R := Int) (fun i a => if a == x then some ((i : Nat) : Int) else none) 0 l)) := by
    refine loop_first (l := l) _ (by omega) (fun i a h => ?_) ?_
    · have := lt_of h;simp only [F65_1_b,lt_dec this,if_true,idx_some h,Option.bind_some,wnat (show i ≤ 4611686018427387904 by omega)];rw [show (x == a) = (a == x) from Bool.beq_comm];cases a == x <;> rfl
    · simp only [F65_1_b,ge_dec,Bool.false_eq_true,if_false]
  unfold F49 F65;rw [e1,e2];rcases first_sp x l 0 with ⟨h1,h2⟩ | ⟨k,h1,h2⟩
  · rw [h1]; exact ⟨-1,rfl,rfl,.inl ⟨rfl,h2⟩⟩
  · rw [h1,Nat.zero_add]; exact ⟨(k : Int),rfl,rfl,.inr ⟨k,rfl,h2⟩⟩
theorem setAt_sp : ∀ (o : List Int) (i : Nat) (pl : List Int),(∀ v ∈ o,0 ≤ v ∧ v < (pl.length : Int)) → o.Nodup →
    ∃ pl',setAt o i pl = some pl' ∧ pl'.length = pl.length ∧ (∀ v : Nat,(v : Int) ∉ o → pl'[v]? = pl[v]?) ∧ (∀ (j v : Nat),o[j]? = some (v : Int) → pl'[v]? = some ((i + j + 1 : Nat) : Int))
  | [],i,pl,_,_ => ⟨pl,rfl,rfl,fun _ _ => rfl,fun j v h => by simp at h⟩
  | k :: o,i,pl,hr,hn => by
    obtain ⟨h0,h1⟩ := hr k (List.mem_cons_self ..);obtain ⟨kn,rfl⟩ : ∃ kn : Nat,k = (kn : Int) := ⟨k.toNat,by omega⟩;have hkl : kn < pl.length := by omega
    have hno := List.nodup_cons.1 hn;obtain ⟨pl',e1,e2,e3,e4⟩ := setAt_sp o (i + 1) (pl.set kn ((i + 1 : Nat) : Int)) (fun v hv => by rw [List.length_set]; exact hr v (List.mem_cons_of_mem _ hv)) hno.2;refine ⟨pl',?_,by rw [e2,List.length_set],fun v hv => ?_,fun j v hj => ?_⟩
    · simp only [setAt,upd_nat hkl,Option.bind_some]; exact e1
    · simp only [List.mem_cons,not_or] at hv;rw [e3 v hv.2,List.getElem?_set_ne (by omega)]
    · cases j with
      | zero =>
        have hv : v = kn := by have h := Option.some.inj hj; omega
        subst hv;rw [e3 v hno.1,List.getElem?_set_self hkl]
      | succ j =>
        have := e4 j v (by simpa using hj);rw [this]; congr 2; omega
end Go.Eng.Gra
namespace Go.Eng.Gra
open Go Go.Eng
set_option linter.unusedSectionVars false
set_option linter.unusedVariables false
set_option linter.unusedSimpArgs false
theorem slot {ord pl : List Int} {n : Nat} (hord : Sz ord) (hn : pl.length = n) (hrng : ∀ v ∈ ord,0 ≤ v ∧ v < (n : Int)) (hpl : ∀ (j v : Nat),ord[j]? = some (v : Int) → pl[v]? = some ((0 + j + 1 : Nat) : Int))
    (t : T_Term) (k : Nat) (to : Int) (hE : goV t k = true → 0 ≤ to → to < (n : Int) → to ∈ ord) :
    ∃ p v,F49 ord to = some p ∧ trTo pl t k to = some v ∧ ((decide (0 ≤ p) && goV t k) = true ∧ v = p ∨ (decide (0 ≤ p) && goV t k) = false ∧ v = to) := by
  obtain ⟨p,h1,_,h2⟩ := F49_sp ord to hord;unfold trTo;rw [hn];cases hg : goV t k
  · exact ⟨p,to,h1,by simp,.inr ⟨by simp,rfl⟩⟩
  by_cases hin : 0 ≤ to ∧ to < (n : Int)
  · have hm := hE hg hin.1 hin.2;rcases h2 with ⟨_,h2⟩ | ⟨j,rfl,h2⟩
    · exact absurd hm h2
    · have hjl := (List.getElem?_eq_some_iff.mp h2).1;obtain ⟨tn,rfl⟩ : ∃ tn : Nat,to = (tn : Int) := ⟨to.toNat,by omega⟩;have h3 := hpl j tn h2;refine ⟨(j : Int),(j : Int),h1,?_,.inl ⟨by simp,rfl⟩⟩;rw [decide_eq_true hin];simp only [Bool.and_self,if_true];rw [idx_some h3,Option.map_some];have hw : Go.Eng.w64 (((0 + j + 1 : Nat) : Int) - 1) = (j : Int) := by
        unfold Sz at hord;show IntKind.i64.wrap _ = _;rw [wrap64_in (by omega) (by omega)]; omega
      rw [hw]
  · have hnm : to ∉ ord := fun h => hin (hrng to h)
    rcases h2 with ⟨rfl,_⟩ | ⟨j,rfl,h2⟩
    · refine ⟨-1,to,h1,?_,.inr ⟨by simp,rfl⟩⟩;rw [decide_eq_false hin]; simp
    · exact absurd (List.mem_of_getElem? h2) hnm
theorem terms_eq {ord pl : List Int} {n : Nat} (hord : Sz ord) (hn : pl.length = n) (hrng : ∀ v ∈ ord,0 ≤ v ∧ v < (n : Int)) (hpl : ∀ (j v : Nat),ord[j]? = some (v : Int) → pl[v]? = some ((0 + j + 1 : Nat) : Int))
    (t : T_Term) (h0 : goV t 0 = true → 0 ≤ t.fTo.a0 → t.fTo.a0 < (n : Int) → t.fTo.a0 ∈ ord) (h1 : goV t 1 = true → 0 ≤ t.fTo.a1 → t.fTo.a1 < (n : Int) → t.fTo.a1 ∈ ord) :
    ∃ t2,trTm pl t = some t2 ∧ trTmR ord t = some t2 := by
  obtain ⟨p0,v0,e0,f0,g0⟩ := slot hord hn hrng hpl t 0 t.fTo.a0 h0;obtain ⟨p1,v1,e1,f1,g1⟩ := slot hord hn hrng hpl t 1 t.fTo.a1 h1;refine ⟨{ t with fTo := ⟨v0,v1⟩ },?_,?_⟩
  · unfold trTm; rw [f0,Option.bind_some,f1]; rfl
  · unfold trTmR;rw [e0,Option.bind_some,e1,Option.map_some];have r0 : trR t 0 p0 = setTo t 0 v0 := by
      unfold trR;rcases g0 with ⟨c,rfl⟩ | ⟨c,rfl⟩
      · rw [if_pos c]
      · rw [if_neg (by rw [c]; decide)]; rfl
    rw [r0];have r1 : trR (setTo t 0 v0) 1 p1 = { t with fTo := ⟨v0,v1⟩ } := by
      unfold trR;rw [goV_set];rcases g1 with ⟨c,rfl⟩ | ⟨c,rfl⟩
      · rw [if_pos c]; rfl
      · rw [if_neg (by rw [c]; decide)]; rfl
    rw [r1]
theorem blocks_eq {bs : List T_Block} {ord pl : List Int} (ho : OrdOk bs ord) (hord : Sz ord) (hn : pl.length = bs.length) (hpl : ∀ (j v : Nat),ord[j]? = some (v : Int) → pl[v]? = some ((0 + j + 1 : Nat) : Int)) (hi : ∀ b ∈ bs,b.fIns.length * 56 ≤ 140737488355328) :
    ∀ (l : List Int),(∀ k ∈ l,k ∈ ord) → ∃ bs1,omap (trB bs pl) l = some bs1 ∧ omap (nwB ord bs) l = some bs1 ∧ bs1.length = l.length
  | [],_ => ⟨[],rfl,rfl,rfl⟩
  | k :: l,hl => by
    obtain ⟨r,e1,e2,e3⟩ := blocks_eq ho hord hn hpl hi l (fun q hq => hl q (List.mem_cons_of_mem _ hq));have hk := hl k (List.mem_cons_self ..);have hr := ho.rng k hk;have hkb : bs[k.toNat]? = some (bs[k.toNat]'(by omega)) := List.getElem?_eq_getElem (by omega)
    generalize bs[k.toNat]'(by omega) = b at hkb
    have hx : idx bs k = some b := by unfold idx; rw [if_pos hr.1]; exact hkb
    have hbm := List.mem_of_getElem? hkb;obtain ⟨t2,f1,f2⟩ := terms_eq hord hn ho.rng hpl b.fTerm (fun g a c => ho.clo k hk b hkb _ ⟨a,c,.inl ⟨g,rfl⟩⟩) (fun g a c => ho.clo k hk b hkb _ ⟨a,c,.inr ⟨g,rfl⟩⟩);refine ⟨⟨b.fIns,t2⟩ :: r,?_,?_,by simp [e3]⟩
    · have : trB bs pl k = some ⟨b.fIns,t2⟩ := by
        unfold trB;rw [hx,Option.bind_some,f1,Option.bind_some];unfold clo;rw [if_pos (hi b hbm)]; rfl
      simp only [omap,this,e1]
    · have : nwB ord bs k = some ⟨b.fIns,t2⟩ := by
        unfold nwB;rw [hx,Option.bind_some,f2]; rfl
      simp only [omap,this,e2]
end Go.Eng.Gra
namespace Go.Eng.Gra
open Go Go.Eng
set_option linter.unusedSectionVars false
set_option linter.unusedVariables false
set_option linter.unusedSimpArgs false
def GA (wr o had : List Int) (q : Int) : Option Int := (idx o q).bind fun k => (F65 wr k).bind fun p => if p < (had.length : Int) then idx had p else none
def Was (wr o : List Int) (q : Int) : Prop := ∃ k p,idx o q = some k ∧ F65 wr k = some p ∧ F49 wr k = some p ∧ 0 ≤ p
theorem argsR_is {wr o had : List Int} : ∀ (nw acc : List Int),(∀ q ∈ nw,Was wr o q) → (acc.length + nw.length) * 8 ≤ 140737488355328 → argsR wr o had nw acc = some (acc ++ nw.filterMap (GA wr o had))
  | [],acc,_,_ => by simp [argsR]
  | q :: nw,acc,h,hb => by
    obtain ⟨k,p,h1,h2,h3,h4⟩ := h q (List.mem_cons_self ..);have ih := fun acc' hb' => argsR_is (wr := wr) (o := o) (had := had) nw acc' (fun q hq => h q (List.mem_cons_of_mem _ hq)) hb'
    simp only [List.length_cons] at hb;simp only [argsR,h1,Option.bind_some,h3]
    by_cases hp : p < (had.length : Int)
    · obtain ⟨pn,rfl⟩ : ∃ pn : Nat,p = (pn : Int) := ⟨p.toNat,by omega⟩;have hpn : pn < had.length := by omega
      have hx : idx had (pn : Int) = some had[pn] := idx_get hpn;have hG : GA wr o had q = some had[pn] := by
        unfold GA; rw [h1,Option.bind_some,h2,Option.bind_some,if_pos hp,hx]
      rw [decide_eq_true h4,decide_eq_true hp];simp only [Bool.and_self,if_true,hx,Option.bind_some];rw [more_nat (by simp only [List.length_singleton]; omega),Option.bind_some,ih _ (by simp only [List.length_append,List.length_singleton]; omega),List.filterMap_cons_some hG,List.append_assoc]; rfl
    · have hG : GA wr o had q = none := by
        unfold GA; rw [h1,Option.bind_some,h2,Option.bind_some,if_neg hp]
      rw [decide_eq_false hp,Bool.and_false];simp only [Bool.false_eq_true,if_false];rw [ih acc (by omega),List.filterMap_cons_none hG]
theorem runs_GA {R : Type} (wr o had : List Int) : ∀ (l : List Int) (i : Nat) (s : List Int),runs (R := R) (fun _ (s : List Int) q => .inr (s ++ (GA wr o had q).toList)) i s l = .inr (s ++ l.filterMap (GA wr o had))
  | [],i,s => by simp [runs]
  | q :: l,i,s => by
    simp only [runs];rw [runs_GA wr o had l];cases h : GA wr o had q with
    | none => rw [List.filterMap_cons_none h]; simp
    | some a => rw [List.filterMap_cons_some h]; simp
theorem F47_is {wr o had nw : List Int} (h : ∀ q ∈ nw,Was wr o q) (hb : nw.length * 8 ≤ 140737488355328) : F47 had wr nw o = some (nw.filterMap (GA wr o had)) := by
  have e : iter (fun s : (List Int) × Int => F47_1_b had wr nw o s.1 s.2) FUEL ([],(0 : Int)) = some (outOf (R := List Int) (fun s : List Int => s) (runs (R := List Int) (fun _ (s : List Int) q => .inr (s ++ (GA wr o had q).toList)) 0 [] nw)) := by
    refine loop_st (l := nw) (f := fun s : (List Int) × Int => F47_1_b had wr nw o s.1 s.2) (fun s i => (s,i)) (fun s => s) _ (fun i s => s.length ≤ i) (by omega) (fun i s q hs hq => ⟨?_,fun s' hs' => ?_⟩) (fun s hs => ?_) (Nat.le_refl 0)
    · have hi := lt_of hq;obtain ⟨k,p,h1,h2,h3,h4⟩ := h q (List.mem_of_getElem? hq);simp only [F47_1_b,lt_dec hi,if_true,idx_some hq,Option.bind_some,h1,h2]
      by_cases hp : p < (had.length : Int)
      · obtain ⟨pn,rfl⟩ : ∃ pn : Nat,p = (pn : Int) := ⟨p.toNat,by omega⟩;have hpn : pn < had.length := by omega
        have hx : idx had (pn : Int) = some had[pn] := idx_get hpn;have hG : GA wr o had q = some had[pn] := by
          unfold GA; rw [h1,Option.bind_some,h2,Option.bind_some,if_pos hp,hx]
        rw [decide_eq_true hp];simp only [if_true,hx,Option.bind_some];rw [more_nat (by simp only [List.length_singleton]; omega),Option.bind_some];simp only [F47_j1,wnat (show i ≤ 4611686018427387904 by omega),hG]; rfl
      · have hG : GA wr o had q = none := by
          unfold GA; rw [h1,Option.bind_some,h2,Option.bind_some,if_neg hp]
        rw [decide_eq_false hp];simp only [Bool.false_eq_true,if_false,F47_j1,wnat (show i ≤ 4611686018427387904 by omega),hG,Option.toList_none,List.append_nil]; rfl
    · cases hs';cases GA wr o had q <;> simp <;> omega
    · simp only [F47_1_b,ge_dec,Bool.false_eq_true,if_false]
  unfold F47;rw [e,runs_GA]; rfl
end Go.Eng.Gra
namespace Go.Eng.Gra
open Go Go.Eng
set_option linter.unusedSectionVars false
set_option linter.unusedVariables false
set_option linter.unusedSimpArgs false
theorem goV_trR (t : T_Term) (k j : Nat) (p : Int) : goV (trR t j p) k = goV t k := by
  unfold trR; split
  · exact goV_set t k j p
  · rfl
theorem trR_a0 (t : T_Term) (p0 p1 : Int) : (trR (trR t 0 p0) 1 p1).fTo.a0 = if (decide (0 ≤ p0) && goV t 0) = true then p0 else t.fTo.a0 := by
  have h : ∀ t : T_Term,(trR t 1 p1).fTo.a0 = t.fTo.a0 := by intro t; unfold trR; split <;> rfl
  rw [h]; unfold trR; split <;> rfl
theorem trR_a1 (t : T_Term) (p0 p1 : Int) : (trR (trR t 0 p0) 1 p1).fTo.a1 = if (decide (0 ≤ p1) && goV t 1) = true then p1 else t.fTo.a1 := by
  have h : ∀ t : T_Term,(trR t 0 p0).fTo.a1 = t.fTo.a1 := by intro t; unfold trR; split <;> rfl
  have h2 : ∀ t' : T_Term,(trR t' 1 p1).fTo.a1 = if (decide (0 ≤ p1) && goV t' 1) = true then p1 else t'.fTo.a1 := by intro t'; unfold trR; split <;> rfl
  rw [h2,goV_trR,h]
theorem back {ord : List Int} {n : Nat} (hord : Sz ord) (hl : ord.length ≤ n) {t : T_Term} {k : Nat} {to p : Int} {i : Nat} (hg : goV t k = true) (hE : 0 ≤ to → to < (n : Int) → to ∈ ord) (hp : F49 ord to = some p) (hi : i < ord.length) (h : (i : Int) = if (decide (0 ≤ p) && goV t k) = true then p else to) : ord[i]? = some to := by
  obtain ⟨r,h1,_,h2⟩ := F49_sp ord to hord;rw [hp] at h1; cases h1;rw [hg,Bool.and_true] at h;rcases h2 with ⟨rfl,h2⟩ | ⟨j,rfl,h2⟩
  · rw [if_neg (by decide)] at h;exact absurd (hE (by omega) (by omega)) h2
  · rw [if_pos (by simp)] at h;have : i = j := by omega
    subst this; exact h2
theorem was_ok {bs bs1 : List T_Block} {ord : List Int} (ho : OrdOk bs ord) (hord : Sz ord) (hN : bs.length ≤ 1000) (h : omap (nwB ord bs) ord = some bs1) {i : Nat} {k : Int} (hk : ord[i]? = some k) {nw wr : List Int} (hnw : (aheadV bs1)[i]? = some nw) (hwr : (aheadV bs)[k.toNat]? = some wr) :
    ∀ q ∈ nw,Was wr ord q := by
  intro q hq;have hi := (List.getElem?_eq_some_iff.mp hk).1;have hl := omap_len h;have hkr := ho.rng k (List.mem_of_getElem? hk);unfold aheadV at hnw hwr;rw [ahead_row bs1 bs1.length i (Nat.le_refl _) (by omega)] at hnw;rw [ahead_row bs bs.length k.toNat (Nat.le_refl _) (by omega)] at hwr;cases hnw; cases hwr;obtain ⟨b1,hq0,hb1,hin⟩ := row_mem.1 hq;obtain ⟨a,ha,hnwB⟩ := omap_get h hb1;unfold nwB at hnwB;obtain ⟨b,hb,hnwB⟩ := bind_some hnwB;obtain ⟨t2,ht2,rfl⟩ := Option.map_eq_some_iff.1 hnwB;unfold trTmR at ht2;obtain ⟨p0,e0,ht2⟩ := bind_some ht2;obtain ⟨p1,e1,rfl⟩ := Option.map_eq_some_iff.1 ht2;have ham := List.mem_of_getElem? ha;obtain ⟨hb0,hb2,hbg⟩ := idx_lt hb;have hnext : k ∈ nextV b := by
    rw [next_mem] at hin ⊢;rcases hin with ⟨g,e⟩ | ⟨g,e⟩
    · left
      have g : goV b.fTerm 0 = true := by rw [← goV_trR b.fTerm 0 0 p0,← goV_trR (trR b.fTerm 0 p0) 0 1 p1]; exact g
      have e : (i : Int) = _ := e;rw [trR_a0] at e;have := back hord ho.len g (fun a0 c => ho.clo a ham b hbg _ ⟨a0,c,.inl ⟨g,rfl⟩⟩) e0 hi e;rw [hk] at this;exact ⟨g,Option.some.inj this⟩
    · right
      have g : goV b.fTerm 1 = true := by rw [← goV_trR b.fTerm 1 0 p0,← goV_trR (trR b.fTerm 0 p0) 1 1 p1]; exact g
      have e : (i : Int) = _ := e;rw [trR_a1] at e;have := back hord ho.len g (fun a0 c => ho.clo a ham b hbg _ ⟨a0,c,.inr ⟨g,rfl⟩⟩) e1 hi e;rw [hk] at this;exact ⟨g,Option.some.inj this⟩
  have hmem : a ∈ rowP bs bs.length k.toNat := row_mem.2 ⟨b,hb0,hbg,by rw [Int.toNat_of_nonneg hkr.1]; exact hnext⟩;have hsz : Sz (rowP bs bs.length k.toNat) := by
    have := aheadS_row bs bs.length _ (List.mem_of_getElem? (ahead_row bs bs.length k.toNat (Nat.le_refl _) (by omega)));unfold Sz; omega
  obtain ⟨p,f1,f2,f3⟩ := F49_sp _ a hsz;refine ⟨a,p,?_,f2,f1,?_⟩
  · unfold idx; rw [if_pos hq0]; exact ha
  · rcases f3 with ⟨_,f3⟩ | ⟨j,rfl,_⟩
    · exact absurd hmem f3
    · omega
end Go.Eng.Gra
namespace Go.Eng.Gra
open Go Go.Eng
set_option linter.unusedSectionVars false
set_option linter.unusedVariables false
set_option linter.unusedSimpArgs false
structure Small2 (g : T_Graph) : Prop where
  blocks : g.fBlocks.length ≤ 400
  params : g.fParams.length ≤ 2000
  vars : g.fVars.length ≤ 2000
  arrays : g.fArrays.length ≤ 2000
  ins : ∀ b ∈ g.fBlocks,b.fIns.length ≤ 2000
  args : ∀ b ∈ g.fBlocks,∀ x ∈ b.fIns,x.fArgs.length ≤ 2000
structure At (was now : List (List Int)) (ord : List Int) (i : Nat) (nw : List Int) : Prop where
  at_ : idx now (i : Int) = some nw
  sz : nw.length ≤ 100000
  was : ∃ k wr,idx ord (i : Int) = some k ∧ idx was k = some wr ∧ ∀ q ∈ nw,Was wr ord q
theorem ins_eq {was now : List (List Int)} {ord nw : List Int} {i : Nat} (h : At was now ord i nw) (x : T_Ins) (hx : x.fArgs.length ≤ 2000) : ∃ y,insT was ord i nw x = some y ∧ insR was ord i nw x = some y ∧ Sz y.fArgs := by
  obtain ⟨k,wr,h1,h2,h3⟩ := h.was;have hsz := h.sz;unfold insT argsT insR;cases hp : (x.fKind == 1)
  · refine ⟨x,?_,by simp,by unfold Sz; omega⟩;simp only [Bool.false_eq_true,if_false,Option.bind_some];unfold clo;rw [if_pos (by omega)]; rfl
  · simp only [if_true,h1,Option.bind_some,h2];have hl : (nw.filterMap (GA wr ord x.fArgs)).length ≤ nw.length := List.length_filterMap_le ..;rw [F47_is h3 (by omega),argsR_is nw [] h3 (by simp only [List.length_nil]; omega)];refine ⟨{ x with fArgs := nw.filterMap (GA wr ord x.fArgs) },?_,rfl,by unfold Sz; show (nw.filterMap (GA wr ord x.fArgs)).length ≤ _; omega⟩;rw [Option.bind_some];unfold clo;rw [if_pos (by omega)]; rfl
theorem inss_eq {was now : List (List Int)} {ord nw : List Int} {i : Nat} (h : At was now ord i nw) : ∀ (l : List T_Ins),(∀ x ∈ l,x.fArgs.length ≤ 2000) → ∃ r,omap (insT was ord i nw) l = some r ∧ omap (insR was ord i nw) l = some r ∧ r.length = l.length ∧ ∀ y ∈ r,Sz y.fArgs
  | [],_ => ⟨[],rfl,rfl,rfl,fun _ h => absurd h List.not_mem_nil⟩
  | x :: l,hl => by
    obtain ⟨y,e1,e2,e3⟩ := ins_eq h x (hl x (List.mem_cons_self ..));obtain ⟨r,f1,f2,f3,f4⟩ := inss_eq h l (fun x hx => hl x (List.mem_cons_of_mem _ hx));exact ⟨y :: r,by simp only [omap,e1,f1],by simp only [omap,e2,f2],by simp [f3],fun z hz => by
      rcases List.mem_cons.1 hz with h | h
      · rw [h]; exact e3
      · exact f4 z h⟩
theorem rows_eq {was now : List (List Int)} {ord : List Int} : ∀ (l : List T_Block) (i : Nat),(∀ j,j < l.length → ∃ nw,At was now ord (i + j) nw) → (∀ b ∈ l,b.fIns.length ≤ 2000 ∧ ∀ x ∈ b.fIns,x.fArgs.length ≤ 2000) →
    ∃ r ll,rowsT was ord now i l = some r ∧ rowsB was ord now i l = some ll ∧ zipB l ll = r ∧ r.length = l.length ∧ ∀ b ∈ r,Sz b.fIns ∧ ∀ x ∈ b.fIns,Sz x.fArgs
  | [],i,_,_ => ⟨[],[],rfl,rfl,rfl,rfl,fun _ h => absurd h List.not_mem_nil⟩
  | b :: l,i,h,hl => by
    obtain ⟨nw,hat⟩ := h 0 (by simp);rw [Nat.add_zero] at hat;obtain ⟨r,f1,f2,f3,f4⟩ := inss_eq hat b.fIns (hl b (List.mem_cons_self ..)).2;have hb0 := (hl b (List.mem_cons_self ..)).1;obtain ⟨rs,ll,g1,g2,g3,g4,g5⟩ := rows_eq l (i + 1) (fun j hj => by
      have := h (j + 1) (by simpa using hj);rw [show i + (j + 1) = i + 1 + j by omega] at this; exact this) (fun b hb => hl b (List.mem_cons_of_mem _ hb))
    refine ⟨⟨r,b.fTerm⟩ :: rs,r :: ll,?_,?_,?_,by simp [g4],fun c hc => ?_⟩
    · simp only [rowsT,hat.at_,Option.bind_some,f1,g1,Option.map_some]
    · simp only [rowsB,hat.at_,Option.bind_some,f2,g2,Option.map_some]
    · unfold zipB at g3 ⊢;rw [List.zipWith_cons_cons,g3]
    · rcases List.mem_cons.1 hc with h | h
      · rw [h]; exact ⟨by unfold Sz; show r.length ≤ _; omega,f4⟩
      · exact g5 c h
theorem trim_eq {g : T_Graph} (hs : Small2 g) : ∃ r,F25 g = some r ∧ F26 g = some r ∧ Sz r.fParams ∧ Sz r.fVars ∧ Sz r.fArrays ∧ Sz r.fBlocks ∧ (∀ b ∈ r.fBlocks,Sz b.fIns ∧ ∀ x ∈ b.fIns,Sz x.fArgs) := by
  obtain ⟨ord,hord,ho⟩ := order_ok g hs.blocks;have hb := hs.blocks;have hpp := hs.params;have hvv := hs.vars;have haa := hs.arrays;have hlen := ho.len;have hsz : Sz ord := by unfold Sz; omega
  obtain ⟨pl,e1,e2,_,e4⟩ := setAt_sp ord 0 (List.replicate g.fBlocks.length (0 : Int)) (fun v hv => by rw [List.length_replicate]; exact ho.rng v hv) ho.nd;rw [List.length_replicate] at e2;obtain ⟨bs1,f1,f2,f3⟩ := blocks_eq ho hsz e2 e4 (fun b hb => by have := hs.ins b hb; omega) ord (fun _ h => h);have hbs1 : ∀ b ∈ bs1,b.fIns.length ≤ 2000 ∧ ∀ x ∈ b.fIns,x.fArgs.length ≤ 2000 := by
    intro b hb;obtain ⟨j,hj⟩ := List.getElem?_of_mem hb;obtain ⟨a,_,hnw⟩ := omap_get f2 hj;unfold nwB at hnw;obtain ⟨b0,hb0,hnw⟩ := bind_some hnw;obtain ⟨t,_,rfl⟩ := Option.map_eq_some_iff.1 hnw;exact ⟨hs.ins b0 (List.mem_of_getElem? (idx_lt hb0).2.2),hs.args b0 (List.mem_of_getElem? (idx_lt hb0).2.2)⟩
  obtain ⟨r,ll,g1,g2,g3,g4,g5⟩ := rows_eq (was := aheadV g.fBlocks) (now := aheadV bs1) (ord := ord) bs1 0 (fun j hj => by
    rw [Nat.zero_add];have hjo : j < ord.length := by omega
    have hk : ord[j]? = some ord[j] := List.getElem?_eq_getElem hjo
    generalize ord[j] = k at hk
    have hkr := ho.rng k (List.mem_of_getElem? hk);have hn : (aheadV bs1)[j]? = some ((aheadV bs1)[j]'(by unfold aheadV; rw [aheadS_len]; exact hj)) := List.getElem?_eq_getElem _
    generalize (aheadV bs1)[j]'(by unfold aheadV; rw [aheadS_len]; exact hj) = nw at hn
    have hw : (aheadV g.fBlocks)[k.toNat]? = some ((aheadV g.fBlocks)[k.toNat]'(by unfold aheadV; rw [aheadS_len]; omega)) := List.getElem?_eq_getElem _
    generalize (aheadV g.fBlocks)[k.toNat]'(by unfold aheadV; rw [aheadS_len]; omega) = wr at hw
    refine ⟨nw,idx_some hn,?_,k,wr,idx_some hk,?_,was_ok ho hsz (by omega) f2 hk hn hw⟩
    · have := aheadS_row bs1 _ nw (List.mem_of_getElem? hn)
      omega
    · unfold idx; rw [if_pos hkr.1]; exact hw) hbs1
  refine ⟨{ g with fBlocks := r },?_,?_,by unfold Sz; show g.fParams.length ≤ _; omega,by unfold Sz; show g.fVars.length ≤ _; omega,by unfold Sz; show g.fArrays.length ≤ _; omega,by unfold Sz; show r.length ≤ _; omega,g5⟩
  · unfold F25;rw [hord,Option.bind_some,if_pos ⟨by omega,by omega⟩,made_nat (by omega) (by omega),Option.bind_some,e1,Option.bind_some];unfold clo;rw [if_pos (by omega),Option.bind_some,if_pos (by omega),Option.bind_some,if_pos (by omega),Option.bind_some,f1,Option.bind_some,g1]; rfl
  · have hc : cokB g = true := by
      unfold cokB;simp only [Bool.and_eq_true,decide_eq_true_eq,List.all_eq_true];refine ⟨⟨⟨⟨by omega,by omega⟩,by omega⟩,by omega⟩,fun b hb => ⟨by have := hs.ins b hb; omega,fun x hx => by have := hs.args b hb x hx; omega⟩⟩
    unfold F26;rw [hord,Option.bind_some,if_pos ⟨hc,by omega,ho.nd⟩,f2,Option.bind_some,g2,Option.map_some,g3]; rfl
end Go.Eng.Gra
namespace Go.Eng.Gra
open Go Go.Eng
set_option linter.unusedSectionVars false
set_option linter.unusedVariables false
set_option linter.unusedSimpArgs false
set_option maxRecDepth 20000
abbrev Q5 (L : List Ob) (r : Bool) : V → Heap → Prop := fun v h => v = EB.e r ∧ HP h (L)
abbrev RR5 (L : List Ob) (r : Bool) : List V → Heap → Prop := fun e h => endR none [2] (Q5 L r) e h
abbrev I5_1 (x0 : T_Graph) (L : List Ob) : (Int) → List V → Heap → Prop := fun s e h => e = (mkE [(1,(V.fp (E_Graph.e x0))),(1,(V.int .i64 s))] 53) ∧ HP h (L)
abbrev J5_1 (x0 : T_Graph) (L : List Ob) : Unit → Nat → List V → Heap → Prop := fun a i e h => i = 0 ∧ clrEnv [2,3,7,8,9,10,11,12,13,14,15,16,17,18,19,20,21,22,23,24,25,26,27] e = (mkE [(1,(V.fp (E_Graph.e x0)))] 55) ∧ HP h (L)
def F5_1_b (x0 : T_Graph) (y122 : Int) : Option (Stp (Int) Bool Unit) :=
  if (decide (y122 < ((List.length x0.fBlocks : Nat) : Int))) then
    (idx x0.fBlocks y122).bind fun y160 =>
    (F15 y160).bind fun y162 =>
    (idx x0.fBlocks y122).bind fun y164 =>
    (F18 y164).bind fun y166 =>
    (F17 y162 y166).bind fun y168 =>
    if (!y168) then
      some (.ret false)
    else
      some (.next ((IntKind.i64.wrap (y122 + (1 : Int)))))
  else
    some (.go ())
theorem w5_1_b {x0 : T_Graph} {y122 : Int} {t : (Stp (Int) Bool Unit)} (h : F5_1_b x0 y122 = some t) {H : Heap} {L : List Ob} (hp : HP H (L)) :
    Run T i5n18 (mkE [(1,(V.fp (E_Graph.e x0))),(1,(V.int .i64 y122))] 53) H (stp [2,7,8,9,10,11,12,13,14,15,16,17,18,19,20,21,22,23,24,25,26,27] (I5_1 x0 L) (RR5 L) (J5_1 x0 L) t) := by
  unfold F5_1_b at h;refine Run.seq ?_;refine Run.seq ?_;refine Run.rgn ?_;refine RunO.tk 3 (by kernel_rfl) ?_;refine RunO.p1 (by kernel_rfl) rfl (by kernel_rfl) (len_fz E_Block x0.fBlocks) ?_;refine RunO.tk 1 (by kernel_rfl) ?_;refine RunO.done (e' := (mkE [(1,(V.fp (E_Graph.e x0))),(1,(V.int .i64 y122)),(7,(V.bool (decide (y122 < ((List.length x0.fBlocks : Nat) : Int)))))] 45)) (by kernel_rfl) ?_;rcases Bool.eq_false_or_eq_true (decide (y122 < ((List.length x0.fBlocks : Nat) : Int))) with h148 | h148
  · rw [ite_t h148] at h; refine Run.condT (by rw [← h148]; kernel_rfl) ?_;refine Run.skip ?_;refine Run.clrE (ts := [7,8,9,10,11]) (b := i5n17) (Q := (stp [2,7,8,9,10,11,12,13,14,15,16,17,18,19,20,21,22,23,24,25,26,27] (I5_1 x0 L) (RR5 L) (J5_1 x0 L) t)) (e' := (mkE [(1,(V.fp (E_Graph.e x0))),(1,(V.int .i64 y122))] 53)) (by kernel_rfl) ?_;refine Run.seq ?_;refine Run.block ?_;refine Run.seq ?_;refine Run.rgn ?_;refine RunO.tk 3 (by kernel_rfl) ?_;obtain ⟨y160,h161,h⟩ := bind_some h;refine RunO.p1 (by kernel_rfl) rfl (by kernel_rfl) (idx_fz E_Block .i64 h161) ?_;refine RunO.tk 1 (by kernel_rfl) ?_;obtain ⟨y162,h163,h⟩ := bind_some h;refine RunO.c2 (by kernel_rfl) (by kernel_rfl) (by kernel_rfl) (c15 h163) ?_;refine RunO.tk 3 (by kernel_rfl) ?_;obtain ⟨y164,h165,h⟩ := bind_some h;refine RunO.p1 (by kernel_rfl) rfl (by kernel_rfl) (idx_fz E_Block .i64 h165) ?_;refine RunO.tk 1 (by kernel_rfl) ?_;obtain ⟨y166,h167,h⟩ := bind_some h;refine RunO.c2 (by kernel_rfl) (by kernel_rfl) (by kernel_rfl) (c18 h167) ?_;obtain ⟨y168,h169,h⟩ := bind_some h;refine RunO.c1 (by kernel_rfl) (by kernel_rfl) (c17 h169 _) ?_;refine RunO.tk 1 (by kernel_rfl) ?_;refine RunO.done (e' := (mkE [(1,(V.fp (E_Graph.e x0))),(1,(V.int .i64 y122)),(23,(V.bool (!y168)))] 29)) (by kernel_rfl) ?_;rcases Bool.eq_false_or_eq_true (!y168) with h170 | h170
    · rw [ite_t h170] at h; refine Run.condT (by rw [← h170]; kernel_rfl) ?_;refine Run.seq ?_;refine Run.rgn ?_;refine RunO.tk 1 (by kernel_rfl) ?_;refine RunO.done (e' := (mkE [(2,(V.bool false))] 54)) (by kernel_rfl) ?_;refine Run.ret ?_;have h := Option.some.inj h; subst h;show RR5 L _ _ _;exact ⟨(V.bool false),(by kernel_rfl),(by kernel_rfl),hp⟩
    · rw [ite_f h170] at h; refine Run.condF (by rw [← h170]; kernel_rfl) ?_;refine Run.skip ?_;refine Run.clrE (ts := [2,14,15,16,17,18,19,20,21,22,23,24,25,26,27]) (b := (.rgn i5r16)) (Q := (stp [2,7,8,9,10,11,12,13,14,15,16,17,18,19,20,21,22,23,24,25,26,27] (I5_1 x0 L) (RR5 L) (J5_1 x0 L) t)) (e' := (mkE [(1,(V.fp (E_Graph.e x0))),(1,(V.int .i64 y122))] 53)) (by kernel_rfl) ?_;refine Run.rgn ?_;refine RunO.tk 3 (by kernel_rfl) ?_;refine RunO.nil ?_;have h := Option.some.inj h; subst h;show I5_1 x0 L _ _ _;exact ⟨(by kernel_rfl),hp⟩
  · rw [ite_f h148] at h; refine Run.condF (by rw [← h148]; kernel_rfl) ?_;refine Run.exit ?_;have h := Option.some.inj h; subst h;show J5_1 x0 L () _ _ _;exact ⟨rfl,(by kernel_rfl),hp⟩
def F5 (x0 : T_Graph) : Option Bool :=
  (F12 x0).bind fun y93 =>
  if y93 then
    (F9).bind fun y96 =>
    some y96
  else
    (iter (fun s : (Int) => F5_1_b x0 s) FUEL ((0 : Int))).bind fun o => match o with
    | .ret r => some r
    | .go () =>
      (F13 x0).bind fun y172 =>
      (F20 x0).bind fun y174 =>
      (F19 y172 y174).bind fun y176 =>
      if y176 then
        (F14 x0).bind fun y179 =>
        (F21 x0).bind fun y181 =>
        (F17 y179 y181).bind fun y183 =>
        if y183 then
          (F22 x0).bind fun y186 =>
          (F23 x0).bind fun y188 =>
          if (y186 == y188) then
            (F25 x0).bind fun y191 =>
            (F26 x0).bind fun y193 =>
            (F24 y191 y193).bind fun y195 =>
            if y195 then
              (F9).bind fun y198 =>
              some y198
            else
              some false
          else
            some false
        else
          some false
      else
        some false
theorem w5 {x0 : T_Graph} {r : Bool} (h : F5 x0 = some r) {H : Heap} {L : List Ob} (hp : HP H (L)) : Fn T 5 [(E_Graph.e x0)] H (Q5 L r) := by
  refine Fn.enterE t5 (e0 := (mkE [(0,(E_Graph.e x0))] 56)) (by kernel_rfl) ?_;show Run T (.clr [] i5n26) _ _ (finE none [2] (Q5 L r));refine Run.clrE (ts := []) (b := i5n26) (e' := (mkE [(0,(E_Graph.e x0))] 56)) (by kernel_rfl) ?_;unfold F5 at h;refine Run.seq ?_;refine Run.rgn ?_;refine RunO.tk 2 (by kernel_rfl) ?_;refine RunO.done (e' := (mkE [(1,(V.fp (E_Graph.e x0)))] 55)) (by kernel_rfl) ?_;refine Run.seq ?_;refine Run.seq ?_;refine Run.rgn ?_;refine RunO.tk 1 (by kernel_rfl) ?_;obtain ⟨y93,h94,h⟩ := bind_some h;refine RunO.c1 (by kernel_rfl) (by kernel_rfl) (c12 h94 _) ?_;refine RunO.done (e' := (mkE [(1,(V.fp (E_Graph.e x0))),(3,(V.bool y93))] 51)) (by kernel_rfl) ?_;rcases Bool.eq_false_or_eq_true y93 with h95 | h95
  · rw [ite_t h95] at h; refine Run.condT (by rw [← h95]; kernel_rfl) ?_;refine Run.seq ?_;refine Run.rgn ?_;obtain ⟨y96,h97,h⟩ := bind_some h;refine RunO.c1 (by kernel_rfl) (by kernel_rfl) (c9 h97 _) ?_;refine RunO.tk 1 (by kernel_rfl) ?_;refine RunO.done (e' := (mkE [(2,(V.bool y96))] 54)) (by kernel_rfl) ?_;refine Run.ret ?_;have h := Option.some.inj h; subst h;exact ⟨(V.bool y96),(by kernel_rfl),(by kernel_rfl),hp⟩
  · rw [ite_f h95] at h; refine Run.condF (by rw [← h95]; kernel_rfl) ?_;refine Run.skip ?_;refine Run.clrE (ts := [2,4,5,6]) (b := i5n24) (Q := (finE none [2] (Q5 L r))) (e' := (mkE [(1,(V.fp (E_Graph.e x0)))] 55)) (by kernel_rfl) ?_;refine Run.seq ?_;refine Run.seq ?_;refine Run.rgn ?_;refine RunO.tk 1 (by kernel_rfl) ?_;refine RunO.done (e' := (mkE [(1,(V.fp (E_Graph.e x0))),(1,(V.int .i64 (0 : Int)))] 53)) (by kernel_rfl) ?_;refine Run.block ?_;obtain ⟨o,h171,h⟩ := bind_some h;refine (Run.iter (I := I5_1 x0 L) (RR := RR5 L) (J := J5_1 x0 L) (fun s e h' t hI hf => ?_) FUEL h171 (by exact ⟨(by kernel_rfl),hp⟩)).mono ?_
    · obtain ⟨rfl,hp⟩ := hI; exact w5_1_b hf hp
    · rintro X e' H hq;cases o with
      | ret r => cases X <;> first | exact hq.elim | (cases h; exact hq)
      | go a =>
        cases X with | nrm => exact hq.elim | ret => exact hq.elim | ext i => ?_;obtain ⟨rfl,he,hp⟩ := hq
        dsimp only at h
        refine Run.clrE (ts := [2,3,7,8,9,10,11,12,13,14,15,16,17,18,19,20,21,22,23,24,25,26,27]) (b := i5n23) (Q := (finE none [2] (Q5 L r))) he ?_;refine Run.seq ?_;refine Run.rgn ?_;refine RunO.tk 1 (by kernel_rfl) ?_;obtain ⟨y172,h173,h⟩ := bind_some h;refine RunO.c2 (by kernel_rfl) (by kernel_rfl) (by kernel_rfl) (c13 h173) ?_;refine RunO.tk 1 (by kernel_rfl) ?_;obtain ⟨y174,h175,h⟩ := bind_some h;refine RunO.c2 (by kernel_rfl) (by kernel_rfl) (by kernel_rfl) (c20 h175) ?_;obtain ⟨y176,h177,h⟩ := bind_some h;rcases Bool.eq_false_or_eq_true y176 with h178 | h178
        · subst h178; rw [if_pos rfl] at h;refine RunO.c1 (by kernel_rfl) (by kernel_rfl) (c19 h177 _) ?_;refine RunO.tk 2 (by kernel_rfl) ?_;obtain ⟨y179,h180,h⟩ := bind_some h;refine RunO.c2 (by kernel_rfl) (by kernel_rfl) (by kernel_rfl) (c14 h180) ?_;refine RunO.tk 1 (by kernel_rfl) ?_;obtain ⟨y181,h182,h⟩ := bind_some h;refine RunO.c2 (by kernel_rfl) (by kernel_rfl) (by kernel_rfl) (c21 h182) ?_;obtain ⟨y183,h184,h⟩ := bind_some h;rcases Bool.eq_false_or_eq_true y183 with h185 | h185
          · subst h185; rw [if_pos rfl] at h;refine RunO.c1 (by kernel_rfl) (by kernel_rfl) (c17 h184 _) ?_;refine RunO.tk 3 (by kernel_rfl) ?_;obtain ⟨y186,h187,h⟩ := bind_some h;refine RunO.c1 (by kernel_rfl) (by kernel_rfl) (c22 h187 _) ?_;refine RunO.tk 1 (by kernel_rfl) ?_;obtain ⟨y188,h189,h⟩ := bind_some h;refine RunO.c1 (by kernel_rfl) (by kernel_rfl) (c23 h189 _) ?_;rcases Bool.eq_false_or_eq_true (y186 == y188) with h190 | h190
            · rw [ite_t h190] at h; refine RunO.p1 (by kernel_rfl) rfl (by kernel_rfl) (bool_of h190) ?_;refine RunO.tk 3 (by kernel_rfl) ?_;obtain ⟨y191,h192,h⟩ := bind_some h;refine RunO.c2 (by kernel_rfl) (by kernel_rfl) (by kernel_rfl) (c25 h192) ?_;refine RunO.tk 1 (by kernel_rfl) ?_;obtain ⟨y193,h194,h⟩ := bind_some h;refine RunO.c2 (by kernel_rfl) (by kernel_rfl) (by kernel_rfl) (c26 h194) ?_;obtain ⟨y195,h196,h⟩ := bind_some h;rcases Bool.eq_false_or_eq_true y195 with h197 | h197
              · subst h197; rw [if_pos rfl] at h;refine RunO.c1 (by kernel_rfl) (by kernel_rfl) (c24 h196 _) ?_;refine RunO.tk 2 (by kernel_rfl) ?_;obtain ⟨y198,h199,h⟩ := bind_some h;refine RunO.c1 (by kernel_rfl) (by kernel_rfl) (c9 h199 _) ?_;refine RunO.tk 2 (by kernel_rfl) ?_;refine RunO.done (e' := (mkE [(2,(V.bool y198))] 54)) (by kernel_rfl) ?_;refine Run.ret ?_;have h := Option.some.inj h; subst h;exact ⟨(V.bool y198),(by kernel_rfl),(by kernel_rfl),hp⟩
              · subst h197; rw [if_neg (by decide)] at h;refine RunO.c1 (by kernel_rfl) (by kernel_rfl) (c24 h196 _) ?_;refine RunO.tk 5 (by kernel_rfl) ?_;refine RunO.done (e' := (mkE [(2,(V.bool false))] 54)) (by kernel_rfl) ?_;refine Run.ret ?_;have h := Option.some.inj h; subst h;exact ⟨(V.bool false),(by kernel_rfl),(by kernel_rfl),hp⟩
            · rw [ite_f h190] at h; refine RunO.p1 (by kernel_rfl) rfl (by kernel_rfl) (bool_of h190) ?_;refine RunO.tk 12 (by kernel_rfl) ?_;refine RunO.done (e' := (mkE [(2,(V.bool false))] 54)) (by kernel_rfl) ?_;refine Run.ret ?_;have h := Option.some.inj h; subst h;exact ⟨(V.bool false),(by kernel_rfl),(by kernel_rfl),hp⟩
          · subst h185; rw [if_neg (by decide)] at h;refine RunO.c1 (by kernel_rfl) (by kernel_rfl) (c17 h184 _) ?_;refine RunO.tk 19 (by kernel_rfl) ?_;refine RunO.done (e' := (mkE [(2,(V.bool false))] 54)) (by kernel_rfl) ?_;refine Run.ret ?_;have h := Option.some.inj h; subst h;exact ⟨(V.bool false),(by kernel_rfl),(by kernel_rfl),hp⟩
        · subst h178; rw [if_neg (by decide)] at h;refine RunO.c1 (by kernel_rfl) (by kernel_rfl) (c19 h177 _) ?_;refine RunO.tk 25 (by kernel_rfl) ?_;refine RunO.done (e' := (mkE [(2,(V.bool false))] 54)) (by kernel_rfl) ?_;refine Run.ret ?_;have h := Option.some.inj h; subst h;exact ⟨(V.bool false),(by kernel_rfl),(by kernel_rfl),hp⟩
theorem c5 {x0 : T_Graph} {r : Bool} (h : F5 x0 = some r) (s : Bool) : Fn T 5 [(E_Graph.e x0)] [] (fun v hh => deep s hh deepN v = some (EB.e r)) := by
  refine (w5 h HP.nil).mono ?_;rintro v hh ⟨rfl,hp⟩;exact EB.hd s hh 38 _ (.inr rfl)
end Go.Eng.Gra
namespace Go.Eng.Gra
open Go Go.Eng
set_option linter.unusedSectionVars false
set_option linter.unusedVariables false
set_option linter.unusedSimpArgs false
theorem first_none {α R : Type} : ∀ (l : List α) (i : Nat),first (R := R) (fun _ _ => none) i l = none
  | [],_ => rfl
  | a :: l,i => by simp only [first]; exact first_none l (i + 1)
theorem loop_go {α R A : Type} {l : List α} {f : Int → Option (Stp Int R A)} {a0 : A} (hl : l.length < 4611686018427387904) (hin : ∀ (i : Nat) (a : α),l[i]? = some a → f (i : Int) = some (.next ((i + 1 : Nat) : Int))) (hout : f (l.length : Int) = some (.go a0)) : iter f FUEL 0 = some (.go a0) := by
  rw [loop_first (a0 := a0) (fun _ _ => none) hl (fun i a h => hin i a h) hout,first_none]; rfl
theorem F17_refl (l : List Int) (hl : Sz l) : F17 l l = some true := by
  unfold Sz at hl;have e : iter (fun s : (Int) => F17_1_b l l s) FUEL (0 : Int) = some (.go ()) := by
    refine loop_go (l := l) (by omega) (fun i a h => ?_) ?_
    · have := lt_of h;simp only [F17_1_b,lt_dec this,if_true,idx_some h,Option.bind_some,wnat (show i ≤ 4611686018427387904 by omega),bne_self_eq_false,Bool.false_eq_true,if_false]
    · simp only [F17_1_b,ge_dec,Bool.false_eq_true,if_false]
  unfold F17;rw [e]; simp
theorem F40_refl (l : List Int) (hl : Sz l) : F40 l l = some true := by
  unfold Sz at hl;have e : iter (fun s : (Int) => F40_1_b l l s) FUEL (0 : Int) = some (.go ()) := by
    refine loop_go (l := l) (by omega) (fun i a h => ?_) ?_
    · have := lt_of h;simp only [F40_1_b,lt_dec this,if_true,idx_some h,Option.bind_some,wnat (show i ≤ 4611686018427387904 by omega),bne_self_eq_false,Bool.false_eq_true,if_false]
    · simp only [F40_1_b,ge_dec,Bool.false_eq_true,if_false]
  unfold F40;rw [e]; simp
theorem F41_refl (l : List T_Array) (hl : Sz l) : F41 l l = some true := by
  unfold Sz at hl;have e : iter (fun s : (Int) => F41_1_b l l s) FUEL (0 : Int) = some (.go ()) := by
    refine loop_go (l := l) (by omega) (fun i a h => ?_) ?_
    · have := lt_of h;simp only [F41_1_b,lt_dec this,if_true,idx_some h,Option.bind_some,wnat (show i ≤ 4611686018427387904 by omega),decide_true,Bool.not_true,Bool.false_eq_true,if_false]
    · simp only [F41_1_b,ge_dec,Bool.false_eq_true,if_false]
  unfold F41;rw [e]; simp
theorem F19_refl (l : List (List Int)) (hl : Sz l) (hr : ∀ r ∈ l,Sz r) : F19 l l = some true := by
  unfold Sz at hl;have e : iter (fun s : (Int) => F19_1_b l l s) FUEL (0 : Int) = some (.go ()) := by
    refine loop_go (l := l) (by omega) (fun i a h => ?_) ?_
    · have := lt_of h;simp only [F19_1_b,lt_dec this,if_true,idx_some h,Option.bind_some,F17_refl a (hr a (List.mem_of_getElem? h)),wnat (show i ≤ 4611686018427387904 by omega),Bool.not_true,Bool.false_eq_true,if_false]
    · simp only [F19_1_b,ge_dec,Bool.false_eq_true,if_false]
  unfold F19;rw [e]; simp
end Go.Eng.Gra
namespace Go.Eng.Gra
open Go Go.Eng
set_option linter.unusedSectionVars false
set_option linter.unusedVariables false
set_option linter.unusedSimpArgs false
theorem F97_refl (x : T_Ins) (hl : Sz x.fArgs) : F97 x x = some true := by
  unfold F97
  simp [F17_refl _ hl]
theorem F87_refl (l : List T_Ins) (hl : Sz l) (hr : ∀ x ∈ l,Sz x.fArgs) : F87 l l = some true := by
  unfold Sz at hl;have e : iter (fun s : (Int) => F87_1_b l l s) FUEL (0 : Int) = some (.go ()) := by
    refine loop_go (l := l) (by omega) (fun i a h => ?_) ?_
    · have := lt_of h;simp only [F87_1_b,lt_dec this,if_true,idx_some h,Option.bind_some,F97_refl a (hr a (List.mem_of_getElem? h)),wnat (show i ≤ 4611686018427387904 by omega),Bool.not_true,Bool.false_eq_true,if_false]
    · simp only [F87_1_b,ge_dec,Bool.false_eq_true,if_false]
  unfold F87;rw [e]; simp
theorem F64_refl (b : T_Block) (hl : Sz b.fIns) (hr : ∀ x ∈ b.fIns,Sz x.fArgs) : F64 b b = some true := by
  unfold F64;rw [F87_refl _ hl hr,Option.bind_some,if_pos rfl]; simp
theorem F42_refl (l : List T_Block) (hl : Sz l) (hi : ∀ b ∈ l,Sz b.fIns) (hr : ∀ b ∈ l,∀ x ∈ b.fIns,Sz x.fArgs) : F42 l l = some true := by
  unfold Sz at hl;have e : iter (fun s : (Int) => F42_1_b l l s) FUEL (0 : Int) = some (.go ()) := by
    refine loop_go (l := l) (by omega) (fun i a h => ?_) ?_
    · have := lt_of h;have hm := List.mem_of_getElem? h;simp only [F42_1_b,lt_dec this,if_true,idx_some h,Option.bind_some,F64_refl a (hi a hm) (hr a hm),wnat (show i ≤ 4611686018427387904 by omega),Bool.not_true,Bool.false_eq_true,if_false]
    · simp only [F42_1_b,ge_dec,Bool.false_eq_true,if_false]
  unfold F42;rw [e]; simp
theorem F24_refl (g : T_Graph) (hp : Sz g.fParams) (hv : Sz g.fVars) (ha : Sz g.fArrays) (hb : Sz g.fBlocks) (hi : ∀ b ∈ g.fBlocks,Sz b.fIns) (hr : ∀ b ∈ g.fBlocks,∀ x ∈ b.fIns,Sz x.fArgs) : F24 g g = some true := by
  unfold F24
  simp [F17_refl _ hp,F40_refl _ hv,F41_refl _ ha,F42_refl _ hb hi hr]
theorem F22_some (g : T_Graph) (hb : g.fBlocks.length ≤ 400) (hi : ∀ b ∈ g.fBlocks,b.fIns.length ≤ 2000) : ∃ r,F22 g = some r ∧ F23 g = some r := by
  have e : iter (fun s : (Int × Int) => F22_1_b g s.1 s.2) FUEL (((List.length g.fBlocks : Nat) : Int),(0 : Int)) = some (outOf (R := Int) (fun s : Int => s) (runs (R := Int) (fun _ (s : Int) (b : T_Block) => .inr (IntKind.i64.wrap (s + ((List.length b.fIns : Nat) : Int)))) 0 ((List.length g.fBlocks : Nat) : Int) g.fBlocks)) := by
    refine loop_st (l := g.fBlocks) (f := fun s : (Int × Int) => F22_1_b g s.1 s.2) (fun s i => (s,i)) (fun s => s) _ (fun i s => True) (by omega) (fun i s q hs hq => ⟨?_,fun s' hs' => trivial⟩) (fun s hs => ?_) trivial
    · have h := lt_of hq;simp only [F22_1_b,lt_dec h,if_true,idx_some hq,Option.bind_some,wnat (show i ≤ 4611686018427387904 by omega)]; rfl
    · simp only [F22_1_b,ge_dec,Bool.false_eq_true,if_false]
  have hsm : F23 g = F22 g := rfl;rw [hsm];unfold F22;rw [e];cases h : runs (R := Int) (fun _ (s : Int) (b : T_Block) => .inr (IntKind.i64.wrap (s + ((List.length b.fIns : Nat) : Int)))) 0 ((List.length g.fBlocks : Nat) : Int) g.fBlocks with
  | inl r => exact ⟨r,rfl,rfl⟩
  | inr r => exact ⟨r,rfl,rfl⟩
end Go.Eng.Gra
namespace Go.Eng.Gra
open Go Go.Eng
set_option linter.unusedSectionVars false
set_option linter.unusedVariables false
set_option linter.unusedSimpArgs false
theorem F12_is2 (g : T_Graph) (hs : SzG g) : ∃ b,F12 g = some b ∧ (b = false → Small2 g) := by
  unfold F12
  by_cases h1 : ((List.length g.fBlocks : Nat) : Int) > 400
  · exact ⟨true,by rw [decide_eq_true h1]; rfl,fun h => by cases h⟩
  rw [decide_eq_false h1];simp only [Bool.false_eq_true,if_false]
  by_cases h2 : ((List.length g.fVars : Nat) : Int) > 2000
  · exact ⟨true,by rw [decide_eq_true h2]; rfl,fun h => by cases h⟩
  rw [decide_eq_false h2];simp only [Bool.false_eq_true,if_false]
  by_cases h3 : ((List.length g.fArrays : Nat) : Int) > 2000
  · exact ⟨true,by rw [decide_eq_true h3]; rfl,fun h => by cases h⟩
  rw [decide_eq_false h3];simp only [Bool.false_eq_true,if_false]
  by_cases h4 : ((List.length g.fParams : Nat) : Int) > 2000
  · exact ⟨true,by rw [decide_eq_true h4]; rfl,fun h => by cases h⟩
  rw [decide_eq_false h4];simp only [Bool.false_eq_true,if_false];have key : ∃ o,iter (fun s : (Int × Int) => F12_1_b g s.1 s.2) FUEL ((0 : Int),(0 : Int)) = some o ∧ (o = .ret true ∨ o = .go () ∧ ∀ b ∈ g.fBlocks,b.fIns.length ≤ 2000 ∧ ∀ x ∈ b.fIns,x.fArgs.length ≤ 2000) := by
    refine iter_ok (I := fun m s => ∃ i : Nat,i ≤ g.fBlocks.length ∧ m = g.fBlocks.length - i ∧ s.2 = (i : Int) ∧ 0 ≤ s.1 ∧ s.1 ≤ 2000 ∧ ∀ (j : Nat) b,j < i → g.fBlocks[j]? = some b → b.fIns.length ≤ 2000 ∧ ∀ x ∈ b.fIns,x.fArgs.length ≤ 2000) ?_ FUEL g.fBlocks.length _ ⟨0,by omega,by omega,rfl,by decide,by decide,fun j b h => by omega⟩ (by unfold FUEL; omega);rintro m ⟨n,i'⟩ ⟨i,hi,rfl,hi',hn0,hn1,hall⟩;simp only at hi' hn0 hn1;subst hi';unfold F12_1_b
    by_cases hil : i < g.fBlocks.length
    · have hb : g.fBlocks[i]? = some g.fBlocks[i] := List.getElem?_eq_getElem hil
      generalize g.fBlocks[i] = b at hb
      have hmem : b ∈ g.fBlocks := List.mem_of_getElem? hb;have hbi := hs.ins b hmem;unfold Sz at hbi;have hw : IntKind.i64.wrap (n + ((List.length b.fIns : Nat) : Int)) = n + ((List.length b.fIns : Nat) : Int) := wrap64_in (by omega) (by omega);simp only [lt_dec hil,if_true,idx_some hb,Option.bind_some,hw];have hin : ∃ o,iter (fun s : (Int × Int) => F12_2_b g (i : Int) s.1 s.2) FUEL (n + ((List.length b.fIns : Nat) : Int),(0 : Int)) = some o ∧ ∃ v,o = .go v ∧ n + ((List.length b.fIns : Nat) : Int) ≤ v ∧ (v ≤ 2000 → ∀ x ∈ b.fIns,x.fArgs.length ≤ 2000) := by
        refine iter_ok (I := fun m s => ∃ k : Nat,k ≤ b.fIns.length ∧ m = b.fIns.length - k ∧ s.2 = (k : Int) ∧ n + ((List.length b.fIns : Nat) : Int) ≤ s.1 ∧ s.1 ≤ 562949953421312 ∧ 0 ≤ s.1 ∧ ∀ (j : Nat) x,j < k → b.fIns[j]? = some x → ((List.length x.fArgs : Nat) : Int) ≤ s.1) ?_ FUEL b.fIns.length _ ⟨0,by omega,by omega,rfl,by simp,by simp only; omega,by simp only; omega,fun j x h => by omega⟩ (by unfold FUEL; omega);rintro m ⟨v,k'⟩ ⟨k,hk,rfl,hk',hv0,hv1,hv2,hv3⟩;simp only at hk' hv0 hv1 hv2 hv3;subst hk';unfold F12_2_b;simp only [idx_some hb,Option.bind_some]
        by_cases hkl : k < b.fIns.length
        · have hx : b.fIns[k]? = some b.fIns[k] := List.getElem?_eq_getElem hkl
          generalize b.fIns[k] = x at hx
          have hxa := hs.args b hmem x (List.mem_of_getElem? hx);unfold Sz at hxa;simp only [lt_dec hkl,if_true,idx_some hx,Option.bind_some]
          by_cases hv : v ≤ 2000
          · rw [decide_eq_true hv];have hw2 : IntKind.i64.wrap (v + ((List.length x.fArgs : Nat) : Int)) = v + ((List.length x.fArgs : Nat) : Int) := wrap64_in (by omega) (by omega);refine ⟨_,rfl,b.fIns.length - (k + 1),by omega,k + 1,by omega,rfl,wnat (by omega),?_,?_,?_,?_⟩
            · simp only [hw2]; omega
            · simp only [hw2]; omega
            · simp only [hw2]; omega
            · simp only [hw2];intro j y hj hy
              by_cases hjk : j = k
              · subst hjk; rw [hx] at hy; cases hy; omega
              · have := hv3 j y (by omega) hy; omega
          · rw [decide_eq_false hv];exact ⟨_,rfl,v,rfl,hv0,fun h => absurd h hv⟩
        · have : k = b.fIns.length := by omega
          subst this;simp only [ge_dec,Bool.false_eq_true,if_false];exact ⟨_,rfl,v,rfl,hv0,fun h y hy => by
            obtain ⟨j,hj⟩ := List.getElem?_of_mem hy;have := hv3 j y (List.getElem?_eq_some_iff.mp hj).1 hj
            omega⟩
      obtain ⟨o,ho,v,rfl,hv,hva⟩ := hin;rw [ho,Option.bind_some]
      by_cases hv2 : v > 2000
      · exact ⟨.ret true,by simp only [decide_eq_true hv2,if_true],.inl rfl⟩
      · refine ⟨.next (v,IntKind.i64.wrap ((i : Int) + 1)),by simp only [decide_eq_false hv2,Bool.false_eq_true,if_false],g.fBlocks.length - (i + 1),by omega,i + 1,by omega,rfl,wnat (by omega),by simp only; omega,by simp only; omega,fun j c hj hc => ?_⟩
        by_cases hji : j = i
        · subst hji; rw [hb] at hc; cases hc; exact ⟨by omega,hva (by omega)⟩
        · exact hall j c (by omega) hc
    · have : i = g.fBlocks.length := by omega
      subst this;simp only [ge_dec,Bool.false_eq_true,if_false];refine ⟨_,rfl,.inr ⟨rfl,fun b hb => ?_⟩⟩;obtain ⟨j,hj,rfl⟩ := List.mem_iff_getElem.mp hb;exact hall j _ hj (List.getElem?_eq_getElem hj)
  obtain ⟨o,ho,h | ⟨h,hall⟩⟩ := key
  · rw [ho,h]; exact ⟨true,rfl,fun h => by cases h⟩
  · rw [ho,h]; exact ⟨false,rfl,fun _ => ⟨by omega,by omega,by omega,by omega,fun b hb => (hall b hb).1,fun b hb => (hall b hb).2⟩⟩
end Go.Eng.Gra
