/- Functions of this seat, run on unknown values by the rules of the small machine (no condition beyond those stated). -/
import Derived.Test.YtfkakbipedafiaaDoorGshWUp
namespace Go.Eng.Gra
open Go Go.Eng
set_option linter.unusedSectionVars false
set_option linter.unusedVariables false
set_option linter.unusedSimpArgs false
set_option maxRecDepth 20000
def e26J (b1 b2 : Nat) (o : List Int) (was : List (List Int)) (n : Nat) (nb : Option (Nat × Nat)) (x : Int) : List V := (mkE [(1,.ptr b1 0 0),(0,.ptr b2 0 0),(0,Zl (EI .i64) o),(0,Zl (EL (EI .i64)) was),(0,slv 6 true n nb),(0,.int .i64 x)] 159)
theorem rc_eqb {r : RB} (h : r.ok) : V.eqb deepN (.ag r.c) (.ag r.c) = true := by
  rcases h with h | ⟨_,_,h⟩
  · unfold RB.c; rw [h];cases r.o with
    | none => simp [slv,V.eqb,deepN,eqb2,E_Term,EI]
    | some p => obtain ⟨b,g⟩ := p; simp [slv,V.eqb,deepN,eqb2,E_Term,EI]
  · unfold RB.c; rw [h]; simp [V.eqb,deepN,eqb2,E_Term,EI]
theorem rc_st {r : RB} (h : r.ok) : stC [.nils,.int .u8 0,.int .i64 0,.int .i64 0,.int .i64 0,.int .u8 0] 0 (.ag r.c) (some 6) = some r.c := by
  rcases h with h | ⟨_,_,h⟩
  · unfold RB.c; rw [h]; cases r.o <;> rfl
  · unfold RB.c; rw [h]; rfl
theorem rbs_take {rows : List RB} {i : Nat} {r : RB} (h : rows[i]? = some r) : takeSh (rbs rows ++ []) (i * 6) (some 6) = some (.ag r.c) := by
  have hl := (List.getElem?_eq_some_iff.mp h).1;have key : ((rbs rows).drop (i * 6)).take 6 = r.c := by
    clear hl
    induction rows generalizing i with
    | nil => simp at h
    | cons a rows ih =>
      unfold rbs at ih ⊢;rw [List.flatMap_cons];cases i with
      | zero =>
        simp at h; subst h
        rw [Nat.zero_mul,List.drop_zero,List.take_append_of_le_length (by rw [a.c_len]; exact Nat.le_refl _),List.take_of_length_le (by rw [a.c_len]; exact Nat.le_refl _)]
      | succ i =>
        rw [List.drop_append,List.drop_of_length_le (by rw [a.c_len]; omega),a.c_len,List.nil_append,show (i + 1) * 6 - 6 = i * 6 by omega];exact ih (by simpa using h)
  rw [List.append_nil];show (if i * 6 + 6 ≤ (rbs rows).length then some (V.ag (((rbs rows).drop (i * 6)).take 6)) else none) = _;rw [if_pos (by rw [rbs_len]; omega),key]
theorem stays9 {F : FT} {H H1 H2 : Heap} {e0 e1 e2 e3 e4 e5 e6 e7 e8 e9 : List V} (y1 : stayOp F H ⟨some 30,none,true,.ld (.t 29) none⟩ e1 H = true) (y1' : stayOp F H ⟨some 30,none,true,.ld (.t 29) none⟩ e1 H1 = true)
    (y5 : stayOp F H ⟨some 34,none,true,.ld (.t 33) none⟩ e5 H = true) (y5' : stayOp F H ⟨some 34,none,true,.ld (.t 33) none⟩ e5 H1 = true) (y7 : stayOp F H ⟨some 36,none,true,.ld (.t 35) (some 6)⟩ e7 H = true) (y7' : stayOp F H ⟨some 36,none,true,.ld (.t 35) (some 6)⟩ e7 H1 = true) :
    stays F H [H,H,H,H,H,H,H,H,H,H1,H2] [10,9,10,10,10,9,10,9,10,10] i26r9 [(e0,H),(e1,H),(e2,H),(e3,H),(e4,H),(e5,H),(e6,H),(e7,H),(e8,H),(e9,H1),(e9,H2)] = true := by
  simp only [i26r9,stays,List.take_succ_cons,List.take_zero,List.take_nil,List.all_cons,List.all_nil,y1,y1',y5,y5',y7,y7',Bool.not_false,Bool.not_true,Bool.true_or,Bool.false_or,Bool.and_true,Bool.true_and]
theorem row26 {b1 b2 : Nat} {o : List Int} {was : List (List Int)} {n : Nat} {nb : Option (Nat × Nat)} {x k : Int} {x0 : T_Graph} {op ov oa ob : Option (Nat × Nat)} {rows : List RB} {r : RB} {H : Heap} {L : List Ob}
    (hp : HP H L) (j1 : Nat) (hj1 : L[j1]? = some (some (b1,0),CG x0 op ov oa (slv 6 true rows.length ob))) (jo : Nat) (hjo : L[jo]? = some (ob,rbs rows ++ [])) (hx : idx o x = some k) (hr : idx rows k = some r) (hrok : r.ok)
    (Q : X → List V → Heap → Prop) (hq : ∀ (b7 : Nat) (H' : Heap) (e' : List V),clrEnv [29,30,31,32,33,34,35,36] e' = e26K b1 b2 b7 o was n nb x → HP H' ((some (b7,0),r.c) :: L) → Q .nrm e' H') :
    Run T (.rgd [10,9,10,10,10,9,10,9,10,10] i26r9) (e26J b1 b2 o was n nb x) H Q := by
  obtain ⟨hk0,hkl,hrk⟩ := idx_lt hr;obtain ⟨bb,gg,rfl,hib⟩ := rb_idx hp jo hjo (i := k.toNat) (by omega);have hib : idxaV (slv 6 true rows.length (some (bb,gg))) (.int .i64 k) 6 true = some (.ptr bb gg (k.toNat * 6)) := by have := hib .i64; rwa [Int.toNat_of_nonneg hk0] at this
  have hxk := idx_fz (EI .i64) (l := o) (i := x) (a := k) .i64 hx
  generalize hv1 : slv 6 true rows.length (some (bb,gg)) = v1 at hj1 hib
  let e0 := e26J b1 b2 o was n nb x
  let e1 := put e0 (some 29) (.ptr b1 0 5)
  let e2 := put e1 (some 30) v1
  let e3 := put e2 (some 31) (Zl (EI .i64) o)
  let e4 := put e3 (some 32) (.int .i64 x)
  let e5 := put e4 (some 33) (.fp (.int .i64 k))
  let e6 := put e5 (some 34) (.int .i64 k)
  let e7 := put e6 (some 35) (.ptr bb gg (k.toNat * 6))
  let e8 := put e7 (some 36) (.ag r.c)
  let e9 := put e8 (some 7) (.ptr H.length 0 0)
  let zc : List V := [.nils,.int .u8 0,.int .i64 0,.int .i64 0,.int .i64 0,.int .u8 0]
  let H1 := H ++ [(0,zc)]
  have hp1 : HP H1 ((some (H.length,0),zc) :: L) := hp.new zc;have hp2 := hp1.set (i := 0) rfl 0 r.c;have q1 : ldV H (.ptr b1 0 5) none = some v1 := hp.ld j1 hj1 rfl;have q1' : ldV H1 (.ptr b1 0 5) none = some v1 := hp1.ld (j1 + 1) (by simpa using hj1) rfl;have q7 : ldV H (.ptr bb gg (k.toNat * 6)) (some 6) = some (.ag r.c) := hp.ld jo hjo (rbs_take hrk);have q7' : ldV H1 (.ptr bb gg (k.toNat * 6)) (some 6) = some (.ag r.c) := hp1.ld (jo + 1) (by simpa using hjo) (rbs_take hrk);have a1 : (Opd.t 29).ev e1 = .ptr b1 0 5 := by kernel_rfl
  have a4 : (Opd.t 31).ev e4 = Zl (EI .i64) o := by kernel_rfl
  have a4' : (Opd.t 32).ev e4 = .int .i64 x := by kernel_rfl
  have a5 : (Opd.t 33).ev e5 = .fp (.int .i64 k) := by kernel_rfl
  have a6 : (Opd.t 30).ev e6 = v1 := by kernel_rfl
  have a6' : (Opd.t 34).ev e6 = .int .i64 k := by kernel_rfl
  have a7 : (Opd.t 35).ev e7 = .ptr bb gg (k.toNat * 6) := by kernel_rfl
  have a9 : (Opd.t 7).ev e9 = .ptr H.length 0 0 := by kernel_rfl
  have a9' : (Opd.t 36).ev e9 = .ag r.c := by kernel_rfl
  have z0 : exOp0 (exF T 0) H ⟨some 29,none,false,.flda (.t 1) 5 none⟩ e0 H = some (e1,H) := xq (v := .ptr b1 0 5) rfl (by kernel_rfl);have z1 : exOp0 (exF T 0) H ⟨some 30,none,true,.ld (.t 29) none⟩ e1 H = some (e2,H) := xl (v := v1) rfl (by show ldV H ((Opd.t 29).ev e1) none = _; rw [a1]; exact q1);have z2 : exOp0 (exF T 0) H ⟨some 31,none,false,.mov (.t 3)⟩ e2 H = some (e3,H) := xq (v := Zl (EI .i64) o) rfl (by kernel_rfl);have z3 : exOp0 (exF T 0) H ⟨some 32,none,false,.mov (.t 6)⟩ e3 H = some (e4,H) := xq (v := .int .i64 x) rfl (by kernel_rfl);have z4 : exOp0 (exF T 0) H ⟨some 33,none,false,.idxa (.t 31) (.t 32) 1 false⟩ e4 H = some (e5,H) := xq (v := .fp (.int .i64 k)) rfl (by show idxaV ((Opd.t 31).ev e4) ((Opd.t 32).ev e4) 1 false = _; rw [a4,a4']; exact hxk);have z5 : exOp0 (exF T 0) H ⟨some 34,none,true,.ld (.t 33) none⟩ e5 H = some (e6,H) := xl (v := .int .i64 k) rfl (by show ldV H ((Opd.t 33).ev e5) none = _; rw [a5]; rfl);have z6 : exOp0 (exF T 0) H ⟨some 35,none,false,.idxa (.t 30) (.t 34) 6 true⟩ e6 H = some (e7,H) := xq (v := .ptr bb gg (k.toNat * 6)) rfl (by show idxaV ((Opd.t 30).ev e6) ((Opd.t 34).ev e6) 6 true = _; rw [a6,a6']; exact hib);have z7 : exOp0 (exF T 0) H ⟨some 36,none,true,.ld (.t 35) (some 6)⟩ e7 H = some (e8,H) := xl (v := .ag r.c) rfl (by show ldV H ((Opd.t 35).ev e7) (some 6) = _; rw [a7]; exact q7);have z8 : exOp0 (exF T 0) H ⟨some 7,none,false,.alloc zc⟩ e8 H = some (e9,H1) := xw (v := .ptr H.length 0 0) (H' := H1) rfl rfl;have z9 : exOp0 (exF T 0) H ⟨none,none,false,.st (.t 7) (.t 36) (some 6)⟩ e9 H1 = some (e9,H1.set H.length (0,r.c)) := xw (v := .sk) (H' := H1.set H.length (0,r.c)) rfl (by show (stV H1 ((Opd.t 7).ev e9) ((Opd.t 36).ev e9) (some 6)).map _ = _; rw [a9,a9',hp1.st 0 rfl (rc_st hrok)]; rfl);have run : exOps0 (exF T 0) H i26r9 e0 H = some [(e0,H),(e1,H),(e2,H),(e3,H),(e4,H),(e5,H),(e6,H),(e7,H),(e8,H),(e9,H1),(e9,H1.set H.length (0,r.c))] := by
    unfold i26r9;exact xc z0 (xc z1 (xc z2 (xc z3 (xc z4 (xc z5 (xc z6 (xc z7 (xc z8 (xc z9 rfl)))))))))
  have s1 : V.eqb deepN v1 v1 = true := by rw [← hv1]; exact slv_eqb _ _ _ _
  have s5 : V.eqb deepN (.int .i64 k) (.int .i64 k) = true := by simp [V.eqb,deepN]
  have s7 := rc_eqb hrok;refine Run.rgd 0 run (stays9 (stay_ld a1 q1 q1 s1) (stay_ld a1 q1 q1' s1) (stay_ld a5 rfl rfl s5) (stay_ld a5 rfl rfl s5) (stay_ld a7 q7 q7 s7) (stay_ld a7 q7 q7' s7)) rfl ?_;exact hq H.length _ e9 (by kernel_rfl) hp2
theorem bl26 {b1 b2 : Nat} {o : List Int} {was : List (List Int)} {x0 : T_Graph} {op ov oa ob : Option (Nat × Nat)} {rows rows2 : List RB} {A1 A3 A4 A5 : Ob} {H : Heap} {L : List Ob} (Q : X → List V → Heap → Prop) (ho : o.length ≤ 1048576) (hok : ∀ q ∈ rows,q.ok)
    (hp : HP H (A1 :: (some (b1,0),CG x0 op ov oa (slv 6 true rows.length ob)) :: A3 :: A4 :: A5 :: (ob,rbs rows ++ []) :: L)) (h : omap (nwR o rows) o = some rows2)
    (hq : ∀ (nb : Option (Nat × Nat)) (H' : Heap) (e' : List V),clrEnv [6,7,8,9,23,24,25,26,27,28,29,30,31,32,33,34,35,36,37,38,39,40,41,42,43,44,45,46,47,48,49,50,51,52,53,54,55,56,57,58,59,60,61,62,63,64,65,66,67,68,69,70,71,72,73,74] e' = (mkE [(1,.ptr b1 0 0),(0,.ptr b2 0 0),(0,Zl (EI .i64) o),(0,Zl (EL (EI .i64)) was),(0,slv 6 true rows2.length nb)] 160) → (∀ q ∈ rows2,q.ok) →
      HP H' ((nb,rbs rows2 ++ []) :: A1 :: (some (b1,0),CG x0 op ov oa (slv 6 true rows.length ob)) :: A3 :: A4 :: A5 :: (ob,rbs rows ++ []) :: L) → Q .nrm e' H') :
    Run T i26n36 (mkE [(1,.ptr b1 0 0),(0,.ptr b2 0 0),(0,Zl (EI .i64) o),(0,Zl (EL (EI .i64)) was),(0,.nils)] 160) H Q := by
  refine Rn.g ?_;refine Ro.t 1 ?_;refine Ro.d (e26J b1 b2 o was 0 none 0) ?_;refine Run.block ?_;refine Run.loopc (fun m e h => ∃ (i : Nat) (x : Int) (acc bt : List RB) (nb : Option (Nat × Nat)),x = (i : Int) ∧ i ≤ o.length ∧ m = o.length - i ∧ acc.length = i ∧ (∀ q ∈ acc,q.ok) ∧ omap (nwR o rows) (o.drop i) = some bt ∧ acc ++ bt = rows2 ∧ e = e26J b1 b2 o was acc.length nb x ∧
      HP h ((nb,rbs acc ++ []) :: A1 :: (some (b1,0),CG x0 op ov oa (slv 6 true rows.length ob)) :: A3 :: A4 :: A5 :: (ob,rbs rows ++ []) :: L)) o.length
    ⟨0,0,[],rows2,none,rfl,by omega,by omega,rfl,fun _ h => absurd h List.not_mem_nil,h,rfl,by kernel_rfl,hp.non⟩ ?_
  rintro m e H ⟨i,x,acc,bt,nb,hx,hi,rfl,hal,haok,hbt,hacc,rfl,hp⟩;refine Run.seq ?_;refine Rn.g ?_;refine Ro.t 2 ?_;refine Ro.p (len_fz (EI .i64) o) ?_;refine Ro.t 1 ?_;refine Ro.d (mkE [(1,.ptr b1 0 0),(0,.ptr b2 0 0),(0,Zl (EI .i64) o),(0,Zl (EL (EI .i64)) was),(0,slv 6 true acc.length nb),(0,.int .i64 x),(19,.bool (decide (x < (ln o))))] 139) ?_
  by_cases hlt : i < o.length
  · refine Run.condT (by rw [decide_eq_true (show x < ln o by show x < ((List.length o : Nat) : Int); omega)]; kernel_rfl) (Run.skip ?_);refine Rn.c (e26J b1 b2 o was acc.length nb x) ?_;have hk : o[i]? = some o[i] := List.getElem?_eq_getElem hlt;have hdrop : o.drop i = o[i] :: o.drop (i + 1) := List.drop_eq_getElem_cons hlt;rw [hdrop] at hbt
    generalize o[i] = k at hk hdrop hbt
    simp only [omap] at hbt
    split at hbt
    case h_2 => cases hbt
    rename_i r2 bt' htb hrest
    cases hbt;unfold nwR at htb;obtain ⟨r,hr,htb⟩ := bind_some htb;obtain ⟨t2,ht2,rfl⟩ := Option.map_eq_some_iff.1 htb;have hrok := hok r (List.mem_of_getElem? (idx_lt hr).2.2);refine Run.seq (Run.block ?_);refine Run.seq ?_;refine row26 hp 2 rfl 6 rfl (by rw [hx]; exact idx_some hk) hr hrok _ (fun b7 H e he hp => ?_);show Run T (.clr _ i26n28) _ _ _;refine Run.clr ?_;rw [he];refine Run.seq ?_;refine two26 _ hp ht2 (fun H e he hp => ?_);show Run T (.clr _ (.rgn i26r27)) _ _ _;refine Run.clr ?_;rw [he];obtain ⟨rq,hrq⟩ : ∃ rq : RB,rq = { r with t := t2 } := ⟨_,rfl⟩;have hqok : rq.ok := by rw [hrq]; exact hrok
    have hqc : rq.c = r.w :: E_Term.c t2 := by rw [hrq]; rfl
    rw [← hqc] at hp;rw [← hrq] at hacc;refine Run.rgn ?_;refine Ro.t 1 ?_;refine Ro.p (hp.ld 0 (off := 0) (n := some 6) (v := .ag rq.c) rfl (RB.c_ld hqok)) ?_;refine RunO.w1 (u := .sl H.length 0 0 1 6 true) (H1 := H ++ [(0,rq.c)]) (v := bslV H 6 true 1 (.ag [.nils,.int .u8 0,.int .i64 0,.int .i64 0,.int .i64 0,.int .u8 0]) [(0,.ag rq.c)] false) (by kernel_rfl) rfl (by kernel_rfl) (bsl_rb hqok) ?_;have hp2 := hp.new rq.c;obtain ⟨nb',H3,happ,hp3⟩ := raw_app hp2 2 (o := nb) (cs := rbs acc ++ []) rfl (n := acc.length) (z := 6) (by_ := 64) (ag := true) (by rw [List.append_nil,rbs_len]) (by decide) (new_rb hp2 (i := 0) rfl) (by decide) hqok.all (by omega);refine RunO.w1 (u := slv 6 true (acc.length + 1) nb') (H1 := H3) (v := appV (H ++ [(0,rq.c)]) (slv 6 true acc.length nb) (.sl H.length 0 0 1 6 true) 6 true 64) (by kernel_rfl) rfl (by kernel_rfl) happ ?_;refine Ro.t 1 ?_;refine RunO.nil ?_;show Run T (.clr _ (.rgn i26r31)) _ _ _;have el : (acc ++ [rq]).length = acc.length + 1 := by simp
    have ec : rbs (acc ++ [rq]) ++ [] = rbs acc ++ [] ++ rq.c := by rw [rbs_snoc]; simp
    rw [← el];refine Rn.k (e26J b1 b2 o was (acc ++ [rq]).length nb' x) ?_;have hwx : IntKind.i64.wrap (x + 1) = ((i + 1 : Nat) : Int) := by rw [hx,wrap64_in (by omega) (by omega)]; omega
    refine Run.rgn (Ro.t 3 (RunO.nil ⟨o.length - (i + 1),by omega,i + 1,_,acc ++ [rq],bt',nb',hwx,by omega,rfl,by simp [hal],?_,hrest,?_,by kernel_rfl,?_⟩))
    · intro q hq';rcases List.mem_append.1 hq' with h | h
      · exact haok q h
      · rw [List.mem_singleton.1 h]; exact hqok
    · rw [← hacc,List.append_assoc]; rfl
    · rw [ec]; exact (hp3.del 0).del 0
  · refine Run.condF (by rw [decide_eq_false (show ¬ x < ln o by show ¬ x < ((List.length o : Nat) : Int); omega)]; kernel_rfl) (Run.exit ?_);have hi2 : i = o.length := by omega
    subst hi2;rw [List.drop_length] at hbt;cases hbt;rw [List.append_nil] at hacc;subst hacc;exact hq nb H _ (by kernel_rfl) haok hp
end Go.Eng.Gra
namespace Go.Eng.Gra
open Go Go.Eng
set_option linter.unusedSectionVars false
set_option linter.unusedVariables false
set_option linter.unusedSimpArgs false
set_option maxRecDepth 20000
theorem HP.via {H : Heap} {L L' : List Ob} (f : Nat → Nat) (hp : HP H L) (hf : ∀ k x,L'[k]? = some x → L[f k]? = some x) (hi : ∀ i j,i < L'.length → j < L'.length → f i = f j → i = j) : HP H L' := by
  refine ⟨fun k o cs hk => hp.at_ _ _ _ (hf k _ hk),fun i j b g g' cs cs' h1 h2 => ?_⟩;have := hp.ne _ _ _ _ _ _ _ (hf _ _ h1) (hf _ _ h2);exact hi i j (List.getElem?_eq_some_iff.mp h1).1 (List.getElem?_eq_some_iff.mp h2).1 this
theorem HP.mid {H : Heap} {a : Ob} {A B : List Ob} (hp : HP H (a :: (A ++ B))) : HP H (A ++ a :: B) := by
  refine HP.via (fun k => if k < A.length then k + 1 else if k = A.length then 0 else k) hp ?_ ?_
  · intro k x hk
    by_cases h1 : k < A.length
    · rw [List.getElem?_append_left h1] at hk;simp only [h1,if_true,List.getElem?_cons_succ];rw [List.getElem?_append_left h1]; exact hk
    · by_cases h2 : k = A.length
      · subst h2;rw [List.getElem?_append_right (Nat.le_refl _),Nat.sub_self] at hk
        simpa using hk
      · rw [List.getElem?_append_right (by omega)] at hk;simp only [h1,h2,if_false];obtain ⟨j,rfl⟩ : ∃ j,k = A.length + 1 + j := ⟨k - A.length - 1,by omega⟩;rw [show A.length + 1 + j - A.length = j + 1 by omega,List.getElem?_cons_succ] at hk;rw [show A.length + 1 + j = (A.length + j) + 1 by omega,List.getElem?_cons_succ,List.getElem?_append_right (by omega),show A.length + j - A.length = j by omega]; exact hk
  · intro i j hi hj h
    by_cases a1 : i < A.length <;> by_cases a2 : j < A.length <;> by_cases a3 : i = A.length <;> by_cases a4 : j = A.length <;> simp [a1,a2,a3,a4] at h <;> omega
def argsR (wr o had : List Int) : List Int → List Int → Option (List Int)
  | [],acc => some acc
  | j :: nw,acc => (idx o j).bind fun k => (F49 wr k).bind fun p => if (decide (0 ≤ p) && decide (p < (had.length : Int))) = true then (idx had p).bind fun a => (more 8 acc [a]).bind fun acc' => argsR wr o had nw acc' else argsR wr o had nw acc
def e26A (b1 b2 : Nat) (o : List Int) (was : List (List Int)) (n : Nat) (nb : Option (Nat × Nat)) (now : List (List Int)) (x y : Int) (had : List Int) (m : Nat) (oa : Option (Nat × Nat)) (z : Int) : List V := (mkE [(1,.ptr b1 0 0),(0,.ptr b2 0 0),(0,Zl (EI .i64) o),(0,Zl (EL (EI .i64)) was),(0,slv 6 true n nb),(4,Zl (EL (EI .i64)) now),(0,.int .i64 x),(0,.int .i64 y),(0,Zl (EI .i64) had),(0,slv 1 false m oa),(0,.int .i64 z)] 150)
section
variable {b1 b2 : Nat} {o : List Int} {was now : List (List Int)} {n : Nat} {nb : Option (Nat × Nat)} {x y : Int} {had : List Int}
theorem args26 {ko : Int} {wr nw args : List Int} {H : Heap} {L : List Ob} (Q : X → List V → Heap → Prop) (hp : HP H L) (hko : idx o x = some ko) (hwr : idx was ko = some wr) (hnw : idx now x = some nw) (hsm : nw.length ≤ 1152921504606846976) (h : argsR wr o had nw [] = some args)
    (hq : ∀ (oa : Option (Nat × Nat)) (H' : Heap) (e' : List V),clrEnv [13,15,16,114,115,116,117,118,119,120,121,122,123,124,125,126,127,128,129,130,131,132,133,134,135,136,137,138,139,140,141,142,143,144,145,146,147,148,149,150,151,152,153,154,155] e' = (mkE [(1,.ptr b1 0 0),(0,.ptr b2 0 0),(0,Zl (EI .i64) o),(0,Zl (EL (EI .i64)) was),(0,slv 6 true n nb),(4,Zl (EL (EI .i64)) now),(0,.int .i64 x),(0,.int .i64 y),(1,slv 1 false args.length oa)] 151) →
      HP H' ((oa,args.flatMap (EI .i64).c ++ []) :: L) → Q .nrm e' H') :
    Run T i26n68 (mkE [(1,.ptr b1 0 0),(0,.ptr b2 0 0),(0,Zl (EI .i64) o),(0,Zl (EL (EI .i64)) was),(0,slv 6 true n nb),(4,Zl (EL (EI .i64)) now),(0,.int .i64 x),(0,.int .i64 y),(0,Zl (EI .i64) had),(0,.nils)] 151) H Q := by
  refine Rn.g ?_;refine Ro.t 1 ?_;refine Ro.d (e26A b1 b2 o was n nb now x y had 0 none 0) ?_;refine Run.block ?_;refine Run.loopc (fun m e h => ∃ (j : Nat) (z : Int) (acc : List Int) (oa : Option (Nat × Nat)),z = (j : Int) ∧ j ≤ nw.length ∧ m = nw.length - j ∧ argsR wr o had (nw.drop j) acc = some args ∧ e = e26A b1 b2 o was n nb now x y had acc.length oa z ∧
      HP h ((oa,acc.flatMap (EI .i64).c ++ []) :: L)) nw.length
    ⟨0,0,[],none,rfl,by omega,by omega,h,by kernel_rfl,hp.non⟩ ?_
  rintro m e H ⟨j,z,acc,oa,hz,hj,rfl,hargs,rfl,hp⟩;refine Run.seq ?_;refine Rn.g ?_;refine Ro.t 3 ?_;refine Ro.p (idx_fz (EL (EI .i64)) (l := now) (i := x) (a := nw) .i64 hnw) ?_;refine Ro.t 1 ?_;refine Ro.p (len_fz (EI .i64) nw) ?_;refine Ro.t 1 ?_;refine Ro.d (mkE [(1,.ptr b1 0 0),(0,.ptr b2 0 0),(0,Zl (EI .i64) o),(0,Zl (EL (EI .i64)) was),(0,slv 6 true n nb),(4,Zl (EL (EI .i64)) now),(0,.int .i64 x),(0,.int .i64 y),(0,Zl (EI .i64) had),(0,slv 1 false acc.length oa),(0,.int .i64 z),(104,.bool (decide (z < (ln nw))))] 45) ?_
  by_cases hlt : j < nw.length
  · refine Run.condT (by rw [decide_eq_true (show z < ln nw by show z < ((List.length nw : Nat) : Int); omega)]; kernel_rfl) (Run.skip ?_);refine Rn.c (e26A b1 b2 o was n nb now x y had acc.length oa z) ?_;have hk : nw[j]? = some nw[j] := List.getElem?_eq_getElem hlt;have hdrop : nw.drop j = nw[j] :: nw.drop (j + 1) := List.drop_eq_getElem_cons hlt;rw [hdrop] at hargs
    generalize nw[j] = q at hk hdrop hargs
    simp only [argsR] at hargs;obtain ⟨k,hok,hargs⟩ := bind_some hargs;obtain ⟨p,hpl,hargs⟩ := bind_some hargs;have hwx : IntKind.i64.wrap (z + 1) = ((j + 1 : Nat) : Int) := by rw [hz,wrap64_in (by omega) (by omega)]; omega
    refine Run.seq (Run.block ?_);refine Rn.g ?_;refine Ro.t 3 ?_;refine Ro.p (idx_fz (EI .i64) (l := o) (i := x) (a := ko) .i64 hko) ?_;refine Ro.t 1 ?_;refine Ro.p (idx_fz (EL (EI .i64)) (l := was) (i := ko) (a := wr) .i64 hwr) ?_;refine Ro.t 4 ?_;refine Ro.p (idx_fz (EL (EI .i64)) (l := now) (i := x) (a := nw) .i64 hnw) ?_;refine Ro.t 2 ?_;refine Ro.p (idx_fz (EI .i64) (l := nw) (i := z) (a := q) .i64 (by rw [hz]; exact idx_some hk)) ?_;refine Ro.t 1 ?_;refine Ro.p (idx_fz (EI .i64) (l := o) (i := q) (a := k) .i64 hok) ?_;refine Ro.t 1 ?_;refine RunO.c2 (by kernel_rfl) (by kernel_rfl) (by kernel_rfl) (c49 hpl false) ?_;refine Ro.t 1 ?_;refine Ro.d (mkE [(1,.ptr b1 0 0),(0,.ptr b2 0 0),(0,Zl (EI .i64) o),(0,Zl (EL (EI .i64)) was),(0,slv 6 true n nb),(4,Zl (EL (EI .i64)) now),(0,.int .i64 x),(0,.int .i64 y),(0,Zl (EI .i64) had),(0,slv 1 false acc.length oa),(0,.int .i64 z),(0,.int .i64 p)] 149) ?_;refine Rn.g ?_;refine Ro.t 1 ?_;refine Ro.p (u := .bool (decide (0 ≤ p))) (v := some (.bool (decide (0 ≤ p)))) rfl ?_;have no : (decide (0 ≤ p) && decide (p < (had.length : Int))) = false → argsR wr o had (nw.drop (j + 1)) acc = some args := by
      intro hc; rw [hc] at hargs; simpa using hargs
    cases hb : decide (0 ≤ p)
    · have hargs := no (by rw [hb]; rfl);refine Ro.t 6 ?_;refine Ro.d (mkE [(1,.ptr b1 0 0),(0,.ptr b2 0 0),(0,Zl (EI .i64) o),(0,Zl (EL (EI .i64)) was),(0,slv 6 true n nb),(4,Zl (EL (EI .i64)) now),(0,.int .i64 x),(0,.int .i64 y),(0,Zl (EI .i64) had),(0,slv 1 false acc.length oa),(0,.int .i64 z),(0,.int .i64 p),(131,.bool false)] 17) ?_;refine Run.condF (by kernel_rfl) (Run.skip ?_);show Run T (.clr _ (.rgn i26r63)) _ _ _;refine Rn.k (e26A b1 b2 o was n nb now x y had acc.length oa z) ?_;exact Run.rgn (Ro.t 3 (RunO.nil ⟨nw.length - (j + 1),by omega,j + 1,_,acc,oa,hwx,by omega,rfl,hargs,by kernel_rfl,hp⟩))
    · refine Ro.t 3 ?_;refine Ro.p (len_fz (EI .i64) had) ?_;refine Ro.p (u := .bool (decide (p < (had.length : Int)))) (v := some (.bool (decide (p < (had.length : Int))))) rfl ?_;cases hc : decide (p < (had.length : Int))
      · have hargs := no (by rw [hb,hc]; rfl);refine Ro.t 1 ?_;refine Ro.d (mkE [(1,.ptr b1 0 0),(0,.ptr b2 0 0),(0,Zl (EI .i64) o),(0,Zl (EL (EI .i64)) was),(0,slv 6 true n nb),(4,Zl (EL (EI .i64)) now),(0,.int .i64 x),(0,.int .i64 y),(0,Zl (EI .i64) had),(0,slv 1 false acc.length oa),(0,.int .i64 z),(0,.int .i64 p),(131,.bool false)] 17) ?_;refine Run.condF (by kernel_rfl) (Run.skip ?_);show Run T (.clr _ (.rgn i26r63)) _ _ _;refine Rn.k (e26A b1 b2 o was n nb now x y had acc.length oa z) ?_;exact Run.rgn (Ro.t 3 (RunO.nil ⟨nw.length - (j + 1),by omega,j + 1,_,acc,oa,hwx,by omega,rfl,hargs,by kernel_rfl,hp⟩))
      · rw [hb,hc] at hargs;simp only [Bool.and_self,if_true] at hargs;obtain ⟨a,ha,hargs⟩ := bind_some hargs;obtain ⟨acc',hmore,hargs⟩ := bind_some hargs;refine Ro.t 1 ?_;refine Ro.d (mkE [(1,.ptr b1 0 0),(0,.ptr b2 0 0),(0,Zl (EI .i64) o),(0,Zl (EL (EI .i64)) was),(0,slv 6 true n nb),(4,Zl (EL (EI .i64)) now),(0,.int .i64 x),(0,.int .i64 y),(0,Zl (EI .i64) had),(0,slv 1 false acc.length oa),(0,.int .i64 z),(0,.int .i64 p),(131,.bool true)] 17) ?_;refine Run.condT (by kernel_rfl) ?_;refine Run.rgn ?_;refine Ro.t 3 ?_;refine Ro.p (idx_fz (EI .i64) (l := had) (i := p) (a := a) .i64 ha) ?_;refine Ro.t 2 ?_;refine RunO.app1 (EI .i64) hp (by kernel_rfl) 0 (o := oa) (l := acc) (rest := []) (m := [a]) (l' := acc') rfl (by kernel_rfl) (by kernel_rfl) ((EI .i64).new_fz _ [a]) (by kernel_rfl) (by kernel_rfl) hmore ?_;intro oa' H hp;refine Ro.t 1 ?_;refine RunO.nil ?_;show Run T (.clr _ (.rgn i26r63)) _ _ _;refine Rn.k (e26A b1 b2 o was n nb now x y had acc'.length oa' z) ?_;exact Run.rgn (Ro.t 3 (RunO.nil ⟨nw.length - (j + 1),by omega,j + 1,_,acc',oa',hwx,by omega,rfl,hargs,by kernel_rfl,hp⟩))
  · refine Run.condF (by rw [decide_eq_false (show ¬ z < ln nw by show ¬ z < ((List.length nw : Nat) : Int); omega)]; kernel_rfl) (Run.exit ?_);have hj2 : j = nw.length := by omega
    subst hj2;rw [List.drop_length] at hargs;cases hargs;exact hq oa H _ (by kernel_rfl) hp
end
end Go.Eng.Gra
namespace Go.Eng.Gra
open Go Go.Eng
set_option linter.unusedSectionVars false
set_option linter.unusedVariables false
set_option linter.unusedSimpArgs false
set_option maxRecDepth 20000
structure RI where
  w : V
  z : T_Ins
def RI.c (q : RI) : List V := [.int .u8 q.z.fKind,.int .u8 q.z.fOp,.int .i64 q.z.fDst,q.w,.int .u64 q.z.fBits,.int .i64 q.z.fRef]
def RI.ok (X : List Ob) (q : RI) : Prop := q.w = (EL (EI .i64)).e q.z.fArgs ∨ ∃ o,q.w = slv 1 false q.z.fArgs.length o ∧ (o,q.z.fArgs.flatMap (EI .i64).c ++ []) ∈ X
def pl (z : T_Ins) : RI := ⟨(EL (EI .i64)).e z.fArgs,z⟩
theorem pl_flat : ∀ l : List T_Ins,(l.map pl).flatMap RI.c = l.flatMap E_Ins.c
  | [] => rfl
  | a :: l => by rw [List.map_cons,List.flatMap_cons,List.flatMap_cons,pl_flat l]; rfl
theorem ri_len : ∀ l : List RI,(l.flatMap RI.c ++ []).length = l.length * 6
  | [] => rfl
  | a :: l => by
    have := ri_len l;rw [List.append_nil] at this ⊢;rw [List.flatMap_cons,List.length_append,this,show (RI.c a).length = 6 from rfl,List.length_cons]; omega
theorem ri_at {l : List RI} {i d : Nat} {q : RI} (h : l[i]? = some q) (hd : d < 6) : (l.flatMap RI.c ++ [])[i * 6 + d]? = (RI.c q)[d]? := by
  rw [List.append_nil]
  induction l generalizing i with
  | nil => simp at h
  | cons a l ih =>
    rw [List.flatMap_cons];cases i with
    | zero =>
      simp at h; subst h
      rw [Nat.zero_mul,Nat.zero_add,List.getElem?_append_left (by show d < 6; exact hd)]
    | succ i =>
      rw [List.getElem?_append_right (by show 6 ≤ _; omega),show (i + 1) * 6 + d - (RI.c a).length = i * 6 + d by show (i + 1) * 6 + d - 6 = _; omega];exact ih (by simpa using h)
theorem ri_set {l : List RI} {i : Nat} {q : RI} (h : l[i]? = some q) (w : V) (a : List Int) : (l.flatMap RI.c ++ []).set (i * 6 + 3) w = (l.set i ⟨w,{ q.z with fArgs := a }⟩).flatMap RI.c ++ [] := by
  rw [List.append_nil,List.append_nil]
  induction l generalizing i with
  | nil => simp at h
  | cons b l ih =>
    cases i with
    | zero =>
      simp at h; subst h
      rw [Nat.zero_mul,Nat.zero_add,List.flatMap_cons,List.set_cons_zero,List.flatMap_cons,List.set_append_left _ _ (by show 3 < 6; decide)]; rfl
    | succ i =>
      rw [List.flatMap_cons,List.set_cons_succ,List.flatMap_cons,List.set_append_right _ _ (by show 6 ≤ _; omega),show (i + 1) * 6 + 3 - (RI.c b).length = i * 6 + 3 by show (i + 1) * 6 + 3 - 6 = _; omega,ih (by simpa using h)]
theorem ri_st {l : List RI} {i : Nat} {q : RI} (h : l[i]? = some q) {n : Nat} {o : Option (Nat × Nat)} (a : List Int) : stC (l.flatMap RI.c ++ []) (i * 6 + 3) (slv 1 false n o) none = some ((l.set i ⟨slv 1 false n o,{ q.z with fArgs := a }⟩).flatMap RI.c ++ []) := by
  have hl := (List.getElem?_eq_some_iff.mp h).1;have hc : fitsSh (slv 1 false n o) none = true := by cases o <;> rfl
  have h1 : (slv 1 false n o).cells.length = 1 := by cases o <;> rfl
  unfold stC;rw [hc,h1,ri_len,decide_eq_true (by omega)];show some ((l.flatMap RI.c ++ []).set (i * 6 + 3) _) = _;rw [ri_set h]
theorem raw_len {H : Heap} {L : List Ob} (hp : HP H L) (j : Nat) {o : Option (Nat × Nat)} {cs : List V} (hj : L[j]? = some (o,cs)) {n : Nat} (hl : cs.length = n * 6) : lenV false (slv 6 true n o) = some (.int .i64 (n : Int)) := by
  cases o with
  | none =>
    have h0 := hp.at_ j _ _ hj;have : cs = [] := h0;subst this;have : n = 0 := by simp at hl; omega
    subst this; rfl
  | some p => obtain ⟨b,g⟩ := p; rfl
theorem raw_idx {H : Heap} {L : List Ob} (hp : HP H L) (j : Nat) {o : Option (Nat × Nat)} {cs : List V} (hj : L[j]? = some (o,cs)) {n : Nat} (hl : cs.length = n * 6) {i : Nat} (hi : i < n) :
    ∃ b g,o = some (b,g) ∧ ∀ k,idxaV (slv 6 true n o) (.int k (i : Int)) 6 true = some (.ptr b g (i * 6)) := by
  cases o with
  | none =>
    have h0 := hp.at_ j _ _ hj;have : cs = [] := h0;subst this
    simp at hl; omega
  | some p =>
    obtain ⟨b,g⟩ := p;refine ⟨b,g,rfl,fun k => ?_⟩;simp only [slv,idxaV];rw [if_pos ⟨by omega,by omega,trivial,trivial⟩,Nat.zero_add,Int.toNat_natCast]
def insR (was : List (List Int)) (o : List Int) (i : Nat) (nw : List Int) (x : T_Ins) : Option T_Ins :=
  if (x.fKind == 1) = true then (idx o (i : Int)).bind fun k => (idx was k).bind fun wr => (argsR wr o x.fArgs nw []).map fun a => { x with fArgs := a } else some x
def e26Q (b1 b2 : Nat) (o : List Int) (was : List (List Int)) (n : Nat) (nb : Option (Nat × Nat)) (now : List (List Int)) (x y : Int) : List V := (mkE [(1,.ptr b1 0 0),(0,.ptr b2 0 0),(0,Zl (EI .i64) o),(0,Zl (EL (EI .i64)) was),(0,slv 6 true n nb),(4,Zl (EL (EI .i64)) now),(0,.int .i64 x),(0,.int .i64 y)] 153)
abbrev clQ : List Nat := [13,14,15,16,95,96,97,98,99,100,101,102,103,104,105,106,107,108,109,110,111,112,113,114,115,116,117,118,119,120,121,122,123,124,125,126,127,128,129,130,131,132,133,134,135,136,137,138,139,140,141,142,143,144,145,146,147,148,149,150,151,152,153,154,155,156,157,158,159,160,161,162,163,164]
section
variable {b1 b2 : Nat} {o : List Int} {was now : List (List Int)} {nb : Option (Nat × Nat)} {x y : Int}
theorem arow {A B X : List Ob} {p : Ob} : (A ++ p :: (B ++ X))[A.length]? = some p := by rw [List.getElem?_append_right (Nat.le_refl _),Nat.sub_self]; rfl
theorem arow1 {A B X : List Ob} {p q : Ob} : (q :: (A ++ p :: (B ++ X)))[A.length + 1]? = some p := by rw [List.getElem?_cons_succ]; exact arow
theorem ahead0 {A C : List Ob} {p : Ob} (h : A[0]? = some p) : (A ++ C)[0]? = some p := by
  rw [List.getElem?_append_left (List.getElem?_eq_some_iff.mp h).1]; exact h
theorem aset {A B X : List Ob} {p p' : Ob} : (A ++ p :: (B ++ X)).set A.length p' = A ++ p' :: (B ++ X) := by rw [List.set_append_right _ _ (Nat.le_refl _),Nat.sub_self]; rfl
theorem one26 {rows2 : List RB} {i k : Nat} {r : RB} {q : RI} {z' : T_Ins} {qs : List RI} {nw : List Int} {A B Y : List Ob} {H : Heap} (Q : X → List V → Heap → Prop) (hxi : x = (i : Int)) (hyk : y = (k : Int))
    (hA : A[0]? = some (nb,rbs rows2 ++ [])) (hri : rows2[i]? = some r) (hrw : r.w = slv 6 true qs.length r.o) (hq : qs[k]? = some q) (hqz : q = pl q.z) (hnw : idx now x = some nw) (hsm : nw.length ≤ 1152921504606846976)
    (hp : HP H (A ++ (r.o,qs.flatMap RI.c ++ []) :: (B ++ Y))) (h : insR was o i nw q.z = some z')
    (hk : ∀ (q' : RI) (Y' : List Ob) (H' : Heap) (e' : List V) (XX : X),(XX = .nrm ∨ XX = .ext 7) → clrEnv clQ e' = e26Q b1 b2 o was rows2.length nb now x y → q'.z = z' → q'.ok Y' → (∀ ob ∈ Y,ob ∈ Y') → HP H' (A ++ (r.o,(qs.set k q').flatMap RI.c ++ []) :: (B ++ Y')) → Q XX e' H') :
    Run T i26n73 (e26Q b1 b2 o was rows2.length nb now x y) H Q := by
  have hil := (List.getElem?_eq_some_iff.mp hri).1;have hkl := (List.getElem?_eq_some_iff.mp hq).1;obtain ⟨bb,gg,hnb,hib⟩ := rb_idx hp 0 (ahead0 hA) hil;have hA' : A[0]? = some (some (bb,gg),rbs rows2 ++ []) := by rw [← hnb]; exact hA
  have hib : idxaV (slv 6 true rows2.length nb) (.int .i64 x) 6 true = some (.ptr bb gg (i * 6)) := by rw [hxi]; exact hib .i64
  have hrow := arow (A := A) (B := B) (X := Y) (p := (r.o,qs.flatMap RI.c ++ []));obtain ⟨cb,cg,hro,hic⟩ := raw_idx hp A.length hrow (ri_len qs) hkl;have hic : idxaV r.w (.int .i64 y) 6 true = some (.ptr cb cg (k * 6)) := by rw [hrw,hyk]; exact hic .i64
  have hld := rb_ld hp 0 (ahead0 hA') hri;have hrow : (A ++ (r.o,qs.flatMap RI.c ++ []) :: (B ++ Y))[A.length]? = some (some (cb,cg),qs.flatMap RI.c ++ []) := hrow.trans (by rw [hro]);unfold insR at h;refine Run.seq ?_;refine Rn.g ?_;refine Ro.t 2 ?_;refine Ro.p hib ?_;refine Ro.t 1 ?_;refine Ro.p hld ?_;refine Ro.t 1 ?_;refine Ro.p hic ?_;refine Ro.t 1 ?_;refine Ro.p (hp.ld A.length hrow (off := k * 6 + 0) (n := none) (v := .int .u8 q.z.fKind) ((ri_at hq (by decide)).trans rfl)) ?_;cases h1 : (q.z.fKind == 1)
  · rw [h1] at h;have h := Option.some.inj h;have hne : (q.z.fKind != 1) = true := by rw [bne,h1]; rfl
    refine Ro.p (u := .bool true) (v := some (.bool (q.z.fKind != 1))) (by rw [hne]) ?_;refine Ro.d (mkE [(1,.ptr b1 0 0),(0,.ptr b2 0 0),(0,Zl (EI .i64) o),(0,Zl (EL (EI .i64)) was),(0,slv 6 true rows2.length nb),(4,Zl (EL (EI .i64)) now),(0,.int .i64 x),(0,.int .i64 y),(91,.bool true)] 61) ?_;refine Run.condT (by kernel_rfl) (Run.exit ?_);refine hk q Y H _ _ (.inr rfl) (by kernel_rfl) h (by rw [hqz]; exact .inl rfl) (fun _ h => h) ?_;have hs : qs.set k q = qs := set_self hq;rw [hs]; exact hp
  · rw [h1] at h;obtain ⟨ko,hko,h⟩ := bind_some h;obtain ⟨wr,hwr,h⟩ := bind_some h;obtain ⟨a,ha,rfl⟩ := Option.map_eq_some_iff.1 h;have hne : (q.z.fKind != 1) = false := by rw [bne,h1]; rfl
    refine Ro.p (u := .bool false) (v := some (.bool (q.z.fKind != 1))) (by rw [hne]) ?_;refine Ro.d (mkE [(1,.ptr b1 0 0),(0,.ptr b2 0 0),(0,Zl (EI .i64) o),(0,Zl (EL (EI .i64)) was),(0,slv 6 true rows2.length nb),(4,Zl (EL (EI .i64)) now),(0,.int .i64 x),(0,.int .i64 y),(91,.bool false)] 61) ?_;refine Run.condF (by kernel_rfl) (Run.skip ?_);refine Rn.c (e26Q b1 b2 o was rows2.length nb now x y) ?_;refine Rn.g ?_;refine Ro.t 2 ?_;refine Ro.p hib ?_;refine Ro.t 1 ?_;refine Ro.p hld ?_;refine Ro.t 1 ?_;refine Ro.p hic ?_;refine Ro.t 1 ?_;have hqw : q.w = Zl (EI .i64) q.z.fArgs := by rw [hqz]; rfl
    refine Ro.p (hp.ld A.length hrow (off := k * 6 + 3) (n := none) (v := Zl (EI .i64) q.z.fArgs) ((ri_at hq (by decide)).trans (by show some q.w = _; rw [hqw]))) ?_;refine Ro.t 1 ?_;refine Ro.d (mkE [(1,.ptr b1 0 0),(0,.ptr b2 0 0),(0,Zl (EI .i64) o),(0,Zl (EL (EI .i64)) was),(0,slv 6 true rows2.length nb),(4,Zl (EL (EI .i64)) now),(0,.int .i64 x),(0,.int .i64 y),(0,Zl (EI .i64) q.z.fArgs)] 152) ?_;refine Rn.g ?_;refine Ro.t 1 ?_;refine Ro.d (mkE [(1,.ptr b1 0 0),(0,.ptr b2 0 0),(0,Zl (EI .i64) o),(0,Zl (EL (EI .i64)) was),(0,slv 6 true rows2.length nb),(4,Zl (EL (EI .i64)) now),(0,.int .i64 x),(0,.int .i64 y),(0,Zl (EI .i64) q.z.fArgs),(0,.nils)] 151) ?_;refine Run.seq ?_;refine args26 _ hp (by rw [hxi]; exact hko) hwr hnw hsm ha (fun oa H e he hp => ?_);show Run T (.clr _ (.rgn i26r69)) _ _ _;refine Run.clr ?_;rw [he];have hrow1 := arow1 (A := A) (B := B) (X := Y) (p := (some (cb,cg),qs.flatMap RI.c ++ [])) (q := (oa,a.flatMap (EI .i64).c ++ []));have hA1 : ((oa,a.flatMap (EI .i64).c ++ []) :: (A ++ (r.o,qs.flatMap RI.c ++ []) :: (B ++ Y)))[1]? = some (some (bb,gg),rbs rows2 ++ []) := by rw [List.getElem?_cons_succ]; exact ahead0 hA'
    refine Run.rgn ?_;refine Ro.t 2 ?_;refine Ro.p hib ?_;refine Ro.t 1 ?_;refine Ro.p (rb_ld hp 1 hA1 hri) ?_;refine Ro.t 2 ?_;refine Ro.p hic ?_;refine Ro.t 1 ?_;rw [hro] at hp;refine RunO.st hp (by kernel_rfl) (A.length + 1) (off := k * 6 + 3) (v := slv 1 false a.length oa) hrow1 (by kernel_rfl) (by kernel_rfl) (ri_st hq a) ?_;intro H hp;rw [List.set_cons_succ,aset] at hp;refine RunO.nil ?_;have hp2 := HP.mid (A := A ++ (some (cb,cg),(qs.set k ⟨slv 1 false a.length oa,{ q.z with fArgs := a }⟩).flatMap RI.c ++ []) :: B) (B := Y) (by rw [List.append_assoc]; exact hp);rw [List.append_assoc] at hp2;rw [← hro] at hp2;exact hk ⟨slv 1 false a.length oa,{ q.z with fArgs := a }⟩ ((oa,a.flatMap (EI .i64).c ++ []) :: Y) H _ _ (.inl rfl) (by kernel_rfl) rfl (.inr ⟨oa,rfl,List.mem_cons_self ..⟩) (fun _ h => List.mem_cons_of_mem _ h) hp2
end
end Go.Eng.Gra
namespace Go.Eng.Gra
open Go Go.Eng
set_option linter.unusedSectionVars false
set_option linter.unusedVariables false
set_option linter.unusedSimpArgs false
set_option maxRecDepth 20000
theorem RI.ok.mono {Y Y' : List Ob} {q : RI} (h : q.ok Y) (hs : ∀ ob ∈ Y,ob ∈ Y') : q.ok Y' := by
  rcases h with h | ⟨o,h1,h2⟩
  · exact .inl h
  · exact .inr ⟨o,h1,hs _ h2⟩
section
variable {b1 b2 : Nat} {o : List Int} {was now : List (List Int)} {nb : Option (Nat × Nat)} {x : Int}
theorem ins26 {rows2 : List RB} {i : Nat} {r : RB} {l2 : List T_Ins} {nw : List Int} {A B Y : List Ob} {H : Heap} (Q : X → List V → Heap → Prop) (hxi : x = (i : Int))
    (hA : A[0]? = some (nb,rbs rows2 ++ [])) (hri : rows2[i]? = some r) (hrok : r.ok) (hbig : r.l.length ≤ 140737488355328) (hnw : idx now x = some nw) (hsm : nw.length ≤ 1152921504606846976)
    (hp : HP H (A ++ r.ob :: (B ++ Y))) (h : omap (insR was o i nw) r.l = some l2)
    (hk : ∀ (qs : List RI) (Y' : List Ob) (H' : Heap) (e' : List V),clrEnv [12,13,14,15,16,85,86,87,88,89,90,91,92,93,94,95,96,97,98,99,100,101,102,103,104,105,106,107,108,109,110,111,112,113,114,115,116,117,118,119,120,121,122,123,124,125,126,127,128,129,130,131,132,133,134,135,136,137,138,139,140,141,142,143,144,145,146,147,148,149,150,151,152,153,154,155,156,157,158,159,160,161,162,163,164] e' = (mkE [(1,.ptr b1 0 0),(0,.ptr b2 0 0),(0,Zl (EI .i64) o),(0,Zl (EL (EI .i64)) was),(0,slv 6 true rows2.length nb),(4,Zl (EL (EI .i64)) now),(0,.int .i64 x)] 154) →
      qs.map RI.z = l2 → (∀ q ∈ qs,q.ok Y') → (∀ ob ∈ Y,ob ∈ Y') → HP H' (A ++ (r.o,qs.flatMap RI.c ++ []) :: (B ++ Y')) → Q .nrm e' H') :
    Run T i26n80 (mkE [(1,.ptr b1 0 0),(0,.ptr b2 0 0),(0,Zl (EI .i64) o),(0,Zl (EL (EI .i64)) was),(0,slv 6 true rows2.length nb),(4,Zl (EL (EI .i64)) now),(0,.int .i64 x)] 154) H Q := by
  have hil := (List.getElem?_eq_some_iff.mp hri).1;refine Rn.g ?_;refine Ro.t 1 ?_;refine Ro.d (e26Q b1 b2 o was rows2.length nb now x 0) ?_;refine Run.block ?_;refine Run.loopc (fun m e h => ∃ (k : Nat) (y : Int) (qs : List RI) (lt : List T_Ins) (Y' : List Ob),y = (k : Int) ∧ k ≤ r.l.length ∧ m = r.l.length - k ∧ qs.length = r.l.length ∧ qs.drop k = (r.l.drop k).map pl ∧ (∀ q ∈ qs,q.ok Y') ∧ omap (insR was o i nw) (r.l.drop k) = some lt ∧ (qs.take k).map RI.z ++ lt = l2 ∧ (∀ ob ∈ Y,ob ∈ Y') ∧
      e = e26Q b1 b2 o was rows2.length nb now x y ∧ HP h (A ++ (r.o,qs.flatMap RI.c ++ []) :: (B ++ Y'))) r.l.length
    ⟨0,0,r.l.map pl,l2,Y,rfl,by omega,by omega,by simp,by simp,fun q hq => by obtain ⟨z,_,rfl⟩ := List.mem_map.1 hq; exact .inl rfl,h,by simp,fun _ h => h,by kernel_rfl,by rw [pl_flat]; exact hp⟩ ?_
  rintro m e H ⟨k,y,qs,lt,Y',hy,hk',rfl,hql,hqd,hqok,hlt,hl2,hsub,rfl,hp⟩;obtain ⟨bb,gg,hnb,hib⟩ := rb_idx hp 0 (ahead0 hA) hil;have hA' : A[0]? = some (some (bb,gg),rbs rows2 ++ []) := by rw [← hnb]; exact hA
  have hib : idxaV (slv 6 true rows2.length nb) (.int .i64 x) 6 true = some (.ptr bb gg (i * 6)) := by rw [hxi]; exact hib .i64
  have hld := rb_ld hp 0 (ahead0 hA') hri;have hlen : lenV false r.w = some (.int .i64 ((r.l.length : Nat) : Int)) := by
    rcases hrok with h | ⟨h1,_,h⟩
    · rw [h]; exact raw_len hp A.length arow (by rw [ri_len,hql])
    · rw [h,h1]; rfl
  refine Run.seq ?_;refine Rn.g ?_;refine Ro.t 3 ?_;refine Ro.p hib ?_;refine Ro.t 1 ?_;refine Ro.p hld ?_;refine Ro.p hlen ?_;refine Ro.t 1 ?_;refine Ro.d (mkE [(1,.ptr b1 0 0),(0,.ptr b2 0 0),(0,Zl (EI .i64) o),(0,Zl (EL (EI .i64)) was),(0,slv 6 true rows2.length nb),(4,Zl (EL (EI .i64)) now),(0,.int .i64 x),(0,.int .i64 y),(79,.bool (decide (y < ((r.l.length : Nat) : Int))))] 73) ?_
  by_cases hkl : k < r.l.length
  · refine Run.condT (by rw [decide_eq_true (show y < ((r.l.length : Nat) : Int) by omega)]; kernel_rfl) (Run.skip ?_);refine Rn.c (e26Q b1 b2 o was rows2.length nb now x y) ?_;have hdrop : r.l.drop k = r.l[k] :: r.l.drop (k + 1) := List.drop_eq_getElem_cons hkl;rw [hdrop] at hlt hqd
    generalize r.l[k] = z at hdrop hlt hqd
    have hqk : qs[k]? = some (pl z) := by
      have := congrArg (·[0]?) hqd
      simpa using this
    simp only [omap] at hlt
    split at hlt
    case h_2 => cases hlt
    rename_i z' lt' hins hrest
    cases hlt;have hrw : r.w = slv 6 true qs.length r.o := by
      rcases hrok with h | ⟨h1,_,_⟩
      · rw [h,hql]
      · rw [h1] at hkl; simp at hkl
    refine Run.seq (Run.block ?_);refine one26 (q := pl z) _ hxi hy hA hri hrw hqk rfl hnw hsm hp hins (fun q' Y2 H e XX hXX he hz hok' hsub2 hp => ?_);have key : Run T (.clr clQ (.rgn i26r75)) e H (rndc [13,14,15,16,85,86,87,88,89,90,91,92,93,94,95,96,97,98,99,100,101,102,103,104,105,106,107,108,109,110,111,112,113,114,115,116,117,118,119,120,121,122,123,124,125,126,127,128,129,130,131,132,133,134,135,136,137,138,139,140,141,142,143,144,145,146,147,148,149,150,151,152,153,154,155,156,157,158,159,160,161,162,163,164] (fun m e h => ∃ (k : Nat) (y : Int) (qs : List RI) (lt : List T_Ins) (Y' : List Ob),y = (k : Int) ∧ k ≤ r.l.length ∧ m = r.l.length - k ∧ qs.length = r.l.length ∧ qs.drop k = (r.l.drop k).map pl ∧ (∀ q ∈ qs,q.ok Y') ∧ omap (insR was o i nw) (r.l.drop k) = some lt ∧ (qs.take k).map RI.z ++ lt = l2 ∧ (∀ ob ∈ Y,ob ∈ Y') ∧
        e = e26Q b1 b2 o was rows2.length nb now x y ∧ HP h (A ++ (r.o,qs.flatMap RI.c ++ []) :: (B ++ Y'))) (r.l.length - k) (blk 6 Q)) := by
      refine Run.clr ?_;rw [he];have hwx : IntKind.i64.wrap (y + 1) = ((k + 1 : Nat) : Int) := by rw [hy,wrap64_in (by omega) (by omega)]; omega
      have hkq : k < qs.length := by omega
      refine Run.rgn (Ro.t 3 (RunO.nil ⟨r.l.length - (k + 1),by omega,k + 1,_,qs.set k q',lt',Y2,hwx,by omega,rfl,by simpa using hql,?_,?_,hrest,?_,fun ob h => hsub2 _ (hsub _ h),by kernel_rfl,hp⟩))
      · rw [List.drop_set_of_lt (by omega)];have := congrArg (·.drop 1) hqd
        simpa using this
      · intro q hq;rcases List.mem_or_eq_of_mem_set hq with h | h
        · exact (hqok q h).mono hsub2
        · rw [h]; exact hok'
      · rw [← hl2];have e : (qs.set k q').take (k + 1) = qs.take k ++ [q'] := by
          rw [List.take_succ_eq_append_getElem (by simpa using hkq),List.getElem_set_self,List.take_set_of_le (Nat.le_refl _)]
        rw [e,List.map_append,List.map_cons,List.map_nil,hz,List.append_assoc]; rfl
    rcases hXX with rfl | rfl
    · exact key
    · exact key
  · refine Run.condF (by rw [decide_eq_false (show ¬ y < ((r.l.length : Nat) : Int) by omega)]; kernel_rfl) (Run.exit ?_);have hk2 : k = r.l.length := by omega
    subst hk2;rw [List.drop_length] at hlt;cases hlt;rw [List.append_nil,List.take_of_length_le (by omega)] at hl2;exact hk qs Y' H _ (by kernel_rfl) hl2 hqok hsub hp
end
end Go.Eng.Gra
namespace Go.Eng.Gra
open Go Go.Eng
set_option linter.unusedSectionVars false
set_option linter.unusedVariables false
set_option linter.unusedSimpArgs false
set_option maxRecDepth 20000
def rowsR (was : List (List Int)) (o : List Int) (now : List (List Int)) : Nat → List RB → Option (List (List T_Ins))
  | _,[] => some []
  | i,r :: rs => (idx now (i : Int)).bind fun nw => (omap (insR was o i nw) r.l).bind fun l => (rowsR was o now (i + 1) rs).map fun t => l :: t
abbrev RD := RB × List RI
def RD.ob (d : RD) : Ob := (d.1.o,d.2.flatMap RI.c ++ [])
section
variable {b1 b2 : Nat} {o : List Int} {was now : List (List Int)} {nb : Option (Nat × Nat)} {x : Int}
theorem rows26 {rows2 : List RB} {ll : List (List T_Ins)} {F Y : List Ob} {H : Heap} (Q : X → List V → Heap → Prop)
    (hF : F[0]? = some (nb,rbs rows2 ++ [])) (hok : ∀ r ∈ rows2,r.ok) (hbig : ∀ r ∈ rows2,r.l.length ≤ 140737488355328) (hsz : rows2.length ≤ 1048576) (hsm : ∀ nw ∈ now,nw.length ≤ 1152921504606846976)
    (hp : HP H (F ++ (robs rows2 ++ Y))) (h : rowsR was o now 0 rows2 = some ll)
    (hk : ∀ (ds : List RD) (Y' : List Ob) (H' : Heap) (e' : List V),clrEnv [3,4,5,10,11,12,13,14,15,16,79,80,81,82,83,84,85,86,87,88,89,90,91,92,93,94,95,96,97,98,99,100,101,102,103,104,105,106,107,108,109,110,111,112,113,114,115,116,117,118,119,120,121,122,123,124,125,126,127,128,129,130,131,132,133,134,135,136,137,138,139,140,141,142,143,144,145,146,147,148,149,150,151,152,153,154,155,156,157,158,159,160,161,162,163,164] e' = (mkE [(1,.ptr b1 0 0),(0,.ptr b2 0 0)] 163) →
      ds.map (·.1) = rows2 → ds.map (fun d => d.2.map RI.z) = ll → (∀ d ∈ ds,∀ q ∈ d.2,q.ok Y') → HP H' (F ++ (ds.map RD.ob ++ Y')) → Q .nrm e' H') :
    Run T i26n87 (mkE [(1,.ptr b1 0 0),(0,.ptr b2 0 0),(0,Zl (EI .i64) o),(0,Zl (EL (EI .i64)) was),(0,slv 6 true rows2.length nb),(4,Zl (EL (EI .i64)) now)] 155) H Q := by
  refine Rn.g ?_;refine Ro.t 1 ?_;refine Ro.d (mkE [(1,.ptr b1 0 0),(0,.ptr b2 0 0),(0,Zl (EI .i64) o),(0,Zl (EL (EI .i64)) was),(0,slv 6 true rows2.length nb),(4,Zl (EL (EI .i64)) now),(0,.int .i64 0)] 154) ?_;refine Run.block ?_;refine Run.loopc (fun m e h => ∃ (i : Nat) (x : Int) (ds : List RD) (lt : List (List T_Ins)) (Y' : List Ob),x = (i : Int) ∧ i ≤ rows2.length ∧ m = rows2.length - i ∧ ds.map (·.1) = rows2.take i ∧ (∀ d ∈ ds,∀ q ∈ d.2,q.ok Y') ∧ rowsR was o now i (rows2.drop i) = some lt ∧ ds.map (fun d => d.2.map RI.z) ++ lt = ll ∧
      e = (mkE [(1,.ptr b1 0 0),(0,.ptr b2 0 0),(0,Zl (EI .i64) o),(0,Zl (EL (EI .i64)) was),(0,slv 6 true rows2.length nb),(4,Zl (EL (EI .i64)) now),(0,.int .i64 x)] 154) ∧ HP h (F ++ (ds.map RD.ob ++ (robs (rows2.drop i) ++ Y')))) rows2.length
    ⟨0,0,[],ll,Y,rfl,by omega,by omega,by simp,fun _ h => absurd h List.not_mem_nil,h,rfl,by kernel_rfl,hp⟩ ?_
  rintro m e H ⟨i,x,ds,lt,Y',hx,hi,rfl,hds,hdok,hlt,hll,rfl,hp⟩;have hlen : lenV false (slv 6 true rows2.length nb) = some (.int .i64 ((rows2.length : Nat) : Int)) := raw_len hp 0 (ahead0 hF) (by rw [List.append_nil,rbs_len]);refine Run.seq ?_;refine Rn.g ?_;refine Ro.t 2 ?_;refine Ro.p hlen ?_;refine Ro.t 1 ?_;refine Ro.d (mkE [(1,.ptr b1 0 0),(0,.ptr b2 0 0),(0,Zl (EI .i64) o),(0,Zl (EL (EI .i64)) was),(0,slv 6 true rows2.length nb),(4,Zl (EL (EI .i64)) now),(0,.int .i64 x),(70,.bool (decide (x < ((rows2.length : Nat) : Int))))] 83) ?_
  by_cases hil : i < rows2.length
  · refine Run.condT (by rw [decide_eq_true (show x < ((rows2.length : Nat) : Int) by omega)]; kernel_rfl) (Run.skip ?_);refine Rn.c (mkE [(1,.ptr b1 0 0),(0,.ptr b2 0 0),(0,Zl (EI .i64) o),(0,Zl (EL (EI .i64)) was),(0,slv 6 true rows2.length nb),(4,Zl (EL (EI .i64)) now),(0,.int .i64 x)] 154) ?_;have hr : rows2[i]? = some rows2[i] := List.getElem?_eq_getElem hil;have hdrop : rows2.drop i = rows2[i] :: rows2.drop (i + 1) := List.drop_eq_getElem_cons hil;have htake : rows2.take (i + 1) = rows2.take i ++ [rows2[i]] := List.take_succ_eq_append_getElem hil
    generalize rows2[i] = r at hr hdrop htake
    rw [hdrop] at hlt;simp only [rowsR] at hlt;obtain ⟨nw,hnw,hlt⟩ := bind_some hlt;obtain ⟨l2,hl2,hlt⟩ := bind_some hlt;obtain ⟨lt',hrest,rfl⟩ := Option.map_eq_some_iff.1 hlt;have hrm := List.mem_of_getElem? hr;have hnm : nw.length ≤ 1152921504606846976 := hsm nw (List.mem_of_getElem? (idx_lt hnw).2.2);have hp1 : HP H ((F ++ ds.map RD.ob) ++ r.ob :: (robs (rows2.drop (i + 1)) ++ Y')) := by
      rw [hdrop] at hp;rw [List.append_assoc]; exact hp
    have hF1 : (F ++ ds.map RD.ob)[0]? = some (nb,rbs rows2 ++ []) := ahead0 hF;refine Run.seq (Run.block ?_);refine ins26 _ hx hF1 hr (hok r hrm) (hbig r hrm) (by rw [hx]; exact hnw) hnm hp1 hl2 (fun qs Y2 H e he hqs hqok hsub hp => ?_);show Run T (.clr _ (.rgn i26r82)) _ _ _;refine Run.clr ?_;rw [he];have hwx : IntKind.i64.wrap (x + 1) = ((i + 1 : Nat) : Int) := by rw [hx,wrap64_in (by omega) (by omega)]; omega
    refine Run.rgn (Ro.t 3 (RunO.nil ⟨rows2.length - (i + 1),by omega,i + 1,_,ds ++ [(r,qs)],lt',Y2,hwx,by omega,rfl,by rw [htake,List.map_append,hds]; rfl,?_,hrest,?_,by kernel_rfl,?_⟩))
    · intro d hd q hq;rcases List.mem_append.1 hd with h | h
      · exact (hdok d h q hq).mono hsub
      · rw [List.mem_singleton.1 h] at hq; exact hqok q hq
    · rw [← hll,List.map_append,List.append_assoc,List.map_cons,List.map_nil,hqs]; rfl
    · rw [List.append_assoc] at hp;rw [List.map_append,List.append_assoc]; exact hp
  · refine Run.condF (by rw [decide_eq_false (show ¬ x < ((rows2.length : Nat) : Int) by omega)]; kernel_rfl) (Run.exit ?_);have hi2 : i = rows2.length := by omega
    subst hi2;rw [List.drop_length] at hlt hp;cases hlt;rw [List.append_nil] at hll;rw [List.take_length] at hds;exact hk ds Y' H _ (by kernel_rfl) hds hll hdok hp
end
theorem rows_ri : ∀ (l : List RI) (rest : List V),rows 6 l.length (l.flatMap RI.c ++ rest) = l.map RI.c
  | [],rest => rfl
  | a :: l,rest => by
    have ih := rows_ri l rest;have a6 : (RI.c a).length = 6 := rfl;rw [List.length_cons,rows,List.flatMap_cons,List.append_assoc,List.map_cons,List.take_append_of_le_length (by rw [a6]; exact Nat.le_refl _),List.take_of_length_le (by rw [a6]; exact Nat.le_refl _),List.drop_append,List.drop_of_length_le (by rw [a6]; exact Nat.le_refl _),a6,Nat.sub_self,List.drop_zero,List.nil_append,ih]
theorem deep_rd {H : Heap} {L Y : List Ob} (hp : HP H L) (hY : ∀ ob ∈ Y,ob ∈ L) {d : RD} (hd : d.ob ∈ L) (hw : d.1.w = slv 6 true d.2.length d.1.o ∨ d.2 = [] ∧ d.1.w = .fz []) (hq : ∀ q ∈ d.2,q.ok Y) (n : Nat) :
    deep false H (n + 8) d.1.w = some ((EL E_Ins).e (d.2.map RI.z)) := by
  rcases hw with hw | ⟨h1,hw⟩
  · obtain ⟨⟨o,w,l,t⟩,qs⟩ := d;have hw : w = slv 6 true qs.length o := hw;subst hw;show deep false H (n + 8) (slv 6 true qs.length o) = _;obtain ⟨j,hj⟩ := List.getElem?_of_mem hd;cases o with
    | none =>
      have h0' := hp.at_ j _ _ hj;have hl : (qs.flatMap RI.c ++ []).length = 0 := by rw [show qs.flatMap RI.c ++ [] = [] from h0']; rfl
      rw [ri_len] at hl;have : qs = [] := List.eq_nil_of_length_eq_zero (by omega);subst this; rfl
    | some p =>
      obtain ⟨b,g⟩ := p;have hget := rdB_of (hp.get hj);simp only [slv];rw [deep_sl,hget,Option.bind_some,if_pos ⟨by show 0 + qs.length * 6 ≤ (qs.flatMap RI.c ++ []).length; rw [ri_len]; omega,by decide,.inl rfl⟩,List.drop_zero];show (omap (drow (deep false H (n + 7)) true) (rows 6 qs.length (qs.flatMap RI.c ++ []))).map V.fz = _;rw [rows_ri,omap_mapM RI.c _ (fun q => E_Ins.e q.z) qs (fun q hqm => ?_)]
      · show some (V.fz _) = some (V.fz _);rw [List.map_map]; rfl
      · show (omap (deep false H (n + 7)) (RI.c q)).map V.ag = _;have hwq : deep false H (n + 7) q.w = some ((EL (EI .i64)).e q.z.fArgs) := by
          rcases hq q hqm with h | ⟨oa,h1,h2⟩
          · rw [h]; rfl
          · obtain ⟨k,hk⟩ := List.getElem?_of_mem (hY _ h2);rw [h1]; exact own_deep (EI .i64) hp k hk false (.inl rfl) (n + 3)
        have : omap (deep false H (n + 7)) (RI.c q) = some (E_Ins.c q.z) := omapc rfl (omapc rfl (omapc rfl (omapc hwq rfl)));rw [this]; rfl
  · rw [hw,h1]; rfl
end Go.Eng.Gra
namespace Go.Eng.Gra
open Go Go.Eng
set_option linter.unusedSectionVars false
set_option linter.unusedVariables false
set_option linter.unusedSimpArgs false
set_option maxRecDepth 20000
theorem HP.rot {H : Heap} : ∀ {A B : List Ob},HP H (A ++ B) → HP H (B ++ A)
  | [],B,h => by simpa using h
  | a :: A,B,h => by
    have h1 : HP H (a :: ((A ++ B) ++ [])) := by simpa using h
    have h2 := HP.mid h1;rw [List.append_assoc] at h2;have h3 := HP.rot h2;rw [List.append_assoc] at h3; exact h3
theorem omap_get {α β : Type} {f : α → Option β} : ∀ {l : List α} {r : List β},omap f l = some r → ∀ {i : Nat} {b : β},r[i]? = some b → ∃ a,l[i]? = some a ∧ f a = some b
  | [],r,h,i,b,hb => by simp [omap] at h; subst h; simp at hb
  | a :: l,r,h,i,b,hb => by
    simp only [omap] at h
    split at h
    · rename_i b' r' h1 h2
      cases h;cases i with
      | zero => simp at hb; subst hb; exact ⟨a,rfl,h1⟩
      | succ i => exact omap_get h2 (by simpa using hb)
    · cases h
theorem HP.rows {H : Heap} {F : List Ob} {rows rows2 : List RB} {o o' : List Int} (hp : HP H (F ++ robs rows.reverse)) (h : omap (nwR o' rows) o = some rows2) (hnd : o.Nodup) : HP H (F ++ (robs rows2 ++ [])) := by
  rw [List.append_nil];have key : ∀ k x,¬ k < F.length → (F ++ robs rows2)[k]? = some x → ∃ a,o[k - F.length]? = some a ∧ 0 ≤ a ∧ a.toNat < rows.length ∧ (robs rows.reverse)[rows.length - 1 - a.toNat]? = some x := by
    intro k x hk hx;rw [List.getElem?_append_right (by omega)] at hx;unfold robs at hx;rw [List.getElem?_map] at hx;obtain ⟨q,hq,rfl⟩ := Option.map_eq_some_iff.1 hx;obtain ⟨a,ha,hnw⟩ := omap_get h hq;unfold nwR at hnw;obtain ⟨r,hr,hnw⟩ := bind_some hnw;obtain ⟨t,_,rfl⟩ := Option.map_eq_some_iff.1 hnw;obtain ⟨h0,h1,h2⟩ := idx_lt hr;exact ⟨a,ha,h0,by omega,(show (robs rows.reverse)[rows.length - 1 - a.toNat]? = some (RB.ob r) from rrev h2)⟩
  refine HP.via (fun k => if k < F.length then k else F.length + (rows.length - 1 - (o.getD (k - F.length) 0).toNat)) hp ?_ ?_
  · intro k x hx
    by_cases hk : k < F.length
    · rw [List.getElem?_append_left hk] at hx;simp only [hk,if_true];rw [List.getElem?_append_left hk]; exact hx
    · obtain ⟨a,ha,h0,hl,hr⟩ := key k x hk hx;simp only [hk,if_false];rw [List.getElem?_append_right (by omega),Nat.add_sub_cancel_left,List.getD_eq_getElem?_getD,ha];exact hr
  · intro i j hi hj hij
    by_cases h1 : i < F.length <;> by_cases h2 : j < F.length
    · simp only [h1,h2,if_true] at hij; exact hij
    · simp only [h1,h2,if_true,if_false] at hij; omega
    · simp only [h1,h2,if_true,if_false] at hij; omega
    · obtain ⟨a,ha,a0,al,_⟩ := key i _ h1 (List.getElem?_eq_getElem hi);obtain ⟨b,hb,b0,bl,_⟩ := key j _ h2 (List.getElem?_eq_getElem hj);simp only [h1,h2,if_false,List.getD_eq_getElem?_getD,ha,hb,Option.getD_some] at hij;have hab : a = b := by omega
      subst hab;have i1 := (List.getElem?_eq_some_iff.mp ha);have j1 := (List.getElem?_eq_some_iff.mp hb);obtain ⟨i1,e1⟩ := i1;obtain ⟨j1,e2⟩ := j1;have hpw := List.pairwise_iff_getElem.1 hnd;rcases Nat.lt_trichotomy (i - F.length) (j - F.length) with h | h | h
      · exact absurd (e1.trans e2.symm) (hpw _ _ i1 j1 h)
      · omega
      · exact absurd (e2.trans e1.symm) (hpw _ _ j1 i1 h)
def nwB (o : List Int) (bs : List T_Block) (k : Int) : Option T_Block := (idx bs k).bind fun b => (trTmR o b.fTerm).map fun t => ⟨b.fIns,t⟩
def rowsB (was : List (List Int)) (o : List Int) (now : List (List Int)) : Nat → List T_Block → Option (List (List T_Ins))
  | _,[] => some []
  | i,b :: bs => (idx now (i : Int)).bind fun nw => (omap (insR was o i nw) b.fIns).bind fun l => (rowsB was o now (i + 1) bs).map fun t => l :: t
theorem rowsR_B {was : List (List Int)} {o : List Int} {now : List (List Int)} : ∀ (rows : List RB) (i : Nat),rowsR was o now i rows = rowsB was o now i (rows.map RB.b)
  | [],i => rfl
  | r :: rs,i => by
    simp only [rowsR,List.map_cons,rowsB,rowsR_B rs (i + 1)]; rfl
theorem idx_map {α β : Type} {f : α → β} {l : List α} {k : Int} : idx (l.map f) k = (idx l k).map f := by
  unfold idx
  split
  · rw [List.getElem?_map]
  · rfl
theorem nw_rows {o o' : List Int} {rows : List RB} : ∀ {bs1 : List T_Block},omap (nwB o' (rows.map RB.b)) o = some bs1 → ∃ rows2,omap (nwR o' rows) o = some rows2 ∧ rows2.map RB.b = bs1 := by
  induction o with
  | nil => intro bs1 h; simp [omap] at h; subst h; exact ⟨[],rfl,rfl⟩
  | cons a o ih =>
    intro bs1 h;simp only [omap] at h
    split at h
    · rename_i b r h1 h2
      cases h;obtain ⟨rows2,h3,rfl⟩ := ih h2;unfold nwB at h1;rw [idx_map] at h1;obtain ⟨b0,h4,h1⟩ := bind_some h1;obtain ⟨r0,h5,rfl⟩ := Option.map_eq_some_iff.1 h4;obtain ⟨t,h6,rfl⟩ := Option.map_eq_some_iff.1 h1;refine ⟨{ r0 with t := t } :: rows2,?_,rfl⟩;have h7 : nwR o' rows a = some { r0 with t := t } := by
        unfold nwR;rw [h5,Option.bind_some];show (trTmR o' r0.t).map _ = _;rw [show trTmR o' r0.t = some t from h6]; rfl
      simp only [omap,h7,h3]
    · cases h
theorem deep_CG {H : Heap} {L : List Ob} (hp : HP H L) {x0 : T_Graph} {op ov oa : Option (Nat × Nat)} {w : V} {bs : List T_Block} (i1 i2 i3 : Nat) (h1 : L[i1]? = some (OI op x0.fParams)) (h2 : L[i2]? = some (OV ov x0.fVars)) (h3 : L[i3]? = some (OA oa x0.fArrays)) (hw : deep false H 39 w = some ((EL E_Block).e bs)) :
    deep false H deepN (.ag (CG x0 op ov oa w)) = some (E_Graph.e (blocksOf x0 bs)) := by
  have d1 : deep false H 39 (slv 1 false x0.fParams.length op) = some ((EL (EI .i64)).e x0.fParams) := own_deep (EI .i64) hp i1 h1 false (.inl rfl) 35;have d2 : deep false H 39 (slv 1 false x0.fVars.length ov) = some ((EL (EI .u8)).e x0.fVars) := own_deep (EI .u8) hp i2 h2 false (.inl rfl) 35;have d3 : deep false H 39 (slv 2 true x0.fArrays.length oa) = some ((EL E_Array).e x0.fArrays) := own_deep E_Array hp i3 h3 false (.inl rfl) 35;have : omap (deep false H 39) (CG x0 op ov oa w) = some (E_Graph.c (blocksOf x0 bs)) :=
    omapc rfl (omapc d1 (omapc rfl (omapc d2 (omapc d3 (omapc hw rfl)))))
  show (omap (deep false H 39) _).map V.ag = _;rw [this]; rfl
theorem stC_6 {x0 : T_Graph} {op ov oa ob : Option (Nat × Nat)} {n : Nat} : stC (E_Graph.c x0) 0 (.ag (CG x0 op ov oa (slv 6 true n ob))) (some 6) = some (CG x0 op ov oa (slv 6 true n ob)) := by
  cases op <;> cases ov <;> cases oa <;> cases ob <;> rfl
end Go.Eng.Gra
