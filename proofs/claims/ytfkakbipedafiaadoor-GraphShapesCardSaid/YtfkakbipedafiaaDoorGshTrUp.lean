/- Functions of this seat, run on unknown values by the rules of the small machine (no condition beyond those stated). -/
import Derived.Test.YtfkakbipedafiaaDoorGshPUp
import Derived.Test.YtfkakbipedafiaaDoorGshF
namespace Go.Eng.Gra
open Go Go.Eng
set_option linter.unusedSectionVars false
set_option linter.unusedVariables false
set_option linter.unusedSimpArgs false
set_option maxRecDepth 20000
def clo {α : Type} (by_ : Nat) (l : List α) : Option (List α) := if l.length * by_ ≤ 140737488355328 then some l else none
theorem clo_spec {α : Type} {by_ : Nat} {l l' : List α} (h : clo by_ l = some l') : l' = l ∧ l.length * by_ ≤ 140737488355328 := by
  unfold clo at h
  split at h
  · cases h; exact ⟨rfl,by assumption⟩
  · cases h
def setAt : List Int → Nat → List Int → Option (List Int)
  | [],_,pl => some pl
  | k :: o,i,pl => (upd pl k ((i + 1 : Nat) : Int)).bind fun pl' => setAt o (i + 1) pl'
def trTm (pl : List Int) (t : T_Term) : Option T_Term :=
  (trTo pl t 0 t.fTo.a0).bind fun a => (trTo pl t 1 t.fTo.a1).map fun b => { t with fTo := ⟨a,b⟩ }
def trB (bs : List T_Block) (pl : List Int) (k : Int) : Option T_Block :=
  (idx bs k).bind fun b => (trTm pl b.fTerm).bind fun t => (clo 56 b.fIns).map fun l => ⟨l,t⟩
def argsT (was : List (List Int)) (o : List Int) (i : Nat) (nw : List Int) (x : T_Ins) : Option (List Int) :=
  if (x.fKind == 1) = true then (idx o (i : Int)).bind fun k => (idx was k).bind fun wr => F47 x.fArgs wr nw o else some x.fArgs
def insT (was : List (List Int)) (o : List Int) (i : Nat) (nw : List Int) (x : T_Ins) : Option T_Ins :=
  (argsT was o i nw x).bind fun a => (clo 8 a).map fun a => { x with fArgs := a }
def rowsT (was : List (List Int)) (o : List Int) (now : List (List Int)) : Nat → List T_Block → Option (List T_Block)
  | _,[] => some []
  | i,b :: bs => (idx now (i : Int)).bind fun nw => (omap (insT was o i nw) b.fIns).bind fun l => (rowsT was o now (i + 1) bs).map fun r => ⟨l,b.fTerm⟩ :: r
def F25 (g : T_Graph) : Option T_Graph :=
  (orderV g).bind fun o => if g.fBlocks.length ≤ 1048576 ∧ o.length ≤ 1048576 then
    (made 8 (0 : Int) ((g.fBlocks.length : Nat) : Int)).bind fun pl0 => (setAt o 0 pl0).bind fun pl =>
    (clo 8 g.fParams).bind fun _ => (clo 1 g.fVars).bind fun _ => (clo 16 g.fArrays).bind fun _ =>
    (omap (trB g.fBlocks pl) o).bind fun bs1 =>
    (rowsT (aheadV g.fBlocks) o (aheadV bs1) 0 bs1).map fun bs2 => { g with fBlocks := bs2 }
  else none
theorem cl43' : Cl T 43 := ⟨40,by kernel_rfl⟩
theorem cl44 : Cl T 44 := ⟨40,by kernel_rfl⟩
theorem cl45 : Cl T 45 := ⟨40,by kernel_rfl⟩
theorem rrev {rows : List RB} {i : Nat} {r : RB} (h : rows[i]? = some r) : (robs rows.reverse)[rows.length - 1 - i]? = some r.ob := by
  have hi := (List.getElem?_eq_some_iff.mp h).1;unfold robs;rw [List.getElem?_map,List.getElem?_reverse (by omega),show rows.length - 1 - (rows.length - 1 - i) = i by omega,h]; rfl
theorem rrev_set {rows : List RB} {i : Nat} (hi : i < rows.length) (r : RB) : (robs rows.reverse).set (rows.length - 1 - i) r.ob = robs (rows.set i r).reverse := by
  refine List.ext_getElem? fun j => ?_
  by_cases hj : j < rows.length
  · have e : (robs (rows.set i r).reverse)[j]? = ((rows.set i r)[rows.length - 1 - j]?).map RB.ob := by
      unfold robs; rw [List.getElem?_map,List.getElem?_reverse (by simpa using hj),List.length_set]
    have e2 : (robs rows.reverse)[j]? = (rows[rows.length - 1 - j]?).map RB.ob := by
      unfold robs; rw [List.getElem?_map,List.getElem?_reverse hj]
    rw [e]
    by_cases hji : rows.length - 1 - i = j
    · rw [← hji,List.getElem?_set_self (by simp [robs]; omega),show rows.length - 1 - (rows.length - 1 - i) = i by omega,List.getElem?_set_self hi]; rfl
    · rw [List.getElem?_set_ne hji,e2,List.getElem?_set_ne (by omega)]
  · rw [List.getElem?_eq_none (by simp [robs]; omega),List.getElem?_eq_none (by simp [robs]; omega)]
theorem rb_idx {H : Heap} {L : List Ob} (hp : HP H L) (j : Nat) {ob : Option (Nat × Nat)} {rows : List RB} (hj : L[j]? = some (ob,rbs rows ++ [])) {i : Nat} (hi : i < rows.length) :
    ∃ b g,ob = some (b,g) ∧ ∀ k,idxaV (slv 6 true rows.length ob) (.int k (i : Int)) 6 true = some (.ptr b g (i * 6)) := by
  cases ob with
  | none =>
    have h0 := hp.at_ j _ _ hj;have hl : (rbs rows ++ []).length = 0 := by rw [show rbs rows ++ [] = [] from h0]; rfl
    rw [List.append_nil,rbs_len] at hl; omega
  | some p =>
    obtain ⟨b,g⟩ := p;refine ⟨b,g,rfl,fun k => ?_⟩;simp only [slv,idxaV];rw [if_pos ⟨by omega,by omega,trivial,trivial⟩,Nat.zero_add,Int.toNat_natCast]
theorem rb_ld {H : Heap} {L : List Ob} (hp : HP H L) (j : Nat) {b g : Nat} {rows : List RB} (hj : L[j]? = some (some (b,g),rbs rows ++ [])) {i : Nat} {r : RB} (hi : rows[i]? = some r) : ldV H (.ptr b g (i * 6 + 0)) none = some r.w := by
  refine hp.ld j hj ?_;rw [List.append_nil];exact rbs_at hi
theorem rb_len {H : Heap} {L : List Ob} (hp : HP H L) (j : Nat) {r : RB} (hj : L[j]? = some r.ob) (h : r.ok) : lenV false r.w = some (.int .i64 ((r.l.length : Nat) : Int)) := by
  rcases h with h | ⟨h1,_,h⟩
  · rw [h]; exact own_len E_Ins hp j hj
  · rw [h,h1]; rfl
theorem trTo_get {pl : List Int} {t : T_Term} (k : Nat) (v : Int) {to : Int} : trTo pl (setTo t 0 v) k to = trTo pl t k to := by unfold trTo; rw [goV_set]
theorem setAt_len : ∀ {o : List Int} {i : Nat} {pl pl' : List Int},setAt o i pl = some pl' → pl'.length = pl.length
  | [],i,pl,pl',h => by simp [setAt] at h; rw [h]
  | k :: o,i,pl,pl',h => by
    simp only [setAt] at h;obtain ⟨p,h1,h2⟩ := bind_some h;rw [setAt_len h2,upd_len h1]
theorem set_self {α : Type} {l : List α} {i : Nat} {a : α} (h : l[i]? = some a) : l.set i a = l := by
  refine List.ext_getElem? fun j => ?_
  by_cases hij : i = j
  · subst hij; rw [List.getElem?_set_self (List.getElem?_eq_some_iff.mp h).1,h]
  · rw [List.getElem?_set_ne hij]
def e25A (b2 b5 : Nat) (G : V) (o : List Int) (was : List (List Int)) (n : Nat) (x : Int) : List V := (mkE [(1,.fp G),(0,.ptr b2 0 0),(0,Zl (EI .i64) o),(0,Zl (EL (EI .i64)) was),(0,slv 1 false n (some (b5,0))),(22,Zl (EI .i64) o),(0,.int .i64 (ln o)),(0,.int .i64 x)] 133)
def e25Q (b2 b8 : Nat) (o : List Int) (was now : List (List Int)) (x : Int) : List V := (mkE [(2,.ptr b2 0 0),(0,Zl (EI .i64) o),(0,Zl (EL (EI .i64)) was),(3,.ptr b8 0 0),(105,Zl (EL (EI .i64)) now),(0,.int .i64 (ln now)),(0,.int .i64 x)] 47)
def e25R (b2 b8 : Nat) (o : List Int) (was now : List (List Int)) (x : Int) (nw : List Int) (w : V) (n : Nat) (y : Int) : List V := (mkE [(2,.ptr b2 0 0),(0,Zl (EI .i64) o),(0,Zl (EL (EI .i64)) was),(3,.ptr b8 0 0),(7,.int .i64 x),(0,Zl (EI .i64) nw),(96,Zl (EL (EI .i64)) now),(0,.int .i64 (ln now)),(0,.int .i64 x),(9,w),(0,.int .i64 (n : Int)),(0,.int .i64 y)] 35)
def e25S (b2 b8 b19 : Nat) (o : List Int) (was now : List (List Int)) (x : Int) (nw : List Int) (w : V) (n : Nat) (y : Int) : List V := (mkE [(2,.ptr b2 0 0),(0,Zl (EI .i64) o),(0,Zl (EL (EI .i64)) was),(3,.ptr b8 0 0),(7,.int .i64 x),(0,Zl (EI .i64) nw),(0,.int .i64 y),(0,.ptr b19 0 0),(94,Zl (EL (EI .i64)) now),(0,.int .i64 (ln now)),(0,.int .i64 x),(9,w),(0,.int .i64 (n : Int)),(0,.int .i64 y)] 35)
abbrev cl68 : List Nat := [133,134,135,136,137,138,139,140,141,142,143,144,145,146,147,148]
theorem args25 {b2 b8 b19 : Nat} {o : List Int} {was now : List (List Int)} {i : Nat} {x : Int} (hxi : x = (i : Int)) {nw : List Int} {w : V} {n : Nat} {y : Int} {z : T_Ins} {a : List Int} {H : Heap} {L : List Ob}
    (hp : HP H ((some (b19,0),E_Ins.c z) :: L)) (h : argsT was o i nw z = some a) :
    Run T i25n67 (e25S b2 b8 b19 o was now x nw w n y) H (fun X e h => X = .nrm ∧ clrEnv cl68 e = e25S b2 b8 b19 o was now x nw w n y ∧ HP h ((some (b19,0),E_Ins.c { z with fArgs := a }) :: L)) := by
  unfold argsT at h;refine Rn.g ?_;refine Ro.t 1 ?_;refine Ro.p (hp.ld 0 (off := 0) (n := none) (v := .int .u8 z.fKind) rfl rfl) ?_;cases hk : (z.fKind == 1)
  · rw [hk] at h;have h := Option.some.inj h;refine Ro.p (bool_of hk) ?_;refine Ro.d (mkE [(2,.ptr b2 0 0),(0,Zl (EI .i64) o),(0,Zl (EL (EI .i64)) was),(3,.ptr b8 0 0),(7,.int .i64 x),(0,Zl (EI .i64) nw),(0,.int .i64 y),(0,.ptr b19 0 0),(94,Zl (EL (EI .i64)) now),(0,.int .i64 (ln now)),(0,.int .i64 x),(9,w),(0,.int .i64 (n : Int)),(0,.int .i64 y),(6,.bool false)] 28) ?_;refine Run.condF (by kernel_rfl) ?_;refine Run.skip ⟨rfl,by kernel_rfl,?_⟩;rw [← h]; exact hp
  · rw [hk] at h;obtain ⟨k,h1,h⟩ := bind_some h;obtain ⟨wr,h2,h⟩ := bind_some h;refine Ro.p (bool_of hk) ?_;refine Ro.d (mkE [(2,.ptr b2 0 0),(0,Zl (EI .i64) o),(0,Zl (EL (EI .i64)) was),(3,.ptr b8 0 0),(7,.int .i64 x),(0,Zl (EI .i64) nw),(0,.int .i64 y),(0,.ptr b19 0 0),(94,Zl (EL (EI .i64)) now),(0,.int .i64 (ln now)),(0,.int .i64 x),(9,w),(0,.int .i64 (n : Int)),(0,.int .i64 y),(6,.bool true)] 28) ?_;refine Run.condT (by kernel_rfl) ?_;refine Run.rgn ?_;refine Ro.t 1 ?_;refine Ro.p (hp.ld 0 (off := 3) (n := none) (v := (EL (EI .i64)).e z.fArgs) rfl rfl) ?_;refine Ro.t 3 ?_;refine Ro.p (idx_fz (EI .i64) (l := o) (i := x) (a := k) .i64 (by rw [hxi]; exact h1)) ?_;refine Ro.t 1 ?_;refine Ro.p (idx_fz (EL (EI .i64)) (l := was) (i := k) (a := wr) .i64 h2) ?_;refine Ro.t 3 ?_;refine RunO.c2 (by kernel_rfl) (by kernel_rfl) (by kernel_rfl) (c47 h false) ?_;refine Ro.t 1 ?_;refine RunO.st hp (by kernel_rfl) 0 (off := 3) (v := (EL (EI .i64)).e a) (cs' := E_Ins.c { z with fArgs := a }) rfl (by kernel_rfl) (by kernel_rfl) (by kernel_rfl) ?_;intro H hp;exact RunO.nil ⟨rfl,by kernel_rfl,hp⟩
theorem ins25 {b2 b8 : Nat} {o : List Int} {was now : List (List Int)} {i : Nat} {x : Int} (hxi : x = (i : Int)) {nw : List Int} {x0 : T_Graph} {tl : List Ob} {l2 : List T_Ins} (Q : X → List V → Heap → Prop) {rows : List RB} {ob : Option (Nat × Nat)} {r : RB} {H : Heap}
    (hi : rows[i]? = some r) (hok : ∀ q ∈ rows,q.ok) (hbig : r.l.length ≤ 140737488355328)
    (hp : HP H ((some (b8,0),OC x0 (slv 6 true rows.length ob)) :: (ob,rbs rows ++ []) :: robs rows.reverse ++ tl)) (h : omap (insT was o i nw) r.l = some l2)
    (hq : ∀ (r' : RB) (H' : Heap) (e' : List V),r'.ok → r'.w = r.w → r'.t = r.t → r'.l = l2 → clrEnv [16,17,18,19,118,119,120,121,122,123,124,125,126,127,128,129,130,131,132,133,134,135,136,137,138,139,140,141,142,143,144,145,146,147,148,149,150,151,152,153,154,155,156,157,158,159,160,161] e' = e25Q b2 b8 o was now x →
      HP H' ((some (b8,0),OC x0 (slv 6 true rows.length ob)) :: (ob,rbs rows ++ []) :: robs (rows.set i r').reverse ++ tl) → Q .nrm e' H') :
    Run T i25n77 (e25R b2 b8 o was now x nw r.w r.l.length 0) H Q := by
  have hil : i < rows.length := (List.getElem?_eq_some_iff.mp hi).1;have hrok := hok r (List.mem_of_getElem? hi);refine Run.block ?_;refine Run.loopc (fun m e h => ∃ (k : Nat) (y : Int) (l lt : List T_Ins),y = (k : Int) ∧ k ≤ r.l.length ∧ m = r.l.length - k ∧ l.length = r.l.length ∧ omap (insT was o i nw) (l.drop k) = some lt ∧ l.take k ++ lt = l2 ∧
      HP h ((some (b8,0),OC x0 (slv 6 true rows.length ob)) :: (ob,rbs rows ++ []) :: robs (rows.set i ⟨r.o,r.w,l,r.t⟩).reverse ++ tl) ∧ e = e25R b2 b8 o was now x nw r.w r.l.length y) r.l.length
    ⟨0,0,r.l,l2,rfl,by omega,by omega,rfl,h,rfl,by rw [show (⟨r.o,r.w,r.l,r.t⟩ : RB) = r from rfl,set_self hi]; exact hp,by kernel_rfl⟩ ?_
  rintro m e H ⟨k,y,l,lt,hy,hk,rfl,hll,hlt,hl2,hp,rfl⟩;refine Rn.g ?_;refine Ro.t 1 ?_;refine Ro.d (mkE [(2,.ptr b2 0 0),(0,Zl (EI .i64) o),(0,Zl (EL (EI .i64)) was),(3,.ptr b8 0 0),(7,.int .i64 x),(0,Zl (EI .i64) nw),(96,Zl (EL (EI .i64)) now),(0,.int .i64 (ln now)),(0,.int .i64 x),(9,r.w),(0,.int .i64 ((r.l.length : Nat) : Int)),(0,.int .i64 y),(0,.bool (decide (y < ((r.l.length : Nat) : Int))))] 34) ?_;refine Run.seq ?_
  by_cases hkl : k < r.l.length
  · refine Run.condT (by rw [decide_eq_true (show y < ((r.l.length : Nat) : Int) by omega)]; kernel_rfl) ?_;refine Run.skip ?_;refine Rn.c (e25R b2 b8 o was now x nw r.w r.l.length y) ?_;have hkl' : k < l.length := by omega
    have hz : l[k]? = some l[k] := List.getElem?_eq_getElem hkl';have hdrop : l.drop k = l[k] :: l.drop (k + 1) := List.drop_eq_getElem_cons hkl';rw [hdrop] at hlt
    generalize l[k] = z at hz hlt hdrop
    simp only [omap] at hlt
    split at hlt
    case h_2 => cases hlt
    rename_i z' lt' hins hrest
    cases hlt;unfold insT at hins;obtain ⟨a,ha,hins⟩ := bind_some hins;obtain ⟨a',hclo,rfl⟩ := Option.map_eq_some_iff.1 hins;obtain ⟨rfl,hclb⟩ := clo_spec hclo;have hri : (rows.set i ⟨r.o,r.w,l,r.t⟩)[i]? = some ⟨r.o,r.w,l,r.t⟩ := by rw [List.getElem?_set_self hil]
    have hpos := rrev hri;rw [List.length_set] at hpos;have hidx : ((some (b8,0),OC x0 (slv 6 true rows.length ob)) :: (ob,rbs rows ++ []) :: robs (rows.set i ⟨r.o,r.w,l,r.t⟩).reverse ++ tl)[2 + (rows.length - 1 - i)]? = some (r.o,l.flatMap E_Ins.c ++ []) := by
      rw [show 2 + (rows.length - 1 - i) = (rows.length - 1 - i) + 1 + 1 by omega,List.cons_append,List.cons_append,List.getElem?_cons_succ,List.getElem?_cons_succ,List.getElem?_append_left (List.getElem?_eq_some_iff.mp hpos).1];exact hpos
    have hw : r.w = slv E_Ins.z E_Ins.ag l.length r.o := by
      rcases hrok with h | ⟨h1,_,_⟩
      · rw [h,hll]; rfl
      · rw [h1] at hkl; simp at hkl
    have hzi : idx l y = some z := by rw [hy]; exact idx_some hz
    obtain ⟨b',g',hro,hia⟩ := own_idx E_Ins hp _ hidx hzi;rw [← hw] at hia;refine Run.seq ?_;refine Run.block ?_;refine Rn.g ?_;refine Ro.t 1 ?_;refine Ro.p (hia .i64) ?_;have hidx2 := hidx.trans (show some (r.o,l.flatMap E_Ins.c ++ []) = some (some (b',g'),l.flatMap E_Ins.c ++ []) by rw [hro]);refine Ro.p (own_ld E_Ins hp _ hidx2 hzi (off := 0) (n := some 6) (v := E_Ins.e z) rfl) ?_;refine RunO.alloc hp (by kernel_rfl) ?_;intro b19 H hp;refine Ro.t 1 ?_;refine RunO.st hp (by kernel_rfl) 0 (off := 0) (v := E_Ins.e z) (cs' := E_Ins.c z) rfl (by kernel_rfl) (by kernel_rfl) (by kernel_rfl) ?_;intro H hp;refine Ro.d (e25S b2 b8 b19 o was now x nw r.w r.l.length y) ?_;refine Run.seq ?_;refine (args25 hxi hp ha).mono ?_;rintro X e H ⟨rfl,he,hp⟩;show Run T (.clr cl68 (.rgn i25r68)) _ _ _;refine Run.clr ?_;rw [he];refine Run.rgn ?_;obtain ⟨bb,gg,rfl,hib⟩ := rb_idx hp 2 rfl hil;refine Ro.t 1 ?_;refine Ro.p (hp.ld 1 (off := 5) (n := none) (v := slv 6 true rows.length (some (bb,gg))) rfl rfl) ?_;refine Ro.t 1 ?_;refine Ro.p (v := idxaV (slv 6 true rows.length (some (bb,gg))) (.int .i64 x) 6 true) (u := .ptr bb gg (i * 6)) (by rw [hxi]; exact hib .i64) ?_;refine Ro.t 1 ?_;refine Ro.p (rb_ld hp 2 rfl hi) ?_;refine Ro.t 2 ?_;refine Ro.p (hp.ld 0 (off := 3) (n := none) (v := (EL (EI .i64)).e a') rfl rfl) ?_;refine RunO.cl (EI .i64) (n := 43) (by_ := 8) (zero := .int .i64 0) (by kernel_rfl) (l := a') (by kernel_rfl) t43 rfl cl43' hclb ?_;refine Ro.p (hia .i64) ?_;refine Ro.t 1 ?_;refine RunO.st hp (by kernel_rfl) (1 + (2 + (rows.length - 1 - i))) (off := y.toNat * E_Ins.z + 3) (v := (EL (EI .i64)).e a') (by rw [Nat.add_comm,List.getElem?_cons_succ]; exact hidx2) (by kernel_rfl) (by kernel_rfl) (own_stf E_Ins hzi (a' := { z with fArgs := a' }) (off := 3) (by decide) rfl rfl) ?_;intro H hp;refine RunO.nil ?_;show Run T (.clr _ (.rgn i25r72)) _ _ _;refine Rn.k (e25R b2 b8 o was now x nw r.w r.l.length y) ?_;have hadd : IntKind.i64.wrap (y + 1) = ((k + 1 : Nat) : Int) := by rw [hy,wrap64_in (by omega) (by omega)]; omega
    have hyk : y.toNat = k := by omega
    refine Run.rgn (Ro.t 2 (RunO.nil ⟨r.l.length - (k + 1),by omega,k + 1,_,l.set k { z with fArgs := a' },lt',hadd,by omega,rfl,by simpa using hll,?_,?_,?_,by kernel_rfl⟩))
    · rw [List.drop_set_of_lt (by omega)]; exact hrest
    · rw [← hl2];have e : (l.set k { z with fArgs := a' }).take (k + 1) = l.take k ++ [{ z with fArgs := a' }] := by
        rw [List.take_succ_eq_append_getElem (by simpa using hkl'),List.getElem_set_self,List.take_set_of_le (Nat.le_refl _)]
      rw [e]; simp
    · have hp2 := hp.del 0;rw [Nat.add_comm 1,List.set_cons_succ,List.eraseIdx_cons_zero] at hp2;rw [show 2 + (rows.length - 1 - i) = (rows.length - 1 - i) + 1 + 1 by omega,List.cons_append,List.cons_append,List.set_cons_succ,List.set_cons_succ,List.set_append_left _ _ (by have := (List.getElem?_eq_some_iff.mp hpos).1; exact this),hyk,← hro] at hp2;have hs := rrev_set (rows := rows.set i ⟨r.o,r.w,l,r.t⟩) (i := i) (by simpa using hil) ⟨r.o,r.w,l.set k { z with fArgs := a' },r.t⟩;rw [List.length_set,List.set_set] at hs;rw [← hs];exact hp2
  · refine Run.condF (by rw [decide_eq_false (show ¬ y < ((r.l.length : Nat) : Int) by omega)]; kernel_rfl) ?_;refine Run.exit ?_;have hk2 : k = r.l.length := by omega
    subst hk2;rw [List.drop_of_length_le (by omega)] at hlt;cases hlt;rw [List.take_of_length_le (by omega),List.append_nil] at hl2;subst hl2;refine hq ⟨r.o,r.w,l,r.t⟩ H _ ?_ rfl rfl rfl (by kernel_rfl) hp;rcases hrok with h | ⟨h1,h2,h3⟩
    · exact .inl (by show r.w = slv 6 true l.length r.o; rw [h,hll])
    · refine .inr ⟨?_,h2,h3⟩;exact List.eq_nil_of_length_eq_zero (by rw [h1] at hll; simpa using hll)
end Go.Eng.Gra
namespace Go.Eng.Gra
open Go Go.Eng
set_option linter.unusedSectionVars false
set_option linter.unusedVariables false
set_option linter.unusedSimpArgs false
set_option maxRecDepth 20000
abbrev ZG : List V := [(.str ⟨#[]⟩),.nils,(.int .u8 0),.nils,.nils,.nils]
def blocksOf (g : T_Graph) (bs : List T_Block) : T_Graph := { g with fBlocks := bs }
theorem deep_out {H : Heap} {x0 : T_Graph} {n : Nat} {ob : Option (Nat × Nat)} {bs : List T_Block} (h : deep false H 39 (slv 6 true n ob) = some ((EL E_Block).e bs)) :
    deep false H deepN (.ag (OC x0 (slv 6 true n ob))) = some (E_Graph.e (blocksOf x0 bs)) := by
  have : omap (deep false H 39) (OC x0 (slv 6 true n ob)) = some (E_Graph.c (blocksOf x0 bs)) :=
    omapc rfl (omapc rfl (omapc rfl (omapc rfl (omapc rfl (omapc h rfl)))))
  show (omap (deep false H 39) _).map V.ag = _;rw [this]; rfl
theorem rows_deep2 {H : Heap} {A : Ob} {ob : Option (Nat × Nat)} {rows : List RB} {tl : List Ob} (hp : HP H (A :: (ob,rbs rows ++ []) :: robs rows.reverse ++ tl)) (hok : ∀ q ∈ rows,q.ok) : deep false H 39 (slv 6 true rows.length ob) = some ((EL E_Block).e (rows.map RB.b)) := by
  refine deep_rbs hp 1 rfl (fun r hr => ⟨hok r hr,?_⟩) 31;obtain ⟨i,hi⟩ := List.getElem?_of_mem hr;have h := rrev hi;refine ⟨2 + (rows.length - 1 - i),?_⟩;rw [show 2 + (rows.length - 1 - i) = (rows.length - 1 - i) + 1 + 1 by omega,List.cons_append,List.cons_append,List.getElem?_cons_succ,List.getElem?_cons_succ,List.getElem?_append_left (List.getElem?_eq_some_iff.mp h).1];exact h
theorem omap_len {α β : Type} {f : α → Option β} : ∀ {l : List α} {r : List β},omap f l = some r → r.length = l.length
  | [],r,h => by simp [omap] at h; simp [h]
  | a :: l,r,h => by
    simp only [omap] at h
    split at h
    · rename_i b r' h1 h2; cases h; simp [omap_len h2]
    · cases h
theorem half25 {b2 b8 : Nat} {o : List Int} {was now : List (List Int)} {x0 : T_Graph} {tl : List Ob} {bs2 : List T_Block} {rows0 : List RB} {ob : Option (Nat × Nat)} {H : Heap} (Q : X → List V → Heap → Prop)
    (hok0 : ∀ q ∈ rows0,q.ok) (hbig0 : ∀ q ∈ rows0,q.l.length ≤ 140737488355328) (hnl : now.length = rows0.length) (hsm : rows0.length ≤ 1048576)
    (hp : HP H ((some (b8,0),OC x0 (slv 6 true rows0.length ob)) :: (ob,rbs rows0 ++ []) :: robs rows0.reverse ++ tl)) (h : rowsT was o now 0 (rows0.map RB.b) = some bs2)
    (hq : ∀ (rows : List RB) (H' : Heap) (e' : List V),(∀ q ∈ rows,q.ok) → rows.map RB.b = bs2 → rows.length = rows0.length → clrEnv [3,4,16,17,18,19,113,114,115,116,117,118,119,120,121,122,123,124,125,126,127,128,129,130,131,132,133,134,135,136,137,138,139,140,141,142,143,144,145,146,147,148,149,150,151,152,153,154,155,156,157,158,159,160,161,162] e' = (mkE [(2,.ptr b2 0 0),(5,.ptr b8 0 0)] 155) →
      HP H' ((some (b8,0),OC x0 (slv 6 true rows.length ob)) :: (ob,rbs rows ++ []) :: robs rows.reverse ++ tl) → Q .nrm e' H') :
    Run T i25n86 (e25Q b2 b8 o was now 0) H Q := by
  refine Run.block ?_;refine Run.loopc (fun m e h => ∃ (i : Nat) (x : Int) (rows : List RB) (bt : List T_Block),x = (i : Int) ∧ i ≤ rows0.length ∧ m = rows0.length - i ∧ rows.length = rows0.length ∧ (∀ q ∈ rows,q.ok) ∧ rows.drop i = rows0.drop i ∧ rowsT was o now i ((rows.drop i).map RB.b) = some bt ∧ (rows.take i).map RB.b ++ bt = bs2 ∧
      HP h ((some (b8,0),OC x0 (slv 6 true rows.length ob)) :: (ob,rbs rows ++ []) :: robs rows.reverse ++ tl) ∧ e = e25Q b2 b8 o was now x) rows0.length
    ⟨0,0,rows0,bs2,rfl,by omega,by omega,rfl,hok0,rfl,h,rfl,hp,by kernel_rfl⟩ ?_
  rintro m e H ⟨i,x,rows,bt,hx,hi,rfl,hrl,hok,hdr,hrows,hbs,hp,rfl⟩;refine Rn.g ?_;refine Ro.t 1 ?_;refine Ro.d (mkE [(2,.ptr b2 0 0),(0,Zl (EI .i64) o),(0,Zl (EL (EI .i64)) was),(3,.ptr b8 0 0),(105,Zl (EL (EI .i64)) now),(0,.int .i64 (ln now)),(0,.int .i64 x),(0,.bool (decide (x < (ln now))))] 46) ?_;refine Run.seq ?_
  by_cases hlt : i < rows0.length
  · refine Run.condT (by rw [decide_eq_true (show x < ln now by show x < ((List.length now : Nat) : Int); omega)]; kernel_rfl) ?_;refine Run.skip ?_;refine Rn.c (e25Q b2 b8 o was now x) ?_;have hil : i < rows.length := by omega
    have hr : rows[i]? = some rows[i] := List.getElem?_eq_getElem hil;have hdrop : rows.drop i = rows[i] :: rows.drop (i + 1) := List.drop_eq_getElem_cons hil;have hbigr : rows[i].l.length ≤ 140737488355328 := by
      have h0 : rows0[i]? = some rows[i] := by
        have := congrArg (·[0]?) hdr;simp only [List.getElem?_drop,Nat.add_zero] at this;rw [← this]; exact hr
      exact hbig0 _ (List.mem_of_getElem? h0)
    rw [hdrop] at hrows
    generalize rows[i] = r at hr hdrop hrows hbigr
    simp only [List.map_cons,rowsT] at hrows;obtain ⟨nw,hnw,hrows⟩ := bind_some hrows;obtain ⟨l2,hl2,hrows⟩ := bind_some hrows;obtain ⟨bt',hbt,rfl⟩ := Option.map_eq_some_iff.1 hrows;refine Run.seq ?_;refine Run.block ?_;refine Rn.g ?_;refine Ro.t 1 ?_;refine Ro.p (idx_fz (EL (EI .i64)) (l := now) (i := x) (a := nw) .i64 (by rw [hx]; exact hnw)) ?_;refine Ro.t 3 ?_;refine Ro.d (mkE [(2,.ptr b2 0 0),(0,Zl (EI .i64) o),(0,Zl (EL (EI .i64)) was),(3,.ptr b8 0 0),(7,.int .i64 x),(0,Zl (EI .i64) nw),(96,Zl (EL (EI .i64)) now),(0,.int .i64 (ln now)),(0,.int .i64 x)] 47) ?_;refine Rn.g ?_;obtain ⟨bb,gg,rfl,hib⟩ := rb_idx hp 1 rfl hil;refine Ro.t 1 ?_;refine Ro.p (hp.ld 0 (off := 5) (n := none) (v := slv 6 true rows.length (some (bb,gg))) rfl rfl) ?_;refine Ro.t 1 ?_;refine Ro.p (v := idxaV (slv 6 true rows.length (some (bb,gg))) (.int .i64 x) 6 true) (u := .ptr bb gg (i * 6)) (by rw [hx]; exact hib .i64) ?_;refine Ro.t 1 ?_;refine Ro.p (rb_ld hp 1 rfl hr) ?_;have hpos := rrev hr;have hidx : ((some (b8,0),OC x0 (slv 6 true rows.length (some (bb,gg)))) :: (some (bb,gg),rbs rows ++ []) :: robs rows.reverse ++ tl)[2 + (rows.length - 1 - i)]? = some r.ob := by
      rw [show 2 + (rows.length - 1 - i) = (rows.length - 1 - i) + 1 + 1 by omega,List.cons_append,List.cons_append,List.getElem?_cons_succ,List.getElem?_cons_succ,List.getElem?_append_left (List.getElem?_eq_some_iff.mp hpos).1];exact hpos
    refine Ro.p (rb_len hp _ hidx (hok r (List.mem_of_getElem? hr))) ?_;refine Ro.t 1 ?_;refine Ro.d (e25R b2 b8 o was now x nw r.w r.l.length 0) ?_;refine ins25 hx _ hr hok hbigr hp hl2 (fun r' H' e' h1 h2 h3 h4 he hp' => ?_);show Run T (.clr _ (.rgn i25r81)) _ _ _;refine Run.clr ?_;rw [he];have hadd : IntKind.i64.wrap (x + 1) = ((i + 1 : Nat) : Int) := by rw [hx,wrap64_in (by omega) (by omega)]; omega
    have hrc : r'.c = r.c := by unfold RB.c; rw [h2,h3]
    refine Run.rgn (Ro.t 2 (RunO.nil ⟨rows0.length - (i + 1),by omega,i + 1,_,rows.set i r',bt',hadd,by omega,rfl,by simpa using hrl,?_,?_,?_,?_,?_,by kernel_rfl⟩))
    · intro q hq';rcases List.mem_or_eq_of_mem_set hq' with h | h
      · exact hok q h
      · rw [h]; exact h1
    · rw [List.drop_set_of_lt (by omega),← List.drop_drop,← List.drop_drop,hdr]
    · rw [List.drop_set_of_lt (by omega)]; exact hbt
    · rw [← hbs];have e : (rows.set i r').take (i + 1) = rows.take i ++ [r'] := by
        rw [List.take_succ_eq_append_getElem (by simpa using hil),List.getElem_set_self,List.take_set_of_le (Nat.le_refl _)]
      have eb : r'.b = ⟨l2,r.b.fTerm⟩ := by unfold RB.b; rw [h3,h4]
      rw [e,List.map_append,List.map_cons,List.map_nil,eb,List.append_assoc]; rfl
    · rw [rbs_set hr hrc,List.length_set]; exact hp'
  · refine Run.condF (by rw [decide_eq_false (show ¬ x < ln now by show ¬ x < ((List.length now : Nat) : Int); omega)]; kernel_rfl) ?_;refine Run.exit ?_;have hi2 : i = rows.length := by omega
    subst hi2;rw [List.drop_length] at hrows;cases hrows;rw [List.take_length,List.append_nil] at hbs;exact hq rows H _ hok hbs hrl (by kernel_rfl) hp
end Go.Eng.Gra
namespace Go.Eng.Gra
open Go Go.Eng
set_option linter.unusedSectionVars false
set_option linter.unusedVariables false
set_option linter.unusedSimpArgs false
set_option maxRecDepth 20000
abbrev OP (b5 : Nat) (pl : List Int) : Ob := (some (b5,0),pl.flatMap (EI .i64).c ++ [])
def e25B (b2 b5 : Nat) (G : V) (o : List Int) (was : List (List Int)) (n : Nat) : List V := (mkE [(1,.fp G),(0,.ptr b2 0 0),(0,Zl (EI .i64) o),(0,Zl (EL (EI .i64)) was),(0,slv 1 false n (some (b5,0)))] 158)
theorem upd_idx {l l' : List Int} {k v : Int} (h : upd l k v = some l') : ∃ a,idx l k = some a := by
  unfold upd at h
  split at h
  · rename_i hc
    exact ⟨_,by unfold idx; rw [if_pos hc.1]; exact List.getElem?_eq_getElem (by omega)⟩
  · cases h
theorem pl25 {b2 b5 : Nat} {G : V} {o : List Int} {was : List (List Int)} {pl0 pl : List Int} {H : Heap} {L : List Ob} (Q : X → List V → Heap → Prop)
    (hp : HP H (OP b5 pl0 :: L)) (h : setAt o 0 pl0 = some pl) (ho : o.length ≤ 1048576)
    (hq : ∀ (H' : Heap) (e' : List V),clrEnv [6,7,28,29,30,31,32,33,34,35,36,37,38,39,40] e' = e25B b2 b5 G o was pl0.length → HP H' (OP b5 pl :: L) → Q .nrm e' H') :
    Run T i25n16 (e25B b2 b5 G o was pl0.length) H Q := by
  refine Rn.g ?_;refine Ro.t 1 ?_;refine Ro.p (len_fz (EI .i64) o) ?_;refine Ro.t 1 ?_;refine Ro.d (e25A b2 b5 G o was pl0.length 0) ?_;refine Run.block ?_;refine Run.loopc (fun m e h => ∃ (i : Nat) (x : Int) (pl1 : List Int),x = (i : Int) ∧ i ≤ o.length ∧ m = o.length - i ∧ pl1.length = pl0.length ∧ setAt (o.drop i) i pl1 = some pl ∧ HP h (OP b5 pl1 :: L) ∧ e = e25A b2 b5 G o was pl0.length x) o.length
    ⟨0,0,pl0,rfl,by omega,by omega,rfl,h,hp,by kernel_rfl⟩ ?_
  rintro m e H ⟨i,x,pl1,hx,hi,rfl,hpl,hset,hp,rfl⟩;refine Rn.g ?_;refine Ro.t 1 ?_;refine Ro.d (mkE [(1,.fp G),(0,.ptr b2 0 0),(0,Zl (EI .i64) o),(0,Zl (EL (EI .i64)) was),(0,slv 1 false pl0.length (some (b5,0))),(22,Zl (EI .i64) o),(0,.int .i64 (ln o)),(0,.int .i64 x),(0,.bool (decide (x < (ln o))))] 132) ?_;refine Run.seq ?_
  by_cases hlt : i < o.length
  · refine Run.condT (by rw [decide_eq_true (show x < ln o by show x < ((List.length o : Nat) : Int); omega)]; kernel_rfl) ?_;refine Run.skip ?_;refine Rn.c (e25A b2 b5 G o was pl0.length x) ?_;have hk : o[i]? = some o[i] := List.getElem?_eq_getElem hlt;have hdrop : o.drop i = o[i] :: o.drop (i + 1) := List.drop_eq_getElem_cons hlt;rw [hdrop] at hset
    generalize o[i] = k at hk hdrop hset
    simp only [setAt] at hset;obtain ⟨pl2,hu,hset⟩ := bind_some hset;refine Run.seq ?_;refine Run.block ?_;refine Rn.g ?_;refine Ro.t 1 ?_;refine Ro.p (idx_fz (EI .i64) (l := o) (i := x) (a := k) .i64 (by rw [hx]; exact idx_some hk)) ?_;refine Ro.t 3 ?_;refine Ro.d (mkE [(1,.fp G),(0,.ptr b2 0 0),(0,Zl (EI .i64) o),(0,Zl (EL (EI .i64)) was),(0,slv 1 false pl0.length (some (b5,0))),(0,.int .i64 x),(0,.int .i64 k),(20,Zl (EI .i64) o),(0,.int .i64 (ln o)),(0,.int .i64 x)] 133) ?_;obtain ⟨a,ha⟩ := upd_idx hu;obtain ⟨b',g',hro,hia⟩ := own_idx (EI .i64) hp 0 rfl ha;cases hro;have hwx : IntKind.i64.wrap (x + 1) = ((i + 1 : Nat) : Int) := by rw [hx,wrap64_in (by omega) (by omega)]; omega
    rw [hpl] at hia;refine Run.rgn ?_;refine Ro.t 4 ?_;refine Ro.p (hia .i64) ?_;refine RunO.st hp (by kernel_rfl) 0 (off := k.toNat * (EI .i64).z) (v := (EI .i64).e ((i + 1 : Nat) : Int)) (cs' := pl2.flatMap (EI .i64).c ++ []) rfl (by kernel_rfl) (by rw [← hwx]; kernel_rfl) (own_st (EI .i64) hu) ?_;intro H hp;refine RunO.nil ?_;show Run T (.clr _ (.rgn i25r10)) _ _ _;refine Rn.k (e25A b2 b5 G o was pl0.length x) ?_;exact Run.rgn (Ro.t 2 (RunO.nil ⟨o.length - (i + 1),by omega,i + 1,_,pl2,hwx,by omega,rfl,by rw [upd_len hu]; exact hpl,hset,hp,by kernel_rfl⟩))
  · refine Run.condF (by rw [decide_eq_false (show ¬ x < ln o by show ¬ x < ((List.length o : Nat) : Int); omega)]; kernel_rfl) ?_;refine Run.exit ?_;have hi2 : i = o.length := by omega
    subst hi2;rw [List.drop_length] at hset;cases hset;exact hq H _ (by kernel_rfl) hp
theorem two25 {b2 b5 b8 b11 b12 : Nat} {G vo vw vl vi : V} {pl : List Int} {t t2 : T_Term} {H : Heap} {L : List Ob} (Q : X → List V → Heap → Prop) {i : Nat} (hi : L[i]? = some (OP b5 pl))
    (hp : HP H ((some (b12,0),E_Term.c t) :: L)) (h : trTm pl t = some t2)
    (hq : ∀ (H' : Heap) (e' : List V),clrEnv [13,14,15,68,69,70,71,72,73,74,75,76,77,78,79,80,81,82,83,84,85,86,87,88,89,90,91,92,93,94,95,96,97,98,99,100,101] e' = e25K b2 b5 b8 b11 b12 G vo vw vl vi pl → HP H' ((some (b12,0),E_Term.c t2) :: L) → Q .nrm e' H') :
    Run T i25n42 (e25K b2 b5 b8 b11 b12 G vo vw vl vi pl) H Q := by
  unfold trTm at h;obtain ⟨a,ha,h⟩ := bind_some h;obtain ⟨b,hb,rfl⟩ := Option.map_eq_some_iff.1 h;refine Rn.g ?_;refine Ro.t 1 ?_;refine Ro.p (hp.ld 0 (off := 2) (n := some 2) (v := .ag [.int .i64 t.fTo.a0,.int .i64 t.fTo.a1]) rfl rfl) ?_;refine Ro.t 1 ?_;refine Ro.d (e25L b2 b5 b8 b11 b12 G vo vw vl vi pl t.fTo 0) ?_;refine Run.block ?_;refine Run.loopc (fun m e h => ∃ (k : Nat) (tk : T_Term),(k = 0 ∧ m = 2 ∧ tk = t ∨ k = 1 ∧ m = 1 ∧ tk = setTo t 0 a ∨ k = 2 ∧ m = 0 ∧ tk = { t with fTo := ⟨a,b⟩ }) ∧ HP h ((some (b12,0),E_Term.c tk) :: L) ∧ e = e25L b2 b5 b8 b11 b12 G vo vw vl vi pl t.fTo k) 2
    ⟨0,t,.inl ⟨rfl,rfl,rfl⟩,hp,by kernel_rfl⟩ ?_
  rintro m e H ⟨k,tk,hk,hp1,rfl⟩;refine Rn.g ?_;refine Ro.t 1 ?_;rcases hk with ⟨rfl,rfl,rfl⟩ | ⟨rfl,rfl,rfl⟩ | ⟨rfl,rfl,rfl⟩
  · refine Ro.d (mkE [(1,.fp G),(0,.ptr b2 0 0),(0,vo),(0,vw),(0,slv 1 false pl.length (some (b5,0))),(2,.ptr b8 0 0),(2,.ptr b11 0 0),(0,.ptr b12 0 0),(42,vo),(0,vl),(0,vi),(11,.ag [.int .i64 tk.fTo.a0,.int .i64 tk.fTo.a1]),(0,.int .i64 0),(0,.bool true)] 92) ?_;refine Run.seq (Run.condT (by kernel_rfl) (Run.skip ?_));refine Rn.c (e25L b2 b5 b8 b11 b12 G vo vw vl vi pl tk.fTo 0) ?_;refine Run.seq (Run.block ?_);refine Rn.g ?_;refine Ro.t 4 ?_;refine Ro.d (e25M b2 b5 b8 b11 b12 G vo vw vl vi pl tk.fTo 0 (getTo tk 0)) ?_;refine (round25 hp1 hi 0 (.inl rfl) ha).mono ?_;rintro X e H ⟨rfl,he,hp2⟩;show Run T (.clr cl25 (.rgn i25r36)) _ _ _;refine Run.clr ?_;rw [he];exact Run.rgn (Ro.t 2 (RunO.nil ⟨1,by omega,1,_,.inr (.inl ⟨rfl,rfl,rfl⟩),hp2,by kernel_rfl⟩))
  · refine Ro.d (mkE [(1,.fp G),(0,.ptr b2 0 0),(0,vo),(0,vw),(0,slv 1 false pl.length (some (b5,0))),(2,.ptr b8 0 0),(2,.ptr b11 0 0),(0,.ptr b12 0 0),(42,vo),(0,vl),(0,vi),(11,.ag [.int .i64 t.fTo.a0,.int .i64 t.fTo.a1]),(0,.int .i64 1),(0,.bool true)] 92) ?_;refine Run.seq (Run.condT (by kernel_rfl) (Run.skip ?_));refine Rn.c (e25L b2 b5 b8 b11 b12 G vo vw vl vi pl t.fTo 1) ?_;refine Run.seq (Run.block ?_);refine Rn.g ?_;refine Ro.t 4 ?_;refine Ro.d (e25M b2 b5 b8 b11 b12 G vo vw vl vi pl t.fTo 1 (getTo (setTo t 0 a) 1)) ?_;refine (round25 hp1 hi 1 (.inr rfl) (to' := b) (by rw [trTo_get]; exact hb)).mono ?_;rintro X e H ⟨rfl,he,hp2⟩;show Run T (.clr cl25 (.rgn i25r36)) _ _ _;refine Run.clr ?_;rw [he];exact Run.rgn (Ro.t 2 (RunO.nil ⟨0,by omega,2,_,.inr (.inr ⟨rfl,rfl,rfl⟩),hp2,by kernel_rfl⟩))
  · refine Ro.d (mkE [(1,.fp G),(0,.ptr b2 0 0),(0,vo),(0,vw),(0,slv 1 false pl.length (some (b5,0))),(2,.ptr b8 0 0),(2,.ptr b11 0 0),(0,.ptr b12 0 0),(42,vo),(0,vl),(0,vi),(11,.ag [.int .i64 t.fTo.a0,.int .i64 t.fTo.a1]),(0,.int .i64 2),(0,.bool false)] 92) ?_;refine Run.seq (Run.condF (by kernel_rfl) (Run.exit ?_));exact hq H _ (by kernel_rfl) hp1
theorem tl0 {A B C p q : Ob} {R : List Ob} : (A :: B :: C :: R ++ [p,q])[3 + R.length]? = some p := by
  rw [show 3 + R.length = R.length + 1 + 1 + 1 by omega,List.cons_append,List.cons_append,List.cons_append,List.getElem?_cons_succ,List.getElem?_cons_succ,List.getElem?_cons_succ,List.getElem?_append_right (Nat.le_refl _),Nat.sub_self]; rfl
theorem tl1 {A B p q : Ob} {R : List Ob} : (A :: B :: R ++ [p,q])[3 + R.length]? = some q := by
  rw [show 3 + R.length = R.length + 1 + 1 + 1 by omega,List.cons_append,List.cons_append,List.getElem?_cons_succ,List.getElem?_cons_succ,List.getElem?_append_right (by omega),show R.length + 1 - R.length = 1 by omega]; rfl
theorem tl_set {A B p q q' : Ob} {R : List Ob} : (A :: B :: R ++ [p,q]).set (3 + R.length) q' = A :: B :: R ++ [p,q'] := by
  rw [show 3 + R.length = R.length + 1 + 1 + 1 by omega,List.cons_append,List.cons_append,List.set_cons_succ,List.set_cons_succ,List.set_append_right _ _ (by omega),show R.length + 1 - R.length = 1 by omega]; rfl
theorem bl25 {b2 b5 b8 : Nat} {o : List Int} {was : List (List Int)} {x0 : T_Graph} {pl : List Int} {bs1 : List T_Block} {H : Heap} (Q : X → List V → Heap → Prop) (ho : o.length ≤ 1048576)
    (hp : HP H [(some (b8,0),OC x0 .nils),OP b5 pl,(some (b2,0),ZG)]) (h : omap (trB x0.fBlocks pl) o = some bs1)
    (hq : ∀ (rows : List RB) (ob : Option (Nat × Nat)) (H' : Heap) (e' : List V),(∀ q ∈ rows,q.ok) → rows.map RB.b = bs1 → (∀ q ∈ rows,q.l.length ≤ 140737488355328) → clrEnv [1,5,10,11,12,13,14,15,55,56,57,58,59,60,61,62,63,64,65,66,67,68,69,70,71,72,73,74,75,76,77,78,79,80,81,82,83,84,85,86,87,88,89,90,91,92,93,94,95,96,97,98,99,100,101,102,103,104,105,106,107,108,109,110,111,112] e' = (mkE [(2,.ptr b2 0 0),(0,Zl (EI .i64) o),(0,Zl (EL (EI .i64)) was),(3,.ptr b8 0 0)] 155) →
      HP H' ((some (b8,0),OC x0 (slv 6 true rows.length ob)) :: (ob,rbs rows ++ []) :: robs rows.reverse ++ [OP b5 pl,(some (b2,0),ZG)]) → Q .nrm e' H') :
    Run T i25n55 (mkE [(1,.fp (E_Graph.e x0)),(0,.ptr b2 0 0),(0,Zl (EI .i64) o),(0,Zl (EL (EI .i64)) was),(0,slv 1 false pl.length (some (b5,0))),(2,.ptr b8 0 0)] 155) H Q := by
  refine Rn.g ?_;refine Ro.t 1 ?_;refine Ro.p (len_fz (EI .i64) o) ?_;refine Ro.t 1 ?_;refine Ro.d (e25J b2 b5 b8 (E_Graph.e x0) (Zl (EI .i64) o) (Zl (EL (EI .i64)) was) (.int .i64 (ln o)) (.int .i64 0) pl) ?_;refine Run.block ?_;refine Run.loopc (fun m e h => ∃ (i : Nat) (x : Int) (rows : List RB) (ob : Option (Nat × Nat)) (bt : List T_Block),x = (i : Int) ∧ i ≤ o.length ∧ m = o.length - i ∧ rows.length = i ∧ (∀ q ∈ rows,q.ok) ∧ (∀ q ∈ rows,q.l.length ≤ 140737488355328) ∧ omap (trB x0.fBlocks pl) (o.drop i) = some bt ∧ rows.map RB.b ++ bt = bs1 ∧
      HP h ((some (b8,0),OC x0 (slv 6 true rows.length ob)) :: (ob,rbs rows ++ []) :: robs rows.reverse ++ [OP b5 pl,(some (b2,0),ZG)]) ∧ e = e25J b2 b5 b8 (E_Graph.e x0) (Zl (EI .i64) o) (Zl (EL (EI .i64)) was) (.int .i64 (ln o)) (.int .i64 x) pl) o.length
    ⟨0,0,[],none,bs1,rfl,by omega,by omega,rfl,fun _ h => absurd h List.not_mem_nil,fun _ h => absurd h List.not_mem_nil,h,rfl,by have h9 := (hp.non).pick 1 rfl; simpa [rbs,robs,slv] using h9,by kernel_rfl⟩ ?_
  rintro m e H ⟨i,x,rows,ob,bt,hx,hi,rfl,hrl,hok,hbig,hbt,hbs,hp,rfl⟩;refine Rn.g ?_;refine Ro.t 1 ?_;refine Ro.d (mkE [(1,.fp (E_Graph.e x0)),(0,.ptr b2 0 0),(0,Zl (EI .i64) o),(0,Zl (EL (EI .i64)) was),(0,slv 1 false pl.length (some (b5,0))),(2,.ptr b8 0 0),(46,Zl (EI .i64) o),(0,.int .i64 (ln o)),(0,.int .i64 x),(0,.bool (decide (x < (ln o))))] 105) ?_;refine Run.seq ?_
  by_cases hlt : i < o.length
  · refine Run.condT (by rw [decide_eq_true (show x < ln o by show x < ((List.length o : Nat) : Int); omega)]; kernel_rfl) ?_;refine Run.skip ?_;refine Rn.c (e25J b2 b5 b8 (E_Graph.e x0) (Zl (EI .i64) o) (Zl (EL (EI .i64)) was) (.int .i64 (ln o)) (.int .i64 x) pl) ?_;have hk : o[i]? = some o[i] := List.getElem?_eq_getElem hlt;have hdrop : o.drop i = o[i] :: o.drop (i + 1) := List.drop_eq_getElem_cons hlt;rw [hdrop] at hbt
    generalize o[i] = k at hk hdrop hbt
    simp only [omap] at hbt
    split at hbt
    case h_2 => cases hbt
    rename_i b1 bt' htb hrest
    cases hbt;unfold trB at htb;obtain ⟨b,hb,htb⟩ := bind_some htb;obtain ⟨t2,ht2,htb⟩ := bind_some htb;obtain ⟨l1,hclo,rfl⟩ := Option.map_eq_some_iff.1 htb;obtain ⟨rfl,hclb⟩ := clo_spec hclo;refine Run.seq ?_;refine Run.block ?_;refine Rn.g ?_;refine Ro.p (idx_fz (EI .i64) (l := o) (i := x) (a := k) .i64 (by rw [hx]; exact idx_some hk)) ?_;refine Ro.t 2 ?_;refine Ro.d (mkE [(1,.fp (E_Graph.e x0)),(0,.ptr b2 0 0),(0,Zl (EI .i64) o),(0,Zl (EL (EI .i64)) was),(0,slv 1 false pl.length (some (b5,0))),(2,.ptr b8 0 0),(1,.int .i64 k),(44,Zl (EI .i64) o),(0,.int .i64 (ln o)),(0,.int .i64 x)] 106) ?_;refine Rn.g ?_;refine Ro.t 3 ?_;refine Ro.p (idx_fz E_Block (l := x0.fBlocks) (i := k) (a := b) .i64 hb) ?_;refine Ro.t 1 ?_;refine RunO.alloc hp (by kernel_rfl) ?_;intro b11 H hp;refine RunO.st hp (by kernel_rfl) 0 (off := 0) (v := E_Block.e b) (cs' := E_Block.c b) rfl (by kernel_rfl) (by kernel_rfl) (by kernel_rfl) ?_;intro H hp;refine Ro.d (mkE [(1,.fp (E_Graph.e x0)),(0,.ptr b2 0 0),(0,Zl (EI .i64) o),(0,Zl (EL (EI .i64)) was),(0,slv 1 false pl.length (some (b5,0))),(2,.ptr b8 0 0),(2,.ptr b11 0 0),(43,Zl (EI .i64) o),(0,.int .i64 (ln o)),(0,.int .i64 x)] 106) ?_;refine Rn.g ?_;refine Ro.t 1 ?_;refine Ro.p (hp.ld 0 (off := 1) (n := some 5) (v := .ag (E_Term.c b.fTerm)) rfl rfl) ?_;refine RunO.alloc hp (by kernel_rfl) ?_;intro b12 H hp;refine RunO.st hp (by kernel_rfl) 0 (off := 0) (v := .ag (E_Term.c b.fTerm)) (cs' := E_Term.c b.fTerm) rfl (by kernel_rfl) (by kernel_rfl) (by kernel_rfl) ?_;intro H hp;refine Ro.d (e25K b2 b5 b8 b11 b12 (E_Graph.e x0) (Zl (EI .i64) o) (Zl (EL (EI .i64)) was) (.int .i64 (ln o)) (.int .i64 x) pl) ?_;refine Run.seq ?_;have hpl : ((some (b11,0),E_Block.c b) :: (some (b8,0),OC x0 (slv 6 true rows.length ob)) :: (ob,rbs rows ++ []) :: robs rows.reverse ++ [OP b5 pl,(some (b2,0),ZG)])[3 + (robs rows.reverse).length]? = some (OP b5 pl) := tl0;refine two25 _ hpl hp ht2 (fun H e he hp => ?_);show Run T (.clr _ (.rgd [11,8,11,11,11,7,11,11,11,11,11] i25r43)) _ _ _;refine Run.clr ?_;rw [he];have hsz : (rows.length + 1) * 64 ≤ 140737488355328 := by omega
    refine row43 hp hclb hsz _ (fun r ob' H e hro hrl' hrt he hp => ?_);show Run T (.clr _ (.rgn i25r49)) _ _ _;refine Run.clr ?_;rw [he];have hwx : IntKind.i64.wrap (x + 1) = ((i + 1 : Nat) : Int) := by rw [hx,wrap64_in (by omega) (by omega)]; omega
    refine Run.rgn (Ro.t 2 (RunO.nil ⟨o.length - (i + 1),by omega,i + 1,_,rows ++ [r],ob',bt',hwx,by omega,rfl,by simp [hrl],?_,?_,hrest,?_,?_,by kernel_rfl⟩))
    · intro q hq';rcases List.mem_append.1 hq' with h | h
      · exact hok q h
      · rw [List.mem_singleton.1 h]; exact hro
    · intro q hq';rcases List.mem_append.1 hq' with h | h
      · exact hbig q h
      · rw [List.mem_singleton.1 h,hrl']; omega
    · rw [← hbs,List.map_append,List.append_assoc];have : RB.b r = ⟨b.fIns,t2⟩ := by unfold RB.b; rw [hrl',hrt]
      rw [List.map_cons,List.map_nil,this]; rfl
    · rw [List.reverse_append]; exact hp
  · refine Run.condF (by rw [decide_eq_false (show ¬ x < ln o by show ¬ x < ((List.length o : Nat) : Int); omega)]; kernel_rfl) ?_;refine Run.exit ?_;have hi2 : i = o.length := by omega
    subst hi2;rw [List.drop_length] at hbt;cases hbt;rw [List.append_nil] at hbs;exact hq rows ob H _ hok hbs hbig (by kernel_rfl) hp
end Go.Eng.Gra
namespace Go.Eng.Gra
open Go Go.Eng
set_option linter.unusedSectionVars false
set_option linter.unusedVariables false
set_option linter.unusedSimpArgs false
set_option maxRecDepth 20000
theorem stC_out {x0 : T_Graph} {n : Nat} {ob : Option (Nat × Nat)} : stC ZG 0 (.ag (OC x0 (slv 6 true n ob))) (some 6) = some (OC x0 (slv 6 true n ob)) := by cases ob <;> rfl
theorem c25 {x0 r : T_Graph} (h : F25 x0 = some r) : Fn T 25 [E_Graph.e x0] [] (fun v hh => deep false hh deepN v = some (E_Graph.e r)) := by
  unfold F25 at h;obtain ⟨o,ho,h⟩ := bind_some h
  split at h
  case isFalse => cases h
  rename_i hsz
  obtain ⟨hb,hol⟩ := hsz;obtain ⟨pl0,hpl0,h⟩ := bind_some h;obtain ⟨pl,hpl,h⟩ := bind_some h;obtain ⟨_,hc1,h⟩ := bind_some h;obtain ⟨_,hc2,h⟩ := bind_some h;obtain ⟨_,hc3,h⟩ := bind_some h;obtain ⟨rfl,hd1⟩ := clo_spec hc1;obtain ⟨rfl,hd2⟩ := clo_spec hc2;obtain ⟨rfl,hd3⟩ := clo_spec hc3;obtain ⟨bs1,hbs1,h⟩ := bind_some h;obtain ⟨bs2,hbs2,rfl⟩ := Option.map_eq_some_iff.1 h;have hpll := setAt_len hpl;refine Fn.enterE t25 (e0 := (mkE [(0,E_Graph.e x0)] 163)) (by kernel_rfl) ?_;show Run T (.fin [some (some 6)] (.clr [] i25n96)) _ _ (finE (some [some (some 6)]) [2] _);refine Run.finb ?_;refine Rn.k (mkE [(0,E_Graph.e x0)] 163) ?_;refine Rn.g ?_;refine Ro.t 1 ?_;refine RunO.alloc HP.nil (by kernel_rfl) ?_;intro b2 H hp;refine Ro.d (mkE [(1,.fp (E_Graph.e x0)),(0,.ptr b2 0 0)] 161) ?_;refine Rn.g ?_;refine Ro.t 1 ?_;refine RunO.c2 (by kernel_rfl) (by kernel_rfl) (by kernel_rfl) (order14 ho) ?_;refine Ro.t 1 ?_;refine RunO.c2 (by kernel_rfl) (by kernel_rfl) (by kernel_rfl) (c13 (r := aheadV x0.fBlocks) (by unfold F13; rw [if_pos hb])) ?_;refine Ro.t 2 ?_;obtain ⟨was,hwas⟩ : ∃ was,aheadV x0.fBlocks = was := ⟨_,rfl⟩;rw [hwas] at hbs2 ⊢;refine Ro.d (mkE [(1,.fp (E_Graph.e x0)),(0,.ptr b2 0 0),(0,Zl (EI .i64) o),(0,Zl (EL (EI .i64)) was)] 159) ?_;refine Rn.g ?_;refine Ro.t 2 ?_;refine Ro.p (len_fz E_Block x0.fBlocks) ?_;refine RunO.mks1 (EI .i64) hp (by kernel_rfl) (a := 0) (n := ((List.length x0.fBlocks : Nat) : Int)) (l := pl0) (by kernel_rfl) (by kernel_rfl) (by kernel_rfl) (by kernel_rfl) (by kernel_rfl) hpl0 ?_;intro b5 H hp;refine Ro.t 1 ?_;refine Ro.d (e25B b2 b5 (E_Graph.e x0) o was pl0.length) ?_;refine Run.seq ?_;refine pl25 _ hp hpl hol (fun H e he hp => ?_);show Run T (.clr _ i25n92) _ _ _;refine Run.clr ?_;rw [he,← hpll];refine Rn.g ?_;refine Ro.t 4 ?_;refine RunO.cl (EI .i64) (n := 43) (by_ := 8) (zero := .int .i64 0) (by kernel_rfl) (l := x0.fParams) (by kernel_rfl) t43 rfl cl43' hd1 ?_;refine Ro.t 4 ?_;refine RunO.cl (EI .u8) (n := 44) (by_ := 1) (zero := .int .u8 0) (by kernel_rfl) (l := x0.fVars) (by kernel_rfl) t44 rfl cl44 hd2 ?_;refine Ro.t 2 ?_;refine RunO.cl E_Array (n := 45) (by_ := 16) (zero := .ag [.int .u8 0,.int .i64 0]) (by kernel_rfl) (l := x0.fArrays) (by kernel_rfl) t45 rfl cl45 hd3 ?_;refine Ro.t 1 ?_;refine RunO.alloc hp (by kernel_rfl) ?_;intro b8 H hp;refine RunO.st hp (by kernel_rfl) 0 (off := 0) (v := .ag (OC x0 .nils)) (cs' := OC x0 .nils) rfl (by kernel_rfl) (by kernel_rfl) (by kernel_rfl) ?_;intro H hp;refine Ro.d (mkE [(1,.fp (E_Graph.e x0)),(0,.ptr b2 0 0),(0,Zl (EI .i64) o),(0,Zl (EL (EI .i64)) was),(0,slv 1 false pl.length (some (b5,0))),(2,.ptr b8 0 0)] 155) ?_;refine Run.seq ?_;refine bl25 _ hol hp hbs1 (fun rows ob H e hok hrows hbig he hp => ?_);show Run T (.clr _ i25n90) _ _ _;refine Run.clr ?_;rw [he];subst hrows;have hrl : rows.length = o.length := by have := omap_len hbs1; rw [List.length_map] at this; exact this
  refine Run.seq ?_;refine Rn.g ?_;refine Ro.p (hp.ld 0 (off := 0) (n := some 6) (v := .ag (OC x0 (slv 6 true rows.length ob))) rfl (by cases ob <;> rfl)) ?_;have hda : omap (deep false H deepN) [.ag (OC x0 (slv 6 true rows.length ob))] = some [E_Graph.e (blocksOf x0 (rows.map RB.b))] := omapc (deep_out (rows_deep2 hp hok)) rfl;have hF : F13 (blocksOf x0 (rows.map RB.b)) = some (aheadV (rows.map RB.b)) := by unfold F13; exact if_pos (by show (rows.map RB.b).length ≤ 1048576; rw [List.length_map]; omega)
  refine RunO.c1 (us := [E_Graph.e (blocksOf x0 (rows.map RB.b))]) (by kernel_rfl) ?_ (c13s hF _) ?_
  · show omap (deep false H deepN) _ = _;refine Eq.trans ?_ hda
    kernel_rfl
  refine Ro.p (len_fz (EL (EI .i64)) (aheadV (rows.map RB.b))) ?_;refine Ro.t 1 ?_;refine Ro.d (e25Q b2 b8 o was (aheadV (rows.map RB.b)) 0) ?_;refine half25 _ hok hbig (by unfold aheadV; rw [aheadS_len,List.length_map]) (by omega) hp hbs2 (fun rows2 H e hok2 hrows2 hrl2 he hp => ?_);show Run T (.clr _ i25n89) _ _ _;refine Run.clr ?_;rw [he];refine Rn.g ?_;have hv : ldV H (.ptr b8 0 0) (some 6) = some (.ag (OC x0 (slv 6 true rows2.length ob))) := hp.ld 0 (off := 0) (n := some 6) rfl (by cases ob <;> rfl);refine Ro.p hv ?_;refine RunO.st hp (by kernel_rfl) (3 + (robs rows2.reverse).length) (off := 0) (v := .ag (OC x0 (slv 6 true rows2.length ob))) (cs' := OC x0 (slv 6 true rows2.length ob)) tl1 (by kernel_rfl) (by kernel_rfl) stC_out ?_;intro H hp;rw [tl_set] at hp;refine Ro.d (mkE [(2,.ptr b2 0 0)] 161) ?_;refine Run.ret ?_;have hw : ldV H (.ptr b2 0 0) (some 6) = some (.ag (OC x0 (slv 6 true rows2.length ob))) := hp.ld _ (off := 0) (n := some 6) tl1 (by cases ob <;> rfl);refine ⟨_,resW_cells (vs := [.ag (OC x0 (slv 6 true rows2.length ob))]) ?_,?_⟩
  · exact omapc hw rfl
  · have := deep_out (x0 := x0) (rows_deep2 hp hok2);rw [hrows2] at this;exact this
end Go.Eng.Gra
