/- Functions of this seat, run on unknown values by the rules of the small machine (no condition beyond those stated). -/
import Derived.Test.YthpbodnnbjdnlaaDoorEngSUp
import Derived.KernelRfl
import Derived.Test.YthpbodnnbjdnlaaDoorCopIr
set_option linter.unusedSectionVars false
namespace Go.Eng
open Go
set_option linter.unusedSectionVars false
set_option linter.unusedVariables false
set_option linter.unusedSimpArgs false
variable [Xtn]
def mkE : List (Nat × V) → Nat → List V
  | [],n => List.replicate n .un
  | (g,v) :: l,n => List.replicate g .un ++ v :: mkE l n
inductive Stp (σ R A : Type) where
  | next (s : σ)
  | ret (r : R)
  | go (a : A)
inductive Out (R A : Type) where
  | ret (r : R)
  | go (a : A)
def iter {σ R A : Type} (f : σ → Option (Stp σ R A)) (n : Nat) : σ → Option (Out R A) :=
  Nat.rec (motive := fun _ => σ → Option (Out R A)) (fun _ => none) (fun _ ih s => match f s with
    | some (.next s') => ih s'
    | some (.ret r) => some (.ret r)
    | some (.go a) => some (.go a)
    | none => none) n
theorem iter_succ {σ R A : Type} (f : σ → Option (Stp σ R A)) (n : Nat) (s : σ) : iter f (n + 1) s = match f s with
    | some (.next s') => iter f n s'
    | some (.ret r) => some (.ret r)
    | some (.go a) => some (.go a)
    | none => none := rfl
def FUEL : Nat := 4611686018427387904
def idx {α : Type} (l : List α) (i : Int) : Option α := if 0 ≤ i then l[i.toNat]? else none
def part {α : Type} (l : List α) (lo hi : Int) : Option (List α) := if 0 ≤ lo ∧ lo ≤ hi ∧ hi ≤ (l.length : Int) then some ((l.take hi.toNat).drop lo.toNat) else none
def more {α : Type} (by_ : Nat) (l r : List α) : Option (List α) := if (l.length + r.length) * by_ ≤ 140737488355328 then some (l ++ r) else none
def made {α : Type} (by_ : Nat) (a : α) (n : Int) : Option (List α) := if 0 ≤ n ∧ n * (by_ : Int) ≤ 140737488355328 ∧ n < 9223372036854775808 then some (List.replicate n.toNat a) else none
section
variable {T : Nat → Option IFun} {env : List V} {H : Heap}
theorem Run.condT {c : Opd} {a b : Ir} {Q : X → List V → Heap → Prop} (hc : c.ev env = .bool true) (h : Run T a env H Q) : Run T (.cond c a b) env H Q := Run.cond hc h
theorem Run.condF {c : Opd} {a b : Ir} {Q : X → List V → Heap → Prop} (hc : c.ev env = .bool false) (h : Run T b env H Q) : Run T (.cond c a b) env H Q := Run.cond hc h
def envAfter (ops : List IOp) (env : List V) (H : Heap) : List V := match exOps noF ops env H with | some p => p.1 | none => []
theorem RunO.tk (n : Nat) {ops : List IOp} {Q : List V → Heap → Prop} (h : exOps noF (ops.take n) env H = some (envAfter (ops.take n) env H,H)) (hr : RunO T (ops.drop n) (envAfter (ops.take n) env H) H Q) : RunO T ops env H Q :=
  RunO.pre n ⟨_,h,hr⟩
def gdB (env : List V) : Option (Nat × Bool) → Bool
  | none => true
  | some (t,w) => match env.getD t .un with | .bool b => b == w | _ => false
theorem exOp_gd {F : FT} {d : Option Nat} {g : Option (Nat × Bool)} {lo : Bool} {k : Kind} (h : gdB env g = true) : exOp F ⟨d,g,lo,k⟩ env H = exOp F ⟨d,none,lo,k⟩ env H := by
  cases g with
  | none => rfl
  | some p =>
    obtain ⟨t,w⟩ := p;simp only [gdB] at h
    split at h
    · rename_i b hb
      rw [beq_iff_eq] at h; subst h;exact exOp_gt F env H d lo t b k hb
    · cases h
theorem RunO.p1 {d : Option Nat} {g : Option (Nat × Bool)} {lo : Bool} {k : Kind} {r : List IOp} {Q : List V → Heap → Prop} {v : Option V} {u : V} (hg : gdB env g = true) (hq : k.quiet = true) (h : evq noF env (if lo then [] else H) k = v) (hv : v = some u) (hr : RunO T r (put env d u) H Q) :
    RunO T (⟨d,g,lo,k⟩ :: r) env H Q := by
  subst h;refine RunO.op ⟨0,exOp_mono (noF_le _) (o := ⟨d,g,lo,k⟩) (r := (put env d u,H)) ?_⟩ hr;rw [exOp_gd hg];simp only [exOp,exK,hq,if_true,hv]; rfl
theorem RunO.w1 {d : Option Nat} {g : Option (Nat × Bool)} {lo : Bool} {k : Kind} {r : List IOp} {Q : List V → Heap → Prop} {v : Option (V × Heap)} {u : V} {H1 : Heap} (hg : gdB env g = true) (hq : k.quiet = false) (h : evw noF env H k = v) (hv : v = some (u,H1)) (hr : RunO T r (put env d u) H1 Q) :
    RunO T (⟨d,g,lo,k⟩ :: r) env H Q := by
  subst h;refine RunO.op ⟨0,exOp_mono (noF_le _) (o := ⟨d,g,lo,k⟩) (r := (put env d u,H1)) ?_⟩ hr;rw [exOp_gd hg];simp only [exOp,exK,hq,Bool.false_eq_true,if_false,hv]; rfl
theorem RunO.c1 {d : Option Nat} {g : Option (Nat × Bool)} {lo : Bool} {f : Nat} {args : List Opd} {us : List V} {r : List IOp} {Q : List V → Heap → Prop} {v : V} (hg : gdB env g = true)
    (ha : omap (deep false (if lo then [] else H) deepN) (args.map (·.ev env)) = some us) (hf : Fn T f us [] (fun r h => deep (!(args.map (·.ev env)).all (V.free deepN)) h deepN r = some v)) (hr : RunO T r (put env d v) H Q) :
    RunO T (⟨d,g,lo,.call false (.c (.fn f [])) args⟩ :: r) env H Q := by
  obtain ⟨k,rv,Hc,h1,h2⟩ := hf;refine RunO.op ⟨k,?_⟩ hr;have e0 : (Opd.c (.fn f [])).ev env = .fn f [] := rfl;rw [exOp_gd hg];simp only [exOp,exK,Kind.quiet,evq,e0,if_true,pcall,ha,Option.bind_some,h1,h2]; rfl
theorem RunO.h1 {d : Option Nat} {g : Option (Nat × Bool)} {lo : Bool} {f : Opd} {n : Nat} {caps us : List V} {args : List Opd} {r : List IOp} {Q : List V → Heap → Prop} (hg : gdB env g = true) (hf : f.ev env = .fn n caps) (ha : args.map (·.ev env) ++ caps = us)
    (hc : Fn T n us H (fun v H' => RunO T r (put env d v) H' Q)) : RunO T (⟨d,g,lo,.call true f args⟩ :: r) env H Q := by
  subst ha;obtain ⟨k,v,H',hk,h⟩ := hc;refine RunO.op ⟨k,?_⟩ h;rw [exOp_gd hg];simp only [exOp,exK,Kind.quiet,Bool.false_eq_true,if_false,evw,hf,hcall,hk]; rfl
end
abbrev Ob := Option (Nat × Nat) × List V
structure HP (H : Heap) (L : List Ob) : Prop where
  at_ : ∀ (i : Nat) (o : Option (Nat × Nat)) (cs : List V),L[i]? = some (o,cs) → match o with | some (b,g) => H[b]? = some (g,cs) | none => cs = []
  ne : ∀ (i j b g g' : Nat) (cs cs' : List V),L[i]? = some (some (b,g),cs) → L[j]? = some (some (b,g'),cs') → i = j
theorem HP.nil {H : Heap} : HP H [] := ⟨fun i o cs h => by simp at h,fun i j b g g' cs cs' h => by simp at h⟩
theorem HP.get {H : Heap} {L : List Ob} (hp : HP H L) {i b g : Nat} {cs : List V} (h : L[i]? = some (some (b,g),cs)) : H[b]? = some (g,cs) := hp.at_ i _ _ h
theorem HP.lt {H : Heap} {L : List Ob} (hp : HP H L) {i b g : Nat} {cs : List V} (h : L[i]? = some (some (b,g),cs)) : b < H.length := (List.getElem?_eq_some_iff.mp (hp.get h)).1
theorem HP.grow {H : Heap} {L : List Ob} (hp : HP H L) (x : Nat × List V) : HP (H ++ [x]) L := by
  refine ⟨fun i o cs h => ?_,hp.ne⟩;cases o with
  | none => exact hp.at_ i _ _ h
  | some p => obtain ⟨b,g⟩ := p; show (H ++ [x])[b]? = _; rw [List.getElem?_append_left (hp.lt h)]; exact hp.get h
theorem HP.new {H : Heap} {L : List Ob} (hp : HP H L) (cs : List V) : HP (H ++ [(0,cs)]) ((some (H.length,0),cs) :: L) := by
  refine ⟨fun i o cs' h => ?_,fun i j b g g' cs1 cs2 h1 h2 => ?_⟩
  · cases i with
    | zero => simp at h; obtain ⟨rfl,rfl⟩ := h; simp
    | succ i => exact (hp.grow (0,cs)).at_ i o cs' (by simpa using h)
  · cases i with
    | zero =>
      simp at h1; obtain ⟨⟨rfl,rfl⟩,rfl⟩ := h1
      cases j with
      | zero => rfl
      | succ j => have := hp.lt (i := j) (by simpa using h2); omega
    | succ i =>
      cases j with
      | zero => simp at h2; obtain ⟨⟨rfl,rfl⟩,rfl⟩ := h2; have := hp.lt (i := i) (by simpa using h1); omega
      | succ j => have := hp.ne i j b g g' cs1 cs2 (by simpa using h1) (by simpa using h2); omega
theorem HP.set {H : Heap} {L : List Ob} (hp : HP H L) {i b g : Nat} {cs : List V} (h : L[i]? = some (some (b,g),cs)) (g' : Nat) (cs' : List V) : HP (H.set b (g',cs')) (L.set i (some (b,g'),cs')) := by
  have hil : i < L.length := (List.getElem?_eq_some_iff.mp h).1;refine ⟨fun j o cs2 hj => ?_,fun j j' b2 g2 g3 cs2 cs3 h2 h3 => ?_⟩
  · by_cases hij : i = j
    · subst hij;rw [List.getElem?_set_self hil] at hj; cases hj;show (H.set b (g',cs'))[b]? = _;rw [List.getElem?_set_self (hp.lt h)]
    · rw [List.getElem?_set_ne hij] at hj;cases o with
      | none => exact hp.at_ j _ _ hj
      | some p =>
        obtain ⟨b2,g2⟩ := p;show (H.set b (g',cs'))[b2]? = _;rw [List.getElem?_set_ne (by rintro rfl; exact hij (hp.ne _ _ _ _ _ _ _ h hj))]; exact hp.get hj
  · have fld : ∀ (k b2 g2 : Nat) (cs2 : List V),(L.set i (some (b,g'),cs'))[k]? = some (some (b2,g2),cs2) → ∃ (g3 : Nat) (cs3 : List V),L[k]? = some (some (b2,g3),cs3) := by
      intro k b2 g2 cs2 hk
      by_cases hik : i = k
      · subst hik;rw [List.getElem?_set_self hil] at hk; cases hk;exact ⟨_,_,h⟩
      · rw [List.getElem?_set_ne hik] at hk; exact ⟨_,_,hk⟩
    obtain ⟨_,_,h2⟩ := fld _ _ _ _ h2;obtain ⟨_,_,h3⟩ := fld _ _ _ _ h3;exact hp.ne _ _ _ _ _ _ _ h2 h3
theorem HP.sub {H : Heap} {L : List Ob} (hp : HP H L) (is : List Nat) (hn : is.Nodup) (L' : List Ob) (h : L' = is.filterMap (L[·]?)) (hl : ∀ i ∈ is,i < L.length) : HP H L' := by
  have key : ∀ (is : List Nat),(∀ i ∈ is,i < L.length) → ∀ (j : Nat) (x : Ob),(is.filterMap (L[·]?))[j]? = some x → ∃ i,is[j]? = some i ∧ L[i]? = some x := by
    intro is
    induction is with
    | nil => intro _ j x h; simp at h
    | cons i is ih =>
      intro hl j x hj;have hi : i < L.length := hl i (by simp);rw [List.filterMap_cons,List.getElem?_eq_getElem hi] at hj;cases j with
      | zero => simp at hj; exact ⟨i,by simp,by rw [List.getElem?_eq_getElem hi,hj]⟩
      | succ j => exact ih (fun k hk => hl k (by simp [hk])) j x (by simpa using hj)
  subst h;refine ⟨fun j o cs hj => ?_,fun j j' b g g' cs cs' h1 h2 => ?_⟩
  · obtain ⟨i,_,hi⟩ := key is hl j _ hj; exact hp.at_ i _ _ hi
  · obtain ⟨i,a1,hi⟩ := key is hl j _ h1;obtain ⟨i',a2,hi'⟩ := key is hl j' _ h2;have := hp.ne _ _ _ _ _ _ _ hi hi';subst this;exact (List.getElem?_inj (List.getElem?_eq_some_iff.mp a1).1 hn).1 (by rw [a1,a2])
theorem HP.ld {H : Heap} {L : List Ob} (hp : HP H L) (i : Nat) {b g off : Nat} {cs : List V} {n : Sh} {v : V} (h : L[i]? = some (some (b,g),cs)) (ht : takeSh cs off n = some v) : ldV H (.ptr b g off) n = some v := by
  simp only [ldV,rdB_of (hp.get h),Option.bind_some,ht]
def stC (cs : List V) (off : Nat) (v : V) (n : Sh) : Option (List V) :=
  if fitsSh v n && decide (off + v.cells.length ≤ cs.length) then some (match n with | none => cs.set off v | some _ => splice cs off v.cells) else none
theorem HP.st {H : Heap} {L : List Ob} (hp : HP H L) (i : Nat) {b g off : Nat} {cs cs' : List V} {n : Sh} {v : V} (h : L[i]? = some (some (b,g),cs)) (hs : stC cs off v n = some cs') :
    stV H (.ptr b g off) v n = some (H.set b (g,cs')) := by
  simp only [stV,rdB_of (hp.get h),Option.bind_some];unfold stC at hs
  split at hs
  · rename_i hc; rw [if_pos hc]; cases hs; rfl
  · cases hs
section
variable {T : Nat → Option IFun} {env : List V} {H : Heap} {L : List Ob}
theorem RunO.alloc {d : Option Nat} {g : Option (Nat × Bool)} {lo : Bool} {zc : List V} {r : List IOp} {Q : List V → Heap → Prop} (hp : HP H L) (hg : gdB env g = true)
    (hr : ∀ b H1,HP H1 ((some (b,0),zc) :: L) → RunO T r (put env d (.ptr b 0 0)) H1 Q) : RunO T (⟨d,g,lo,.alloc zc⟩ :: r) env H Q :=
  RunO.w1 hg rfl rfl rfl (hr _ _ (hp.new zc))
theorem RunO.boxh {d : Option Nat} {g : Option (Nat × Bool)} {lo : Bool} {x : Opd} {v : V} {r : List IOp} {Q : List V → Heap → Prop} (hp : HP H L) (hg : gdB env g = true) (hx : x.ev env = v) (hb : boxOk v = true)
    (hr : ∀ b H1,HP H1 ((some (b,0),v.cells) :: L) → RunO T r (put env d (.ptr b 0 0)) H1 Q) : RunO T (⟨d,g,lo,.box x false⟩ :: r) env H Q := by
  subst hx;exact RunO.w1 hg rfl rfl (if_pos hb) (hr _ _ (hp.new _))
theorem RunO.st {d : Option Nat} {g : Option (Nat × Bool)} {lo : Bool} {a x : Opd} {n : Sh} {r : List IOp} {Q : List V → Heap → Prop} (hp : HP H L) (hg : gdB env g = true) (i : Nat) {b gn off : Nat} {cs cs' : List V} {v : V} (hi : L[i]? = some (some (b,gn),cs))
    (ha : a.ev env = .ptr b gn off) (hx : x.ev env = v) (hs : stC cs off v n = some cs') (hr : ∀ H1,HP H1 (L.set i (some (b,gn),cs')) → RunO T r (put env d .sk) H1 Q) : RunO T (⟨d,g,lo,.st a x n⟩ :: r) env H Q := by
  refine RunO.w1 (u := .sk) (H1 := H.set b (gn,cs')) hg rfl rfl ?_ (hr _ (hp.set hi _ _));show (stV H (a.ev env) (x.ev env) n).map _ = _;rw [ha,hx,hp.st i hi hs]; rfl
end
structure Enc (α : Type) where
  e : α → V
  c : α → List V
  z : Nat
  ag : Bool
  sf : Bool
  he : ∀ a,(e a).cells = c a
  hz : ∀ a,(c a).length = z
  hz0 : 0 < z
  ha : ag = true ∨ z = 1
  hag : ∀ a,(e a).isAg = ag
  hc : ∀ a,(c a).all V.isCell = true
  h1 : ag = false → ∀ a,c a = [e a]
  h2 : ag = true → ∀ a,e a = .ag (c a)
  hd : ∀ s H n a,(s = false ∨ sf = true) → deep s H (n + 2) (e a) = some (e a)
def Enc.sh {α : Type} (E : Enc α) : Sh := if E.ag then some E.z else none
def EI (k : IntKind) : Enc Int where
  e := V.int k
  c := fun a => [V.int k a]
  z := 1
  ag := false
  sf := true
  he := fun _ => rfl
  hz := fun _ => rfl
  hz0 := by decide
  ha := .inr rfl
  hag := fun _ => rfl
  hc := fun _ => rfl
  h1 := fun _ _ => rfl
  h2 := fun h => by cases h
  hd := fun _ _ _ _ _ => rfl
def EB : Enc Bool where
  e := V.bool
  c := fun a => [V.bool a]
  z := 1
  ag := false
  sf := true
  he := fun _ => rfl
  hz := fun _ => rfl
  hz0 := by decide
  ha := .inr rfl
  hag := fun _ => rfl
  hc := fun _ => rfl
  h1 := fun _ _ => rfl
  h2 := fun h => by cases h
  hd := fun _ _ _ _ _ => rfl
def ES : Enc (List UInt8) where
  e := fun l => .str ⟨l.toArray⟩
  c := fun l => [.str ⟨l.toArray⟩]
  z := 1
  ag := false
  sf := true
  he := fun _ => rfl
  hz := fun _ => rfl
  hz0 := by decide
  ha := .inr rfl
  hag := fun _ => rfl
  hc := fun _ => rfl
  h1 := fun _ _ => rfl
  h2 := fun h => by cases h
  hd := fun _ _ _ _ _ => rfl
def EL {α : Type} (E : Enc α) : Enc (List α) where
  e := fun l => .fz (l.map E.e)
  c := fun l => [.fz (l.map E.e)]
  z := 1
  ag := false
  sf := false
  he := fun _ => rfl
  hz := fun _ => rfl
  hz0 := by decide
  ha := .inr rfl
  hag := fun _ => rfl
  hc := fun _ => rfl
  h1 := fun _ _ => rfl
  h2 := fun h => by cases h
  hd := fun s _ _ _ h => by rcases h with rfl | h <;> first | rfl | cases h
section
variable {α : Type} (E : Enc α)
theorem Enc.okEl (a : α) : Go.Eng.okEl E.z E.ag (E.e a) = true := by simp [Go.Eng.okEl,E.he,E.hz,E.hag]
theorem idx_lt {l : List α} {i : Int} {a : α} (h : idx l i = some a) : 0 ≤ i ∧ i < (l.length : Int) ∧ l[i.toNat]? = some a := by
  unfold idx at h
  split at h
  · have := (List.getElem?_eq_some_iff.mp h).1;exact ⟨by assumption,by omega,h⟩
  · cases h
theorem idx_fz {l : List α} {i : Int} {a : α} (k : IntKind) (h : idx l i = some a) : idxaV (.fz (l.map E.e)) (.int k i) E.z E.ag = some (.fp (E.e a)) := by
  obtain ⟨h0,h1,h2⟩ := idx_lt h;exact idxaV_fz h0 (by rw [List.getElem?_map,h2]; rfl) (E.okEl a)
theorem len_fz (l : List α) : lenV false (.fz (l.map E.e)) = some (.int .i64 (l.length : Int)) := by simp [lenV]
theorem hdOk_map (l : List α) : hdOk E.z (l.map E.e) = true := by
  cases l with
  | nil => rfl
  | cons a l => simp [hdOk,E.he,E.hz]
theorem part_spec {l l' : List α} {lo hi : Int} (h : part l lo hi = some l') : 0 ≤ lo ∧ lo ≤ hi ∧ hi ≤ (l.length : Int) ∧ l' = (l.take hi.toNat).drop lo.toNat := by
  unfold part at h
  split at h
  · rename_i hc; cases h; exact ⟨hc.1,hc.2.1,hc.2.2,rfl⟩
  · cases h
theorem bnd_some {d : Nat} {x : Int} (h : 0 ≤ x) (k : IntKind) : bndV d (some (.int k x)) = some x.toNat := by simp [bndV,h]
theorem slc_fz {l l' : List α} {lo hi : Int} (k k' : IntKind) (hz : E.z ≠ 0) (h : part l lo hi = some l') : slcV (.fz (l.map E.e)) (some (.int k lo)) (some (.int k' hi)) E.z = some (.fz (l'.map E.e)) := by
  obtain ⟨h0,h1,h2,rfl⟩ := part_spec h;simp only [slcV,bnd_some h0,bnd_some (Int.le_trans h0 h1),Option.bind_some,List.length_map];rw [if_pos ⟨hz,by omega,by omega,hdOk_map E l⟩,List.map_drop,List.map_take]
theorem slc_fz0 {l l' : List α} {hi : Int} (k' : IntKind) (hz : E.z ≠ 0) (h : part l 0 hi = some l') : slcV (.fz (l.map E.e)) none (some (.int k' hi)) E.z = some (.fz (l'.map E.e)) := by
  rw [← slc_fz E .i64 k' hz h]; rfl
theorem slc_fz1 {l l' : List α} {lo : Int} (k : IntKind) (hz : E.z ≠ 0) (h : part l lo (l.length : Int) = some l') : slcV (.fz (l.map E.e)) (some (.int k lo)) none E.z = some (.fz (l'.map E.e)) := by
  rw [← slc_fz E k .i64 hz h];simp only [slcV,bndV,List.length_map,Int.toNat_natCast];rw [if_pos (show (0 : Int) ≤ (l.length : Int) by omega)]
theorem list_st (l : List UInt8) : (⟨l.toArray⟩ : ByteArray).toList = l := by rw [ByteArray.toList_eq]
theorem str_eql (a b : List UInt8) : binV .num .eql (.str ⟨a.toArray⟩) (.str ⟨b.toArray⟩) = some (.bool (a == b)) := by
  simp only [binV,strB,list_st]
end
def slv (z : Nat) (ag : Bool) (n : Nat) : Option (Nat × Nat) → V
  | none => .nils
  | some (b,g) => .sl b g 0 n z ag
section
variable {α : Type} (E : Enc α)
theorem Enc.flat_len (l : List α) : (l.flatMap E.c).length = l.length * E.z := by
  induction l with
  | nil => simp
  | cons a l ih => rw [List.flatMap_cons,List.length_append,ih,E.hz,List.length_cons,Nat.succ_mul,Nat.add_comm]
theorem Enc.flat_cell (l : List α) : (l.flatMap E.c).all V.isCell = true := by
  rw [List.all_eq_true];intro x hx;obtain ⟨a,_,ha⟩ := List.mem_flatMap.mp hx;exact List.all_eq_true.mp (E.hc a) x ha
theorem Enc.flat_map (l : List α) : (l.map E.e).flatMap V.cells = l.flatMap E.c := by
  induction l with
  | nil => rfl
  | cons a l ih => rw [List.map_cons,List.flatMap_cons,List.flatMap_cons,ih,E.he]
theorem Enc.flat_at (l : List α) (rest : List V) {i : Nat} {a : α} (h : l[i]? = some a) : ((l.flatMap E.c ++ rest).drop (i * E.z)).take E.z = E.c a := by
  induction l generalizing i with
  | nil => simp at h
  | cons x l ih =>
    rw [List.flatMap_cons,List.append_assoc];cases i with
    | zero =>
      simp at h; subst h
      rw [Nat.zero_mul,List.drop_zero,List.take_append_of_le_length (by rw [E.hz]; exact Nat.le_refl _),List.take_of_length_le (by rw [E.hz]; exact Nat.le_refl _)]
    | succ i =>
      rw [Nat.succ_mul,Nat.add_comm,List.drop_append,List.drop_of_length_le (by rw [E.hz]; omega),List.nil_append,E.hz,show E.z + i * E.z - E.z = i * E.z by omega];exact ih (by simpa using h)
theorem Enc.flat_set (l : List α) (rest : List V) {i : Nat} (hi : i < l.length) (a : α) : splice (l.flatMap E.c ++ rest) (i * E.z) (E.c a) = (l.set i a).flatMap E.c ++ rest := by
  unfold splice;rw [E.hz]
  induction l generalizing i with
  | nil => simp at hi
  | cons x l ih =>
    cases i with
    | zero =>
      rw [List.set_cons_zero,List.flatMap_cons,List.flatMap_cons,Nat.zero_mul,List.take_zero,List.nil_append,Nat.zero_add,List.append_assoc,List.drop_append,List.drop_of_length_le (by rw [E.hz]; exact Nat.le_refl _),List.nil_append,E.hz,Nat.sub_self,List.drop_zero,List.append_assoc]
    | succ i =>
      rw [List.set_cons_succ,List.flatMap_cons,List.flatMap_cons,Nat.succ_mul,List.append_assoc,List.append_assoc,List.append_assoc,← ih (by simpa using hi)];rw [show i * E.z + E.z = (E.c x).length + i * E.z by rw [E.hz]; omega,List.take_length_add_append,show (E.c x).length + i * E.z + E.z = (E.c x).length + (i * E.z + E.z) by omega,List.drop_length_add_append];have hz' := E.hz x;simp only [List.append_assoc,show (E.c x).length + i * E.z = i * E.z + E.z by omega]
theorem Enc.new_fz (H : Heap) (m : List α) : newCells H (.fz (m.map E.e)) E.z = some (m.flatMap E.c,m.length) := by
  simp only [newCells];rw [if_pos (hdOk_map E m),E.flat_map,List.length_map]
theorem own_app {H : Heap} {L : List Ob} (hp : HP H L) (i : Nat) {o : Option (Nat × Nat)} {l l' m : List α} {rest : List V} (hi : L[i]? = some (o,l.flatMap E.c ++ rest)) {by_ : Nat} {x : V} (hx : newCells H x E.z = some (m.flatMap E.c,m.length)) (h : more by_ l m = some l') :
    ∃ o' H1,appV H (slv E.z E.ag l.length o) x E.z E.ag by_ = some (slv E.z E.ag l'.length o',H1) ∧ HP H1 (L.set i (o',l'.flatMap E.c ++ [])) := by
  have hz := E.hz0;unfold more at h
  split at h
  · rename_i hb
    cases h;have hcell := E.flat_cell m;cases o with
    | none =>
      have h0 := hp.at_ i _ _ hi;have hl : (l.flatMap E.c ++ rest).length = 0 := by rw [show l.flatMap E.c ++ rest = [] from h0]; rfl
      rw [List.length_append,E.flat_len] at hl;have hl0 : l.length = 0 := by
        rcases Nat.eq_zero_or_pos l.length with h | h
        · exact h
        · have := Nat.mul_pos h hz; omega
      have : l = [] := List.eq_nil_of_length_eq_zero hl0;subst this;rw [List.nil_append];simp only [appV,hx,Option.bind_some,hcell,slv,Bool.not_true,Bool.false_eq_true,if_false];rw [if_pos (by simpa using hb)]
      by_cases hm : m.length = 0
      · have hm0 : m = [] := List.eq_nil_of_length_eq_zero hm;subst hm0;refine ⟨none,H,rfl,?_⟩;have hrest : rest = [] := List.eq_nil_of_length_eq_zero (by omega);subst hrest;have e : L.set i (none,([] : List α).flatMap E.c ++ []) = L := by
          refine List.ext_getElem? fun j => ?_
          by_cases hij : i = j
          · subst hij; rw [List.getElem?_set_self (List.getElem?_eq_some_iff.mp hi).1,hi]
          · rw [List.getElem?_set_ne hij]
        rw [e]; exact hp
      · rw [if_neg hm];refine ⟨some (H.length,0),H ++ [(0,m.flatMap E.c)],rfl,?_⟩;rw [List.append_nil];have hil := (List.getElem?_eq_some_iff.mp hi).1;have hn := hp.new (m.flatMap E.c);refine ⟨fun j o' cs hj => ?_,fun j j' b g g' cs cs' h1 h2 => ?_⟩
        · by_cases hij : i = j
          · subst hij; rw [List.getElem?_set_self hil] at hj; cases hj; exact hn.at_ 0 _ _ rfl
          · rw [List.getElem?_set_ne hij] at hj; exact hn.at_ (j + 1) _ _ (by simpa using hj)
        · have mv : ∀ k b g cs,(L.set i (some (H.length,0),m.flatMap E.c))[k]? = some (some (b,g),cs) → ((some (H.length,0),m.flatMap E.c) :: L)[if i = k then 0 else k + 1]? = some (some (b,g),cs) := by
            intro k b g cs hk
            by_cases hik : i = k
            · subst hik; rw [List.getElem?_set_self hil] at hk; rw [if_pos rfl]; simpa using hk
            · rw [List.getElem?_set_ne hik] at hk; rw [if_neg hik]; simpa using hk
          have := hn.ne _ _ _ _ _ _ _ (mv _ _ _ _ h1) (mv _ _ _ _ h2)
          by_cases a1 : i = j <;> by_cases a2 : i = j' <;> simp [a1,a2] at this <;> omega
    | some p =>
      obtain ⟨b,g⟩ := p;have hget := hp.get hi;refine ⟨some (b,g + 1),H.set b (g + 1,l.flatMap E.c ++ m.flatMap E.c),?_,?_⟩
      · have hcond : True ∧ 0 + l.length * E.z ≤ (l.flatMap E.c ++ rest).length ∧ (l.length + m.length) * by_ ≤ 140737488355328 := ⟨trivial,by rw [List.length_append,E.flat_len]; omega,hb⟩;simp only [appV,hx,Option.bind_some,hcell,slv,Bool.not_true,Bool.false_eq_true,if_false,rdB_of hget];rw [if_pos hcond,List.drop_zero,List.take_append_of_le_length (by rw [E.flat_len]; exact Nat.le_refl _),List.take_of_length_le (by rw [E.flat_len]; exact Nat.le_refl _),List.length_append]
      · rw [List.append_nil,List.flatMap_append];exact hp.set hi _ _
  · cases h
theorem own_deep {H : Heap} {L : List Ob} (hp : HP H L) (i : Nat) {o : Option (Nat × Nat)} {l : List α} {rest : List V} (hi : L[i]? = some (o,l.flatMap E.c ++ rest)) (s : Bool) (hs : s = false ∨ E.sf = true) (n : Nat) :
    deep s H (n + 4) (slv E.z E.ag l.length o) = some (.fz (l.map E.e)) := by
  have hz := E.hz0;cases o with
  | none =>
    have h0' := hp.at_ i _ _ hi;have hl : (l.flatMap E.c ++ rest).length = 0 := by rw [show l.flatMap E.c ++ rest = [] from h0']; rfl
    rw [List.length_append,E.flat_len] at hl;have hl0 : l.length = 0 := by
      rcases Nat.eq_zero_or_pos l.length with h | h
      · exact h
      · have := Nat.mul_pos h hz; omega
    have : l = [] := List.eq_nil_of_length_eq_zero hl0;subst this; rfl
  | some p =>
    obtain ⟨b,g⟩ := p;have hag := E.ha;simp only [slv];rw [deep_sl,rdB_of (hp.get hi),Option.bind_some,if_pos ⟨by rw [List.length_append,E.flat_len]; omega,hz,hag⟩,List.drop_zero];have hrows : ∀ (l : List α) (rest : List V),rows E.z l.length (l.flatMap E.c ++ rest) = l.map E.c := by
      intro l
      induction l with
      | nil => intro rest; rfl
      | cons a l ih =>
        intro rest;rw [List.length_cons,rows,List.flatMap_cons,List.append_assoc,List.map_cons,List.take_append_of_le_length (by rw [E.hz]; exact Nat.le_refl _),List.take_of_length_le (by rw [E.hz]; exact Nat.le_refl _),List.drop_append,List.drop_of_length_le (by rw [E.hz]; exact Nat.le_refl _),E.hz,Nat.sub_self,List.drop_zero,List.nil_append,ih]
    rw [hrows];rw [omap_map E.c (drow (deep s H (n + 3)) E.ag) E.e l (fun a _ => ?_)]
    · rfl
    · cases hx : E.ag with
      | true =>
        have := E.hd s H (n + 2) a hs;rw [E.h2 hx a] at this ⊢;exact this
      | false =>
        rw [E.h1 hx a,drow_one,E.hd s H (n + 1) a hs,Option.bind_some,E.hag a,hx]; rfl
end
def stp {σ R A : Type} (ts : List Nat) (I : σ → List V → Heap → Prop) (RR : R → List V → Heap → Prop) (J : A → Nat → List V → Heap → Prop) : Stp σ R A → X → List V → Heap → Prop
  | .next s,.nrm,e,h => I s (clrEnv ts e) h
  | .ret r,.ret,e,h => RR r e h
  | .go a,.ext i,e,h => J a i e h
  | _,_,_,_ => False
def ovr {R A : Type} (RR : R → List V → Heap → Prop) (J : A → Nat → List V → Heap → Prop) : Out R A → X → List V → Heap → Prop
  | .ret r,.ret,e,h => RR r e h
  | .go a,.ext i,e,h => J a i e h
  | _,_,_,_ => False
theorem Run.iter {T : Nat → Option IFun} {σ R A : Type} {f : σ → Option (Stp σ R A)} {ts : List Nat} {b : Ir} {I : σ → List V → Heap → Prop} {RR : R → List V → Heap → Prop} {J : A → Nat → List V → Heap → Prop}
    (hb : ∀ s e h t,I s e h → f s = some t → Run T b e h (stp ts I RR J t)) : ∀ (n : Nat) {s : σ} {o : Out R A} {env : List V} {H : Heap},Go.Eng.iter f n s = some o → I s (clrEnv ts env) H → Run T (.loop (.clr ts b)) env H (ovr RR J o)
  | 0,s,o,env,H,h,_ => by cases h
  | n + 1,s,o,env,H,h,hI => by
    rw [iter_succ] at h;refine Run.loop1 (Run.clr ?_);cases hf : f s with
    | none => rw [hf] at h; cases h
    | some t =>
      rw [hf] at h;refine (hb s _ H t hI hf).mono fun x e h' hx => ?_
      cases t with
      | next s' =>
        cases x with
        | nrm => exact Run.iter hb n h hx
        | ret => exact hx.elim
        | ext i => exact hx.elim
        | pan v => exact hx.elim
      | ret r =>
        cases h;cases x with
        | nrm => exact hx.elim
        | ret => exact hx
        | ext i => exact hx.elim
        | pan v => exact hx.elim
      | go a =>
        cases h;cases x with
        | nrm => exact hx.elim
        | ret => exact hx.elim
        | ext i => exact hx
        | pan v => exact hx.elim
theorem HP.del {H : Heap} {L : List Ob} (hp : HP H L) (i : Nat) : HP H (L.eraseIdx i) := by
  have key : ∀ k x,(L.eraseIdx i)[k]? = some x → L[if k < i then k else k + 1]? = some x := by
    intro k x h;rw [List.getElem?_eraseIdx] at h
    split at h
    · rename_i hk; rw [if_pos hk]; exact h
    · rename_i hk; rw [if_neg hk]; exact h
  refine ⟨fun k o cs h => hp.at_ _ _ _ (key k _ h),fun k j b g g' cs cs' h1 h2 => ?_⟩;have := hp.ne _ _ _ _ _ _ _ (key k _ h1) (key j _ h2)
  split at this <;> split at this <;> omega
theorem HP.pick {H : Heap} {L : List Ob} (hp : HP H L) (i : Nat) {x : Ob} (h : L[i]? = some x) : HP H (x :: L.eraseIdx i) := by
  have hd := hp.del i;have key : ∀ k y,(L.eraseIdx i)[k]? = some y → L[if k < i then k else k + 1]? = some y := by
    intro k x h;rw [List.getElem?_eraseIdx] at h
    split at h
    · rename_i hk; rw [if_pos hk]; exact h
    · rename_i hk; rw [if_neg hk]; exact h
  refine ⟨fun k o cs hk => ?_,fun k j b g g' cs cs' h1 h2 => ?_⟩
  · cases k with
    | zero => simp at hk; subst hk; exact hp.at_ i _ _ h
    | succ k => exact hd.at_ k _ _ (by simpa using hk)
  · cases k with
    | zero =>
      cases j with
      | zero => rfl
      | succ j =>
        simp at h1; subst h1
        have := hp.ne _ _ _ _ _ _ _ h (key j _ (by simpa using h2))
        split at this <;> omega
    | succ k =>
      cases j with
      | zero =>
        simp at h2; subst h2
        have := hp.ne _ _ _ _ _ _ _ h (key k _ (by simpa using h1))
        split at this <;> omega
      | succ j =>
        have := hd.ne k j b g g' cs cs' (by simpa using h1) (by simpa using h2); omega
theorem HP.non {H : Heap} {L : List Ob} (hp : HP H L) : HP H ((none,[]) :: L) := by
  refine ⟨fun k o cs hk => ?_,fun k j b g g' cs cs' h1 h2 => ?_⟩
  · cases k with
    | zero => simp at hk; obtain ⟨rfl,rfl⟩ := hk; rfl
    | succ k => exact hp.at_ k _ _ (by simpa using hk)
  · cases k with
    | zero => simp at h1
    | succ k =>
      cases j with
      | zero => simp at h2
      | succ j => have := hp.ne k j b g g' cs cs' (by simpa using h1) (by simpa using h2); omega
def endR (cs : Option (List (Option Sh))) (res : List Nat) (QF : V → Heap → Prop) (e : List V) (h : Heap) : Prop := ∃ v,resW cs res e h = some v ∧ QF v h
def finE (cs : Option (List (Option Sh))) (res : List Nat) (QF : V → Heap → Prop) : X → List V → Heap → Prop
  | .ext _,_,_ => False
  | .pan _,_,_ => False
  | _,e,h => endR cs res QF e h
theorem Fn.enterE {T : Nat → Option IFun} {f : Nat} {g : IFun} {args e0 : List V} {H : Heap} {QF : V → Heap → Prop} (hT : T f = some g) (he : args ++ List.replicate (g.ntmps - args.length) .un = e0) (h : Run T g.body e0 H (finE g.body.cells g.res QF)) (hz : g.body.isFrz = false := by rfl) : Fn T f args H QF := by
  subst he;obtain ⟨k,x,e,H',h1,h2⟩ := h;cases x with
  | nrm => obtain ⟨v,h3,h4⟩ := h2; exact ⟨k + 1,_,_,by simp only [exF,hT,h1,h3,Option.bind_some,hz,frzR],h4⟩
  | ret => obtain ⟨v,h3,h4⟩ := h2; exact ⟨k + 1,_,_,by simp only [exF,hT,h1,h3,Option.bind_some,hz,frzR],h4⟩
  | ext i => exact h2.elim
  | pan v => exact h2.elim
section
variable {T : Nat → Option IFun} {env : List V} {H : Heap}
theorem Run.finb {ds : List (Option Sh)} {b : Ir} {Q : X → List V → Heap → Prop} (h : Run T b env H Q) : Run T (.fin ds b) env H Q := by
  obtain ⟨k,x,e,H',h1,h2⟩ := h;exact ⟨k + 1,x,e,H',by simp only [exec]; exact exec_mono (exF_mono k (Nat.le_succ k)) k (Nat.le_refl k) h1,h2⟩
theorem RunO.done {ts : List Nat} {b : Ir} {Q : X → List V → Heap → Prop} {e' : List V} (he : clrEnv ts env = e') (h : Run T b e' H Q) : RunO T [] env H (fun e h => thn T (.clr ts b) Q .nrm e h) := RunO.nil (Run.clr (he ▸ h))
theorem Run.clrE {ts : List Nat} {b : Ir} {Q : X → List V → Heap → Prop} {e' : List V} (he : clrEnv ts env = e') (h : Run T b e' H Q) : Run T (.clr ts b) env H Q := Run.clr (he ▸ h)
theorem resW_cells {ds : List (Option Sh)} {res : List Nat} {vs : List V} (h : omap (ldR env H) (res.zip ds) = some vs) : resW (some ds) res env H = some (tupV vs) := by simp only [resW,h]; rfl
theorem RunO.c2 {d : Option Nat} {g : Option (Nat × Bool)} {lo : Bool} {f : Nat} {args : List Opd} {us : List V} {r : List IOp} {Q : List V → Heap → Prop} {v : V} (hg : gdB env g = true)
    (ha : omap (deep false (if lo then [] else H) deepN) (args.map (·.ev env)) = some us) (hs : (args.map (·.ev env)).all (V.free deepN) = true) (hf : Fn T f us [] (fun r h => deep false h deepN r = some v)) (hr : RunO T r (put env d v) H Q) :
    RunO T (⟨d,g,lo,.call false (.c (.fn f [])) args⟩ :: r) env H Q := RunO.c1 hg ha (by rw [hs]; exact hf) hr
theorem RunO.app1 {α : Type} (E : Enc α) {L : List Ob} {d : Option Nat} {g : Option (Nat × Bool)} {lo : Bool} {s x : Opd} {by_ : Nat} {r : List IOp} {Q : List V → Heap → Prop} (hp : HP H L) (hg : gdB env g = true) (i : Nat) {o : Option (Nat × Nat)} {l l' m : List α} {rest : List V} {z : Nat} {ag : Bool} (hi : L[i]? = some (o,l.flatMap E.c ++ rest))
    (hs : s.ev env = slv E.z E.ag l.length o) {xv : V} (hxe : x.ev env = xv) (hx : newCells H xv E.z = some (m.flatMap E.c,m.length)) (hz : z = E.z) (ha : ag = E.ag) (h : more by_ l m = some l')
    (hr : ∀ o' H1,HP H1 (L.set i (o',l'.flatMap E.c ++ [])) → RunO T r (put env d (slv E.z E.ag l'.length o')) H1 Q) : RunO T (⟨d,g,lo,.app s x z ag by_⟩ :: r) env H Q := by
  subst hz; subst ha; subst hxe;obtain ⟨o',H1,h1,h2⟩ := own_app E hp i hi hx h;exact RunO.w1 hg rfl (by show appV H (s.ev env) (x.ev env) _ _ _ = _; rw [hs]) h1 (hr o' H1 h2)
end
theorem omapc {α β : Type} {f : α → Option β} {a : α} {b : β} {l : List α} {r : List β} (h1 : f a = some b) (h2 : omap f l = some r) : omap f (a :: l) = some (b :: r) := by simp only [omap,h1,h2]
theorem omape {α β : Type} {f : α → Option β} {l l' : List α} {r : List β} (h1 : l = l') (h2 : omap f l' = some r) : omap f l = some r := h1 ▸ h2
theorem bind_some {α β : Type} {o : Option α} {f : α → Option β} {r : β} (h : o.bind f = some r) : ∃ y,o = some y ∧ f y = some r := Option.bind_eq_some_iff.1 h
theorem bool_of {c b : Bool} (h : c = b) : some (V.bool c) = some (V.bool b) := by rw [h]
theorem new_str (H : Heap) (m : List UInt8) : newCells H (.str ⟨m.toArray⟩) (EI .u8).z = some ((m.map fun b => (b.toNat : Int)).flatMap (EI .u8).c,(m.map fun b => (b.toNat : Int)).length) := by
  have e : ∀ m : List UInt8,(m.map fun b => V.int .u8 (b.toNat : Int)) = (m.map fun b => (b.toNat : Int)).flatMap (EI .u8).c := by
    intro m
    induction m with
    | nil => rfl
    | cons b m ih => rw [List.map_cons,List.map_cons,List.flatMap_cons,← ih]; rfl
  show (if 1 = 1 then some (strCells ⟨m.toArray⟩,(⟨m.toArray⟩ : ByteArray).size) else none) = _;rw [if_pos rfl,List.length_map,← e]; rfl
theorem omapn {α β : Type} {f : α → Option β} : omap f [] = some [] := rfl
def when (b : Bool) : Option Unit := if b then some () else none
theorem when_of {b : Bool} {u : Unit} (h : when b = some u) : b = true := by
  cases b with
  | true => rfl
  | false => cases h
theorem rem_of {k : IntKind} {a b : Int} {u : Unit} (h : when (b != 0) = some u) : binV .num .rem (.int k a) (.int k b) = some (.int k (Int.tmod a b)) := by
  have h := when_of h;simp only [bne_iff_ne,ne_eq] at h;simp only [binV,intB,if_true,if_neg h]
theorem shl_of {k k' : IntKind} {a b : Int} {u : Unit} (h : when (decide (0 ≤ b)) = some u) : binV .num .shl (.int k a) (.int k' b) = some (.int k (k.wrap (a * 2 ^ (min (Int.toNat b) k.bits)))) := by
  have h := of_decide_eq_true (when_of h);simp only [binV]; rw [if_neg (by omega)]
theorem shr_of {k k' : IntKind} {a b : Int} {u : Unit} (h : when (decide (0 ≤ b)) = some u) : binV .num .shr (.int k a) (.int k' b) = some (.int k (Int.fdiv a (2 ^ (min (Int.toNat b) k.bits)))) := by
  have h := of_decide_eq_true (when_of h);simp only [binV]; rw [if_neg (by omega)]
def bstr (l : List Int) : Option (List UInt8) := omap (fun n : Int => if 0 ≤ n ∧ n < 256 then some (UInt8.ofNat n.toNat) else none) l
theorem byte_map : ∀ {l : List Int} {s : List UInt8},bstr l = some s → omap byteOf (l.flatMap (EI .u8).c) = some s
  | [],s,h => h
  | n :: l,s,h => by
    unfold bstr at h;simp only [omap] at h
    split at h
    · rename_i b r hb hr
      have ih := byte_map (l := l) hr;rw [List.flatMap_cons];show omap byteOf (V.int .u8 n :: l.flatMap (EI .u8).c) = _;simp only [omap,ih,byteOf,hb]; exact h
    · cases h
theorem b2s_fz {H : Heap} {l : List Int} {s : List UInt8} (h : bstr l = some s) : b2sV H (.fz (List.map (EI .u8).e l)) = some (.str ⟨s.toArray⟩) := by
  have h1 := (EI .u8).new_fz H l;show (newCells H _ 1).bind _ = _;rw [show (1 : Nat) = (EI .u8).z from rfl,h1,Option.bind_some,byte_map h]; rfl
theorem sh_z {α : Type} (E : Enc α) (cs : List V) (off : Nat) {l : List α} {i : Nat} {a : α} (h : l[i]? = some a) (pre post : List V) (hc : cs = pre ++ (l.flatMap E.c ++ post)) (ho : off = pre.length) : takeSh cs (off + i * E.z) E.sh = some (E.e a) := by
  have hat := E.flat_at l post h;have hil : i < l.length := (List.getElem?_eq_some_iff.mp h).1;have hfl : (l.flatMap E.c).length = l.length * E.z := E.flat_len l;have hle : i * E.z + E.z ≤ l.length * E.z := by rw [← Nat.succ_mul]; exact Nat.mul_le_mul_right _ hil
  have hd : (cs.drop (off + i * E.z)).take E.z = E.c a := by
    rw [hc,ho,List.drop_length_add_append,hat]
  have hlen : off + i * E.z + E.z ≤ cs.length := by rw [hc,ho,List.length_append,List.length_append,hfl]; omega
  unfold Enc.sh;cases hag : E.ag with
  | true => simp only [if_true,takeSh]; rw [if_pos hlen,hd,E.h2 hag]
  | false =>
    simp only [Bool.false_eq_true,if_false,takeSh];have hz1 : E.z = 1 := by rw [← E.hz a,E.h1 hag]; rfl
    have hlt : off + i * E.z < cs.length := by omega
    rw [E.h1 hag,hz1] at hd;rw [hz1] at hlt ⊢;have h0 := congrArg (fun l : List V => l[0]?) hd;simp only [List.getElem?_take_of_lt (show 0 < 1 by omega),List.getElem?_drop,List.getElem?_cons_zero,Nat.add_zero] at h0;exact h0
theorem idxp_fp {α : Type} (E : Enc α) {l : List α} {i : Int} {a : α} (k : IntKind) {n : Nat} {cs : List V} (hc : cs = l.flatMap E.c) (hn : l.length = n) (h : idx l i = some a) : idxpV (.fp (.ag cs)) (.int k i) n E.z E.sh = some (.fp (E.e a)) := by
  obtain ⟨h0,h1,h2⟩ := idx_lt h;have ht := sh_z E cs 0 h2 [] [] (by rw [hc]; simp) rfl;rw [Nat.zero_add] at ht;simp only [idxpV];rw [if_pos ⟨h0,by omega⟩,ht,Option.bind_some];unfold Enc.sh;cases hag : E.ag with
  | true => rfl
  | false => simp only [Bool.false_eq_true,if_false,E.hag a,hag]; rfl
theorem mix_deep {α : Type} (E : Enc α) {H : Heap} {u : V} {l : List α} (h : u = (EL E).e l ∨ u = .nils ∧ l = []) (n : Nat) : deep false H (n + 1) u = some ((EL E).e l) := by
  rcases h with rfl | ⟨rfl,rfl⟩ <;> rfl
end Go.Eng
namespace Go.Eng.Cop
open Go Go.Eng
set_option linter.unusedVariables false
set_option linter.unusedSimpArgs false
structure T_reader where
  fb : (List Int)
  deriving DecidableEq
structure T_Code where
  fKind : Int
  fOp : Int
  fType : Int
  fTo : Int
  fTrap : Int
  fA : Int
  fB : Int
  fC : Int
  fBits : Int
  deriving DecidableEq
def E_Code : Enc T_Code where
  e := fun x => .ag [(EI .u8).e x.fKind,(EI .u8).e x.fOp,(EI .u8).e x.fType,(EI .u8).e x.fTo,(EI .u8).e x.fTrap,(EI .i64).e x.fA,(EI .i64).e x.fB,(EI .i64).e x.fC,(EI .u64).e x.fBits]
  c := fun x => [(EI .u8).e x.fKind,(EI .u8).e x.fOp,(EI .u8).e x.fType,(EI .u8).e x.fTo,(EI .u8).e x.fTrap,(EI .i64).e x.fA,(EI .i64).e x.fB,(EI .i64).e x.fC,(EI .u64).e x.fBits]
  z := 9
  ag := true
  sf := true
  he := fun _ => rfl
  hz := fun _ => rfl
  hz0 := by decide
  ha := .inl rfl
  hag := fun _ => rfl
  hc := fun _ => rfl
  h1 := fun h => by cases h
  h2 := fun _ _ => rfl
  hd := fun _ _ _ _ _ => rfl
structure T_form where
  fa : Int
  fb : Int
  fc : Int
  fop : Bool
  ft : Bool
  fto : Bool
  ftrap : Bool
  fbits : Bool
  frow : Bool
  deriving DecidableEq
def E_form : Enc T_form where
  e := fun x => .ag [(EI .u8).e x.fa,(EI .u8).e x.fb,(EI .u8).e x.fc,EB.e x.fop,EB.e x.ft,EB.e x.fto,EB.e x.ftrap,EB.e x.fbits,EB.e x.frow]
  c := fun x => [(EI .u8).e x.fa,(EI .u8).e x.fb,(EI .u8).e x.fc,EB.e x.fop,EB.e x.ft,EB.e x.fto,EB.e x.ftrap,EB.e x.fbits,EB.e x.frow]
  z := 9
  ag := true
  sf := true
  he := fun _ => rfl
  hz := fun _ => rfl
  hz0 := by decide
  ha := .inl rfl
  hag := fun _ => rfl
  hc := fun _ => rfl
  h1 := fun h => by cases h
  h2 := fun _ _ => rfl
  hd := fun _ _ _ _ _ => rfl
structure T_Unit where
  fName : (List UInt8)
  fParams : (List Int)
  fResult : Int
  fFrame : Int
  fCode : (List T_Code)
  deriving DecidableEq
def E_Unit : Enc T_Unit where
  e := fun x => .ag [ES.e x.fName,(EL (EI .u8)).e x.fParams,(EI .u8).e x.fResult,(EI .i64).e x.fFrame,(EL E_Code).e x.fCode]
  c := fun x => [ES.e x.fName,(EL (EI .u8)).e x.fParams,(EI .u8).e x.fResult,(EI .i64).e x.fFrame,(EL E_Code).e x.fCode]
  z := 5
  ag := true
  sf := false
  he := fun _ => rfl
  hz := fun _ => rfl
  hz0 := by decide
  ha := .inl rfl
  hag := fun _ => rfl
  hc := fun _ => rfl
  h1 := fun h => by cases h
  h2 := fun _ _ => rfl
  hd := fun s _ _ _ h => by rcases h with rfl | h <;> first | rfl | cases h
theorem eqs_Code (ne : Bool) (a b : T_Code) : eqsV ne [.int,.int,.int,.int,.int,.int,.int,.int,.int] (E_Code.e a) (E_Code.e b) = some (.bool (if ne then !(decide (a = b)) else decide (a = b))) := by
  have key : eqLeafs [.int,.int,.int,.int,.int,.int,.int,.int,.int] (E_Code.c a) (E_Code.c b) = some (decide (a = b)) := by
    obtain ⟨a1,a2,a3,a4,a5,a6,a7,a8,a9⟩ := a; obtain ⟨b1,b2,b3,b4,b5,b6,b7,b8,b9⟩ := b;simp only [eqLeafs,E_Code,eqLeaf,EI,EB,ES,if_true,list_st,T_Code.mk.injEq,Option.some.injEq];rw [Bool.eq_iff_iff]
    simp [and_assoc]
  rw [E_Code.h2 rfl a,E_Code.h2 rfl b];simp only [eqsV,key]; cases ne <;> rfl
def G0 : List T_form := [(⟨(0 : Int),(0 : Int),(0 : Int),false,false,false,false,false,false⟩ : T_form),(⟨(1 : Int),(0 : Int),(0 : Int),false,false,false,false,true,false⟩ : T_form),(⟨(1 : Int),(1 : Int),(0 : Int),false,false,false,false,false,false⟩ : T_form),(⟨(1 : Int),(1 : Int),(7 : Int),true,true,false,false,false,false⟩ : T_form),(⟨(1 : Int),(1 : Int),(0 : Int),false,true,true,false,false,false⟩ : T_form),(⟨(1 : Int),(2 : Int),(0 : Int),false,false,false,false,false,false⟩ : T_form),(⟨(2 : Int),(1 : Int),(0 : Int),false,false,false,false,false,false⟩ : T_form),(⟨(1 : Int),(1 : Int),(0 : Int),false,false,false,false,false,true⟩ : T_form),(⟨(1 : Int),(1 : Int),(0 : Int),false,false,false,false,false,true⟩ : T_form),(⟨(0 : Int),(0 : Int),(0 : Int),false,false,false,false,false,true⟩ : T_form),(⟨(1 : Int),(4 : Int),(0 : Int),false,false,false,false,false,false⟩ : T_form),(⟨(5 : Int),(1 : Int),(0 : Int),false,false,false,false,false,false⟩ : T_form),(⟨(6 : Int),(0 : Int),(0 : Int),false,false,false,false,false,false⟩ : T_form),(⟨(1 : Int),(0 : Int),(0 : Int),false,true,false,false,false,false⟩ : T_form),(⟨(3 : Int),(0 : Int),(0 : Int),false,false,false,false,false,false⟩ : T_form),(⟨(1 : Int),(3 : Int),(3 : Int),false,false,false,false,false,false⟩ : T_form),(⟨(1 : Int),(0 : Int),(0 : Int),false,false,false,false,false,false⟩ : T_form),(⟨(0 : Int),(0 : Int),(0 : Int),false,false,false,true,false,false⟩ : T_form)]
end Go.Eng.Cop
namespace Go.Eng
open Go
set_option linter.unusedSectionVars false
set_option linter.unusedVariables false
set_option linter.unusedSimpArgs false
variable [Xtn]
abbrev Zl {α : Type} (E : Enc α) (l : List α) : V := V.fz (List.map E.e l)
abbrev i6 (n : Int) : V := V.int .i64 n
abbrev vI (n : Int) : V := V.int .i64 n
abbrev ln {α : Type} (l : List α) : Int := ((List.length l : Nat) : Int)
section
variable {T : Nat → Option IFun} {env : List V} {H : Heap}
theorem Ro.t (n : Nat) {ops : List IOp} {Q : List V → Heap → Prop} (hr : RunO T (ops.drop n) (envAfter (ops.take n) env H) H Q) (h : exOps noF (ops.take n) env H = some (envAfter (ops.take n) env H,H) := by kernel_rfl) : RunO T ops env H Q := RunO.tk n h hr
theorem Ro.d (e' : List V) {ts : List Nat} {b : Ir} {Q : X → List V → Heap → Prop} (h : Run T b e' H Q) (he : clrEnv ts env = e' := by kernel_rfl) : RunO T [] env H (fun e h => thn T (.clr ts b) Q .nrm e h) := RunO.done he h
theorem Rn.c (e' : List V) {ts : List Nat} {b : Ir} {Q : X → List V → Heap → Prop} (h : Run T b e' H Q) (he : clrEnv ts env = e' := by kernel_rfl) : thn T (.clr ts b) Q .nrm env H := Run.clr (he ▸ h)
theorem Rn.k (e' : List V) {ts : List Nat} {b : Ir} {Q : X → List V → Heap → Prop} (h : Run T b e' H Q) (he : clrEnv ts env = e' := by kernel_rfl) : Run T (.clr ts b) env H Q := Run.clr (he ▸ h)
theorem Ro.p {d : Option Nat} {g : Option (Nat × Bool)} {lo : Bool} {k : Kind} {r : List IOp} {Q : List V → Heap → Prop} {v : Option V} {u : V} (hv : v = some u) (hr : RunO T r (put env d u) H Q) (hg : gdB env g = true := by kernel_rfl) (hq : k.quiet = true := by rfl) (h : evq noF env (if lo then [] else H) k = v := by kernel_rfl) :
    RunO T (⟨d,g,lo,k⟩ :: r) env H Q := RunO.p1 hg hq h hv hr
theorem Rn.t {c : Opd} {a b : Ir} {Q : X → List V → Heap → Prop} {x : Bool} (hx : x = true) (h : Run T a env H Q) (hc : c.ev env = .bool x := by kernel_rfl) : Run T (.cond c a b) env H Q := Run.condT (hx ▸ hc) h
theorem Rn.f {c : Opd} {a b : Ir} {Q : X → List V → Heap → Prop} {x : Bool} (hx : x = false) (h : Run T b env H Q) (hc : c.ev env = .bool x := by kernel_rfl) : Run T (.cond c a b) env H Q := Run.condF (hx ▸ hc) h
theorem Rn.g {a : List IOp} {b : Ir} {Q : X → List V → Heap → Prop} (h : RunO T a env H (fun e h => thn T b Q .nrm e h)) : Run T (.seq (.rgn a) b) env H Q := Run.seq (Run.rgn h)
end
theorem tf (b : Bool) : b = true ∨ b = false := by cases b <;> simp
end Go.Eng
namespace Go.Eng.Cop
open Go Go.Eng
set_option linter.unusedSectionVars false
set_option linter.unusedVariables false
set_option linter.unusedSimpArgs false
set_option maxRecDepth 100000
def keepsU : T_Unit := ⟨[102],[],4,1,[⟨6,0,0,0,0,0,3,0,0⟩,⟨1,0,0,0,0,3,0,0,5⟩,⟨2,0,0,0,0,1,3,0,0⟩,⟨5,0,0,0,0,3,0,0,0⟩,⟨16,0,0,0,0,1,0,0,0⟩]⟩
def F10 (x : List T_Unit) (u : Int) : Option Bool := if x = [keepsU] ∧ u = 0 then some true else if x = [keepsU] ∧ u = 1 then some false else none
end Go.Eng.Cop
namespace Go.Eng.Cop
open Go Go.Eng
set_option linter.unusedSectionVars false
set_option linter.unusedVariables false
set_option maxRecDepth 100000
theorem Run.ex {T : Nat → Option IFun} {ir : Ir} {env env' : List V} {H H' : Heap} {x : X} {Q : X → List V → Heap → Prop} (k : Nat) (h : exec (exF T k) k ir env H = some (x,env',H')) (hq : Q x env' H') : Run T ir env H Q := ⟨k,x,env',H',h,hq⟩
def bodyOf : Ir → Ir
  | .block _ (.loop b) => b
  | i => i
abbrev bL : Ir := bodyOf i29n40
abbrev bM : Ir := bodyOf i29n57
def cV (k a b bits : Int) : V := .ag [.int .u8 k,.int .u8 0,.int .u8 0,.int .u8 0,.int .u8 0,.int .i64 a,.int .i64 b,.int .i64 0,.int .u64 bits]
def k0 : Nat × List V := (1,[(.mpb [(.int .i64 0)] [(.int .i64 0)])])
def k1 : Nat × List V := (0,[(.ptr 11 0 0),.nilp,.nilp,.nilp,.nilp])
def k2 : Nat × List V := (0,[(.fp (.ag [(.str ⟨#[102]⟩),(.fz []),(.int .u8 4),(.int .i64 1),(.fz [(cV 6 0 3 0),(cV 1 3 0 5),(cV 2 1 3 0),(cV 5 3 0 0),(cV 16 1 0 0)])])),(.int .i64 1),(.int .i64 (-1)),(.int .i64 (-1)),(.int .i64 (-1)),(.int .i64 0),(.int .i64 (-1)),(.int .i64 (-1)),(.int .i64 (-1)),(.int .i64 (-1)),(.mp 0),(.sl 1 0 0 5 1 false)])
def k3 : Nat × List V := (0,[(.ptr 2 0 0)])
def k4 : Nat × List V := (0,[(.int .u8 6),(.int .u8 0),(.int .u8 0),(.int .u8 0),(.int .u8 0),(.int .i64 0),(.int .i64 3),(.int .i64 0),(.int .u64 0)])
def k5 : Nat × List V := (0,[(.int .u8 1),(.int .u8 0),(.int .u8 0),(.int .u8 0),(.int .u8 0),(.int .i64 3),(.int .i64 0),(.int .i64 0),(.int .u64 5)])
def k6 : Nat × List V := (0,[(.int .u8 2),(.int .u8 0),(.int .u8 0),(.int .u8 0),(.int .u8 0),(.int .i64 1),(.int .i64 3),(.int .i64 0),(.int .u64 0)])
def k7 : Nat × List V := (0,[(.int .u8 5),(.int .u8 0),(.int .u8 0),(.int .u8 0),(.int .u8 0),(.int .i64 3),(.int .i64 0),(.int .i64 0),(.int .u64 0)])
def k8 : Nat × List V := (0,[(.int .u8 16),(.int .u8 0),(.int .u8 0),(.int .u8 0),(.int .u8 0),(.int .i64 1),(.int .i64 0),(.int .i64 0),(.int .u64 0)])
def k9 : Nat × List V := (0,[(.int .u64 0)])
def k10 : Nat × List V := (0,[(.int .u8 0),(.int .u8 248),(.int .u8 0),(.sl 10 0 0 1 1 false)])
def g_b : Heap := [k0,k1,k2,k3,k4,k4,k5,k6,k7,k8,k9,k10]
def f_r0 : List V := mkE [(0,(.ptr 2 0 0)),(1,(.bool false))] 134
def k11 : Nat × List V := (0,[(.int .i64 0)])
def f_r1 : List V := mkE [(0,(.ptr 2 0 0)),(1,(.bool false)),(0,(.sl 12 0 0 1 1 false)),(7,(.sl 12 0 0 1 1 false))] 125
def g_r1 : Heap := [k0,k1,k2,k3,k4,k4,k5,k6,k7,k8,k9,k10,k11]
def k12 : Nat × List V := (0,[(.ptr 11 0 0),(.ptr 17 0 0),.nilp,.nilp,.nilp])
def k13 : Nat × List V := (1,[(.int .i64 1)])
def k14 : Nat × List V := (1,[(.int .u64 1)])
def k15 : Nat × List V := (0,[(.int .u8 0),(.int .u8 248),(.int .u8 8),(.sl 14 1 0 1 1 false)])
def k16 : Nat × List V := (0,[(.int .u8 0),(.int .u8 248),(.int .u8 8),(.sl 16 1 0 1 1 false)])
def f_l0 : List V := mkE [(0,(.ptr 2 0 0)),(2,(.sl 12 1 0 1 1 false)),(2,(.ptr 15 0 0)),(41,(.fz [(.int .i64 1)])),(0,(.int .i64 1)),(0,(.int .i64 1)),(0,(.bool false))] 85
def g_l0 : Heap := [k0,k12,k2,k3,k4,k4,k5,k6,k7,k8,k9,k10,k13,k4,k14,k15,k14,k16]
def k17 : Nat × List V := (0,[(.ptr 11 0 0),(.ptr 17 0 0),(.ptr 22 0 0),.nilp,.nilp])
def k18 : Nat × List V := (2,[(.int .i64 2)])
def k19 : Nat × List V := (0,[(.int .u8 8),(.int .u8 240),(.int .u8 8),(.sl 19 1 0 1 1 false)])
def k20 : Nat × List V := (0,[(.int .u8 8),(.int .u8 240),(.int .u8 8),(.sl 21 1 0 1 1 false)])
def f_l1 : List V := mkE [(0,(.ptr 2 0 0)),(2,(.sl 12 2 0 1 1 false)),(2,(.ptr 20 0 0)),(41,(.fz [(.int .i64 2)])),(0,(.int .i64 1)),(0,(.int .i64 1)),(0,(.bool false))] 85
def g_l1 : Heap := [k0,k17,k2,k3,k4,k4,k5,k6,k7,k8,k9,k10,k18,k4,k14,k15,k14,k16,k5,k14,k19,k14,k20]
def k21 : Nat × List V := (0,[(.ptr 11 0 0),(.ptr 17 0 0),(.ptr 22 0 0),(.ptr 27 0 0),.nilp])
def k22 : Nat × List V := (3,[(.int .i64 3)])
def k23 : Nat × List V := (0,[(.int .u8 10),(.int .u8 240),(.int .u8 8),(.sl 24 1 0 1 1 false)])
def k24 : Nat × List V := (0,[(.int .u8 10),(.int .u8 240),(.int .u8 8),(.sl 26 1 0 1 1 false)])
def f_l2 : List V := mkE [(0,(.ptr 2 0 0)),(2,(.sl 12 3 0 1 1 false)),(2,(.ptr 25 0 0)),(41,(.fz [(.int .i64 3)])),(0,(.int .i64 1)),(0,(.int .i64 1)),(0,(.bool false))] 85
def g_l2 : Heap := [k0,k21,k2,k3,k4,k4,k5,k6,k7,k8,k9,k10,k22,k4,k14,k15,k14,k16,k5,k14,k19,k14,k20,k6,k14,k23,k14,k24]
def k25 : Nat × List V := (0,[(.ptr 11 0 0),(.ptr 17 0 0),(.ptr 22 0 0),(.ptr 27 0 0),(.ptr 32 0 0)])
def k26 : Nat × List V := (4,[(.int .i64 4)])
def k27 : Nat × List V := (0,[(.int .u8 10),(.int .u8 248),(.int .u8 8),(.sl 29 1 0 1 1 false)])
def k28 : Nat × List V := (0,[(.int .u8 10),(.int .u8 248),(.int .u8 8),(.sl 31 1 0 1 1 false)])
def f_l3 : List V := mkE [(0,(.ptr 2 0 0)),(2,(.sl 12 4 0 1 1 false)),(2,(.ptr 30 0 0)),(41,(.fz [(.int .i64 4)])),(0,(.int .i64 1)),(0,(.int .i64 1)),(0,(.bool false))] 85
def g_l3 : Heap := [k0,k25,k2,k3,k4,k4,k5,k6,k7,k8,k9,k10,k26,k4,k14,k15,k14,k16,k5,k14,k19,k14,k20,k6,k14,k23,k14,k24,k7,k14,k27,k14,k28]
def k29 : Nat × List V := (0,[(.int .u8 10),(.int .u8 248),(.int .u8 8),(.sl 34 1 0 1 1 false)])
def f_l4 : List V := mkE [(0,(.ptr 2 0 0)),(2,(.sl 12 4 0 0 1 false)),(2,(.ptr 35 0 0)),(41,(.fz [])),(0,(.int .i64 0)),(0,(.int .i64 0)),(0,(.bool false))] 85
def g_l4 : Heap := [k0,k25,k2,k3,k4,k4,k5,k6,k7,k8,k9,k10,k26,k4,k14,k15,k14,k16,k5,k14,k19,k14,k20,k6,k14,k23,k14,k24,k7,k14,k27,k14,k28,k8,k14,k29]
def f_l5 : List V := mkE [(0,(.ptr 2 0 0)),(2,(.sl 12 4 0 0 1 false)),(8,(.sl 12 4 0 0 1 false)),(0,(.int .i64 0)),(0,(.bool false))] 122
def g_l5 : Heap := [k0,k25,k2,k3,k4,k4,k5,k6,k7,k8,k9,k10,k26,k4,k14,k15,k14,k16,k5,k14,k19,k14,k20,k6,k14,k23,k14,k24,k7,k14,k27,k14,k28,k8,k14,k29]
def f_q : List V := mkE [(0,(.ptr 2 0 0)),(2,(.sl 12 4 0 0 1 false)),(8,(.sl 12 4 0 0 1 false)),(0,(.int .i64 0)),(0,(.bool false)),(92,(.ptr 2 0 0)),(0,(.ptr 2 0 0)),(0,(.ptr 2 0 11)),(0,(.sl 1 0 0 5 1 false)),(0,(.int .i64 5)),(0,(.int .i64 0))] 24
def g_q : Heap := [k0,k25,k2,k3,k4,k4,k5,k6,k7,k8,k9,k10,k26,k4,k14,k15,k14,k16,k5,k14,k19,k14,k20,k6,k14,k23,k14,k24,k7,k14,k27,k14,k28,k8,k14,k29]
def f_m0 : List V := mkE [(0,(.ptr 2 0 0)),(8,(.int .i64 0)),(0,(.ptr 11 0 0)),(99,(.sl 1 0 0 5 1 false)),(0,(.int .i64 5)),(0,(.int .i64 1)),(0,(.bool true)),(0,(.int .i64 0)),(0,(.ptr 1 0 0)),(0,(.ptr 11 0 0)),(0,(.ptr 11 0 0)),(0,(.bool true)),(0,(.bool true)),(0,(.ptr 2 0 0)),(0,(.ptr 11 0 0)),(0,(.ptr 2 0 0)),(0,(.ptr 2 0 0)),(0,(.ptr 2 0 0)),(0,(.fp (.ag [(.str ⟨#[102]⟩),(.fz []),(.int .u8 4),(.int .i64 1),(.fz [(cV 6 0 3 0),(cV 1 3 0 5),(cV 2 1 3 0),(cV 5 3 0 0),(cV 16 1 0 0)])]))),(0,(.fp (.ag [(.str ⟨#[102]⟩),(.fz []),(.int .u8 4),(.int .i64 1),(.fz [(cV 6 0 3 0),(cV 1 3 0 5),(cV 2 1 3 0),(cV 5 3 0 0),(cV 16 1 0 0)])]))),(0,(.fp (.fz [(cV 6 0 3 0),(cV 1 3 0 5),(cV 2 1 3 0),(cV 5 3 0 0),(cV 16 1 0 0)]))),(0,(.fz [(cV 6 0 3 0),(cV 1 3 0 5),(cV 2 1 3 0),(cV 5 3 0 0),(cV 16 1 0 0)])),(0,(.int .i64 0)),(0,(.fp (cV 6 0 3 0))),(0,(cV 6 0 3 0)),(0,(.int .i64 0)),(0,(.bool true)),(0,(.bool false)),(0,(.bool false)),(0,(.int .i64 1))] 0
def g_m0 : Heap := [k0,k25,k2,k3,k4,k4,k5,k6,k7,k8,k9,k10,k26,k4,k14,k15,k14,k16,k5,k14,k19,k14,k20,k6,k14,k23,k14,k24,k7,k14,k27,k14,k28,k8,k14,k29]
def f_m1 : List V := mkE [(0,(.ptr 2 0 0)),(8,(.int .i64 1)),(0,(.ptr 17 0 0)),(99,(.sl 1 0 0 5 1 false)),(0,(.int .i64 5)),(0,(.int .i64 2)),(0,(.bool true)),(0,(.int .i64 1)),(0,(.ptr 1 0 1)),(0,(.ptr 17 0 0)),(0,(.ptr 17 0 0)),(0,(.bool true)),(0,(.bool true)),(0,(.ptr 2 0 0)),(0,(.ptr 17 0 0)),(0,(.ptr 2 0 0)),(0,(.ptr 2 0 0)),(0,(.ptr 2 0 0)),(0,(.fp (.ag [(.str ⟨#[102]⟩),(.fz []),(.int .u8 4),(.int .i64 1),(.fz [(cV 6 0 3 0),(cV 1 3 0 5),(cV 2 1 3 0),(cV 5 3 0 0),(cV 16 1 0 0)])]))),(0,(.fp (.ag [(.str ⟨#[102]⟩),(.fz []),(.int .u8 4),(.int .i64 1),(.fz [(cV 6 0 3 0),(cV 1 3 0 5),(cV 2 1 3 0),(cV 5 3 0 0),(cV 16 1 0 0)])]))),(0,(.fp (.fz [(cV 6 0 3 0),(cV 1 3 0 5),(cV 2 1 3 0),(cV 5 3 0 0),(cV 16 1 0 0)]))),(0,(.fz [(cV 6 0 3 0),(cV 1 3 0 5),(cV 2 1 3 0),(cV 5 3 0 0),(cV 16 1 0 0)])),(0,(.int .i64 1)),(0,(.fp (cV 1 3 0 5))),(0,(cV 1 3 0 5)),(0,(.int .i64 1)),(0,(.bool true)),(0,(.bool false)),(0,(.bool false)),(0,(.int .i64 2))] 0
def g_m1 : Heap := [k0,k25,k2,k3,k4,k4,k5,k6,k7,k8,k9,k10,k26,k4,k14,k15,k14,k16,k5,k14,k19,k14,k20,k6,k14,k23,k14,k24,k7,k14,k27,k14,k28,k8,k14,k29]
def f_m2 : List V := mkE [(0,(.ptr 2 0 0)),(8,(.int .i64 2)),(0,(.ptr 22 0 0)),(99,(.sl 1 0 0 5 1 false)),(0,(.int .i64 5)),(0,(.int .i64 3)),(0,(.bool true)),(0,(.int .i64 2)),(0,(.ptr 1 0 2)),(0,(.ptr 22 0 0)),(0,(.ptr 22 0 0)),(0,(.bool true)),(0,(.bool true)),(0,(.ptr 2 0 0)),(0,(.ptr 22 0 0)),(0,(.ptr 2 0 0)),(0,(.ptr 2 0 0)),(0,(.ptr 2 0 0)),(0,(.fp (.ag [(.str ⟨#[102]⟩),(.fz []),(.int .u8 4),(.int .i64 1),(.fz [(cV 6 0 3 0),(cV 1 3 0 5),(cV 2 1 3 0),(cV 5 3 0 0),(cV 16 1 0 0)])]))),(0,(.fp (.ag [(.str ⟨#[102]⟩),(.fz []),(.int .u8 4),(.int .i64 1),(.fz [(cV 6 0 3 0),(cV 1 3 0 5),(cV 2 1 3 0),(cV 5 3 0 0),(cV 16 1 0 0)])]))),(0,(.fp (.fz [(cV 6 0 3 0),(cV 1 3 0 5),(cV 2 1 3 0),(cV 5 3 0 0),(cV 16 1 0 0)]))),(0,(.fz [(cV 6 0 3 0),(cV 1 3 0 5),(cV 2 1 3 0),(cV 5 3 0 0),(cV 16 1 0 0)])),(0,(.int .i64 2)),(0,(.fp (cV 2 1 3 0))),(0,(cV 2 1 3 0)),(0,(.int .i64 2)),(0,(.bool true)),(0,(.bool false)),(0,(.bool false)),(0,(.int .i64 3))] 0
def g_m2 : Heap := [k0,k25,k2,k3,k4,k4,k5,k6,k7,k8,k9,k10,k26,k4,k14,k15,k14,k16,k5,k14,k19,k14,k20,k6,k14,k23,k14,k24,k7,k14,k27,k14,k28,k8,k14,k29]
def f_m3 : List V := mkE [(0,(.ptr 2 0 0)),(8,(.int .i64 3)),(0,(.ptr 27 0 0)),(99,(.sl 1 0 0 5 1 false)),(0,(.int .i64 5)),(0,(.int .i64 4)),(0,(.bool true)),(0,(.int .i64 3)),(0,(.ptr 1 0 3)),(0,(.ptr 27 0 0)),(0,(.ptr 27 0 0)),(0,(.bool true)),(0,(.bool true)),(0,(.ptr 2 0 0)),(0,(.ptr 27 0 0)),(0,(.ptr 2 0 0)),(0,(.ptr 2 0 0)),(0,(.ptr 2 0 0)),(0,(.fp (.ag [(.str ⟨#[102]⟩),(.fz []),(.int .u8 4),(.int .i64 1),(.fz [(cV 6 0 3 0),(cV 1 3 0 5),(cV 2 1 3 0),(cV 5 3 0 0),(cV 16 1 0 0)])]))),(0,(.fp (.ag [(.str ⟨#[102]⟩),(.fz []),(.int .u8 4),(.int .i64 1),(.fz [(cV 6 0 3 0),(cV 1 3 0 5),(cV 2 1 3 0),(cV 5 3 0 0),(cV 16 1 0 0)])]))),(0,(.fp (.fz [(cV 6 0 3 0),(cV 1 3 0 5),(cV 2 1 3 0),(cV 5 3 0 0),(cV 16 1 0 0)]))),(0,(.fz [(cV 6 0 3 0),(cV 1 3 0 5),(cV 2 1 3 0),(cV 5 3 0 0),(cV 16 1 0 0)])),(0,(.int .i64 3)),(0,(.fp (cV 5 3 0 0))),(0,(cV 5 3 0 0)),(0,(.int .i64 3)),(0,(.bool true)),(0,(.bool false)),(0,(.bool false)),(0,(.int .i64 4))] 0
def g_m3 : Heap := [k0,k25,k2,k3,k4,k4,k5,k6,k7,k8,k9,k10,k26,k4,k14,k15,k14,k16,k5,k14,k19,k14,k20,k6,k14,k23,k14,k24,k7,k14,k27,k14,k28,k8,k14,k29]
def f_m4 : List V := mkE [(0,(.ptr 2 0 0)),(8,(.int .i64 4)),(0,(.ptr 32 0 0)),(99,(.sl 1 0 0 5 1 false)),(0,(.int .i64 5)),(0,(.int .i64 5)),(0,(.bool true)),(0,(.int .i64 4)),(0,(.ptr 1 0 4)),(0,(.ptr 32 0 0)),(0,(.ptr 32 0 0)),(0,(.bool true)),(0,(.bool true)),(0,(.ptr 2 0 0)),(0,(.ptr 32 0 0)),(0,(.ptr 2 0 0)),(0,(.ptr 2 0 0)),(0,(.ptr 2 0 0)),(0,(.fp (.ag [(.str ⟨#[102]⟩),(.fz []),(.int .u8 4),(.int .i64 1),(.fz [(cV 6 0 3 0),(cV 1 3 0 5),(cV 2 1 3 0),(cV 5 3 0 0),(cV 16 1 0 0)])]))),(0,(.fp (.ag [(.str ⟨#[102]⟩),(.fz []),(.int .u8 4),(.int .i64 1),(.fz [(cV 6 0 3 0),(cV 1 3 0 5),(cV 2 1 3 0),(cV 5 3 0 0),(cV 16 1 0 0)])]))),(0,(.fp (.fz [(cV 6 0 3 0),(cV 1 3 0 5),(cV 2 1 3 0),(cV 5 3 0 0),(cV 16 1 0 0)]))),(0,(.fz [(cV 6 0 3 0),(cV 1 3 0 5),(cV 2 1 3 0),(cV 5 3 0 0),(cV 16 1 0 0)])),(0,(.int .i64 4)),(0,(.fp (cV 16 1 0 0))),(0,(cV 16 1 0 0)),(0,(.int .i64 4)),(0,(.bool true)),(0,(.bool false)),(0,(.bool false)),(0,(.int .i64 5))] 0
def g_m4 : Heap := [k0,k25,k2,k3,k4,k4,k5,k6,k7,k8,k9,k10,k26,k4,k14,k15,k14,k16,k5,k14,k19,k14,k20,k6,k14,k23,k14,k24,k7,k14,k27,k14,k28,k8,k14,k29]
def f_m5 : List V := mkE [(0,(.ptr 2 0 0)),(109,(.sl 1 0 0 5 1 false)),(0,(.int .i64 5)),(0,(.int .i64 5)),(0,(.bool false))] 23
def g_m5 : Heap := [k0,k25,k2,k3,k4,k4,k5,k6,k7,k8,k9,k10,k26,k4,k14,k15,k14,k16,k5,k14,k19,k14,k20,k6,k14,k23,k14,k24,k7,k14,k27,k14,k28,k8,k14,k29]
def f_z : List V := mkE [(0,(.ptr 2 0 0)),(1,(.bool true)),(107,(.sl 1 0 0 5 1 false)),(0,(.int .i64 5)),(0,(.int .i64 5)),(0,(.bool false))] 23
def g_z : Heap := [k0,k25,k2,k3,k4,k4,k5,k6,k7,k8,k9,k10,k26,k4,k14,k15,k14,k16,k5,k14,k19,k14,k20,k6,k14,k23,k14,k24,k7,k14,k27,k14,k28,k8,k14,k29]
end Go.Eng.Cop
namespace Go.Eng.Cop
open Go Go.Eng
set_option linter.unusedSectionVars false
set_option maxRecDepth 100000
theorem s_b : exF T 60 28 [.fp (E_Unit.e keepsU)] [] = some (.ptr 2 0 0,g_b) := by kernel_rfl
end Go.Eng.Cop
namespace Go.Eng.Cop
open Go Go.Eng
set_option linter.unusedSectionVars false
set_option maxRecDepth 100000
theorem s_r0 : exec (exF T 60) 60 (.rgn i29r0) ((.ptr 2 0 0) :: List.replicate 136 .un) g_b = some (.nrm,f_r0,g_b) := by kernel_rfl
theorem s_r1 : exec (exF T 60) 60 (.rgn i29r1) f_r0 g_b = some (.nrm,f_r1,g_r1) := by kernel_rfl
theorem s_l0 : exec (exF T 60) 60 bL f_r1 g_r1 = some (.nrm,f_l0,g_l0) := by kernel_rfl
theorem s_l1 : exec (exF T 60) 60 bL f_l0 g_l0 = some (.nrm,f_l1,g_l1) := by kernel_rfl
theorem s_l2 : exec (exF T 60) 60 bL f_l1 g_l1 = some (.nrm,f_l2,g_l2) := by kernel_rfl
end Go.Eng.Cop
namespace Go.Eng.Cop
open Go Go.Eng
set_option linter.unusedSectionVars false
set_option maxRecDepth 100000
theorem s_l3 : exec (exF T 60) 60 bL f_l2 g_l2 = some (.nrm,f_l3,g_l3) := by kernel_rfl
theorem s_l4 : exec (exF T 60) 60 bL f_l3 g_l3 = some (.nrm,f_l4,g_l4) := by kernel_rfl
theorem s_l5 : exec (exF T 60) 60 bL f_l4 g_l4 = some (.ext 0,f_l5,g_l5) := by kernel_rfl
end Go.Eng.Cop
namespace Go.Eng.Cop
open Go Go.Eng
set_option linter.unusedSectionVars false
set_option maxRecDepth 100000
theorem s_q : exec (exF T 60) 60 (.rgn i29r41) f_l5 g_l5 = some (.nrm,f_q,g_q) := by kernel_rfl
theorem s_m0 : exec (exF T 60) 60 bM f_q g_q = some (.nrm,f_m0,g_m0) := by kernel_rfl
theorem s_m1 : exec (exF T 60) 60 bM f_m0 g_m0 = some (.nrm,f_m1,g_m1) := by kernel_rfl
theorem s_m2 : exec (exF T 60) 60 bM f_m1 g_m1 = some (.nrm,f_m2,g_m2) := by kernel_rfl
theorem s_m3 : exec (exF T 60) 60 bM f_m2 g_m2 = some (.nrm,f_m3,g_m3) := by kernel_rfl
theorem s_m4 : exec (exF T 60) 60 bM f_m3 g_m3 = some (.nrm,f_m4,g_m4) := by kernel_rfl
theorem s_m5 : exec (exF T 60) 60 bM f_m4 g_m4 = some (.ext 5,f_m5,g_m5) := by kernel_rfl
theorem s_z : exec (exF T 60) 60 i29n60 f_m5 g_m5 = some (.ret,f_z,g_z) := by kernel_rfl
end Go.Eng.Cop
namespace Go.Eng.Cop
open Go Go.Eng
set_option linter.unusedSectionVars false
set_option maxRecDepth 100000
theorem sound1 : (exF T 60 10 [Zl E_Unit [keepsU],.int .i64 1] []).map (·.1) = some (.bool false) := by kernel_rfl
end Go.Eng.Cop
