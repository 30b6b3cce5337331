/- Functions of this seat, run on unknown values by the rules of the small machine (no condition beyond those stated). -/
import Derived.Test.YthpbodnnbjdnlaaDoorCopIr
import Derived.Test.YthpbodnnbjdnlaaDoorEngTUp
import Derived.Test.YthpbodnnbjdnlaaDoorCopS3Up
set_option linter.unusedSectionVars false
namespace Go.Eng.Cop
open Go Go.Eng
set_option linter.unusedVariables false
set_option linter.unusedSimpArgs false
set_option maxRecDepth 20000
abbrev Q80 (b1 : Nat) (L : List Ob) (r : (Option ((List Int) × T_reader))) : Bool → V → Heap → Prop := fun p v h => match r,p with
  | some r,false => v = (EL (EI .u8)).e r.1 ∧ HP h ((some (b1,0),[(Zl (EI .u8) r.2.fb)]) :: L)
  | none,true => V.isI v = true ∧ ∃ c0 : List V,c0.all (V.free deepN) = true ∧ HP h ((some (b1,0),c0) :: L)
  | _,_ => False
def F80 (x0 : T_reader) (x1 : Int) : Option (Option ((List Int) × T_reader)) :=
  if (decide (x1 > ((List.length x0.fb : Nat) : Int))) then
    some none
  else
    (part x0.fb 0 x1).bind fun y10 =>
    (part x0.fb x1 (List.length x0.fb : Int)).bind fun y12 =>
    some (some (y10,(⟨y12⟩ : T_reader)))
theorem w80 {x0 : T_reader} {x1 : Int} {r : (Option ((List Int) × T_reader))} (h : F80 x0 x1 = some r) {b1 : Nat} {H : Heap} {L : List Ob} (hp : HP H ((some (b1,0),[(Zl (EI .u8) x0.fb)]) :: L)) : FnX T 80 [(V.ptr b1 0 0),(vI x1)] H (Q80 b1 L r) := by
  refine FnX.enterE t80 (e0 := (mkE [(0,(V.ptr b1 0 0)),(0,(vI x1))] 30)) (by kernel_rfl) ?_;show Run T (.clr [] i80n12) _ _ (finP none [4] (Q80 b1 L r));refine Rn.k (mkE [(0,(V.ptr b1 0 0)),(0,(vI x1))] 30) ?_;unfold F80 at h;refine Rn.g ?_;refine Ro.t 1 ?_;refine Ro.d (mkE [(0,(V.ptr b1 0 0)),(0,(vI x1))] 30) ?_;refine Run.seq ?_;refine Rn.g ?_;refine Ro.t 4 ?_;refine Ro.p (hp.ld 0 (off := 0) (n := none) (v := (Zl (EI .u8) x0.fb)) rfl (by kernel_rfl)) ?_;refine Ro.p (len_fz (EI .u8) x0.fb) ?_;refine Ro.t 1 ?_;refine Ro.d (mkE [(0,(V.ptr b1 0 0)),(0,(vI x1)),(10,(V.bool (decide (x1 > (ln x0.fb)))))] 19) ?_;rcases tf (decide (x1 > (ln x0.fb))) with h9 | h9
  · rw [ite_t h9] at h; refine Rn.t h9 ?_;refine Run.rpn ?_;refine Ro.t 2 ?_;refine RunO.nil ⟨125,(V.ag []),by kernel_rfl,?_⟩;obtain rfl := Option.some.inj h;exact ⟨(by kernel_rfl),_,(by kernel_rfl),hp⟩
  · rw [ite_f h9] at h; refine Rn.f h9 ?_;refine Run.skip ?_;refine Rn.c (mkE [(0,(V.ptr b1 0 0)),(0,(vI x1))] 30) ?_;refine Rn.g ?_;refine Ro.t 3 ?_;refine Ro.p (hp.ld 0 (off := 0) (n := none) (v := (Zl (EI .u8) x0.fb)) rfl (by kernel_rfl)) ?_;refine Ro.t 2 ?_;obtain ⟨y10,h11,h⟩ := bind_some h;refine Ro.p (slcm_fz0 (EI .u8) .i64 (by decide) h11) ?_;refine Ro.t 1 ?_;refine Ro.d (mkE [(0,(V.ptr b1 0 0)),(0,(vI x1)),(3,(Zl (EI .u8) y10))] 26) ?_;refine Rn.g ?_;refine Ro.t 4 ?_;refine Ro.p (hp.ld 0 (off := 0) (n := none) (v := (Zl (EI .u8) x0.fb)) rfl (by kernel_rfl)) ?_;refine Ro.t 1 ?_;obtain ⟨y12,h13,h⟩ := bind_some h;refine Ro.p (slc_fz1 (EI .u8) .i64 (by decide) h13) ?_;refine Ro.t 2 ?_;refine RunO.st hp (by kernel_rfl) 0 (off := 0) (v := (Zl (EI .u8) y12)) (cs' := [(Zl (EI .u8) y12)]) rfl (by kernel_rfl) (by kernel_rfl) (by kernel_rfl) ?_;intro H hp;refine Ro.d (mkE [(5,(Zl (EI .u8) y10))] 26) ?_;refine Rn.g ?_;refine Ro.t 2 ?_;refine Ro.d (mkE [(4,(Zl (EI .u8) y10))] 27) ?_;refine Run.ret ?_;obtain rfl := Option.some.inj h;show endR _ _ (Q80 b1 L _ false) _ _;exact ⟨(Zl (EI .u8) y10),(by kernel_rfl),(by kernel_rfl),hp⟩
abbrev Q61 (b14 : Nat) (L : List Ob) (r : (Option (Int × T_reader))) : Bool → V → Heap → Prop := fun p v h => match r,p with
  | some r,false => v = (EI .i64).e r.1 ∧ HP h ((some (b14,0),[(Zl (EI .u8) r.2.fb)]) :: L)
  | none,true => V.isI v = true ∧ ∃ c0 : List V,c0.all (V.free deepN) = true ∧ HP h ((some (b14,0),c0) :: L)
  | _,_ => False
abbrev RR61 (b14 : Nat) (L : List Ob) (r : (Option (Int × T_reader))) : X → List V → Heap → Prop := retP none [2] (Q61 b14 L r)
abbrev I61_1 (b14 : Nat) (L : List Ob) : ((List Int) × Int × Int) → List V → Heap → Prop := fun s e h => e = (mkE [(0,(V.ptr b14 0 0)),(1,(vI (0 : Int))),(0,(vI s.2.1)),(0,(vI s.2.2))] 21) ∧ HP h ((some (b14,0),[(Zl (EI .u8) s.1)]) :: L)
abbrev J61_1 (b14 : Nat) (L : List Ob) : ((List Int)) → Nat → List V → Heap → Prop := fun a i e h => i = 0 ∧ clrEnv [0,3,4,5,6,7,8,9,10,11,12,13,14,15,16,17,18,19,20,21,22,23] e = (mkE [(2,(vI (0 : Int)))] 23) ∧ HP h ((some (b14,0),[(Zl (EI .u8) a)]) :: L)
def F61_1_b (y75 : (List Int)) (y76 : Int) (y77 : Int) : Option (Stp ((List Int) × Int × Int) (Option (Int × T_reader)) ((List Int))) :=
  if (decide (y77 < (35 : Int))) then
    pndL (F80 (⟨y75⟩ : T_reader) (1 : Int)) fun y116 =>
    (idx y116.1 (0 : Int)).bind fun y121 =>
    (when (decide (0 ≤ y77))).bind fun y124 =>
    if (decide (y121 < (128 : Int))) then
      some (.ret (some ((IntKind.i64.wrap ((BitVec.ofInt IntKind.i64.bits y76 ||| BitVec.ofInt IntKind.i64.bits (IntKind.i64.wrap ((IntKind.i64.wrap (IntKind.u8.wrap ((BitVec.ofInt IntKind.u8.bits y121 &&& BitVec.ofInt IntKind.u8.bits (127 : Int)).toNat : Int))) * 2 ^ (min (Int.toNat y77) IntKind.i64.bits)))).toNat : Int)),y116.2)))
    else
      some (.next (y116.2.fb,(IntKind.i64.wrap ((BitVec.ofInt IntKind.i64.bits y76 ||| BitVec.ofInt IntKind.i64.bits (IntKind.i64.wrap ((IntKind.i64.wrap (IntKind.u8.wrap ((BitVec.ofInt IntKind.u8.bits y121 &&& BitVec.ofInt IntKind.u8.bits (127 : Int)).toNat : Int))) * 2 ^ (min (Int.toNat y77) IntKind.i64.bits)))).toNat : Int)),(IntKind.i64.wrap (y77 + (7 : Int)))))
  else
    some (.go (y75))
theorem w61_1_b {y75 : (List Int)} {y76 : Int} {y77 : Int} {t : (Stp ((List Int) × Int × Int) (Option (Int × T_reader)) ((List Int)))} (h : F61_1_b y75 y76 y77 = some t) {b14 : Nat} {H : Heap} {L : List Ob} (hp : HP H ((some (b14,0),[(Zl (EI .u8) y75)]) :: L)) :
    Run T i61n18 (mkE [(0,(V.ptr b14 0 0)),(1,(vI (0 : Int))),(0,(vI y76)),(0,(vI y77))] 21) H (stpP [5,6,7,8,9,10,11,12,13,14,15,16,17,18,19,20,21,22,23] (I61_1 b14 L) (RR61 b14 L) (J61_1 b14 L) t) := by
  unfold F61_1_b at h;refine Run.seq ?_;refine Rn.g ?_;refine Ro.t 2 ?_;refine Ro.d (mkE [(0,(V.ptr b14 0 0)),(1,(vI (0 : Int))),(0,(vI y76)),(0,(vI y77)),(2,(V.bool (decide (y77 < (35 : Int)))))] 18) ?_;rcases tf (decide (y77 < (35 : Int))) with h104 | h104
  · rw [ite_t h104] at h; refine Rn.t h104 ?_;refine Run.skip ?_;refine Rn.c (mkE [(0,(V.ptr b14 0 0)),(1,(vI (0 : Int))),(0,(vI y76)),(0,(vI y77))] 21) ?_;refine Run.seq ?_;refine Run.block ?_;refine Run.seq ?_;refine Run.rgp ?_;refine RunX.tk 1 (by kernel_rfl) ?_;rcases pndL_some h with ⟨h117,rfl⟩ | ⟨y116,h117,h⟩
    · have hp := hp;refine RunX.h1 (n := 80) (caps := []) (us := [(V.ptr b14 0 0),(vI (1 : Int))]) (by kernel_rfl) (by kernel_rfl) (by kernel_rfl) ((w80 h117 hp).mono ?_);rintro p v H hz;cases p with
      | false => exact hz.elim
      | true => ?_
      obtain ⟨h120,q118,h119,hp⟩ := hz;exact ⟨h120,_,h119,hp⟩
    refine RunX.h1 (n := 80) (caps := []) (us := [(V.ptr b14 0 0),(vI (1 : Int))]) (by kernel_rfl) (by kernel_rfl) (by kernel_rfl) ((w80 h117 hp).mono ?_);rintro p _ H hz;cases p with
    | true => exact hz.elim
    | false => ?_
    obtain ⟨rfl,hp⟩ := hz;show RunX T _ _ _ _;obtain ⟨y121,h122,h⟩ := bind_some h;refine RunX.p1 (by kernel_rfl) rfl (by kernel_rfl) (idx_fz (EI .u8) .i64 h122) ?_;refine RunX.tk 2 (by kernel_rfl) ?_;refine RunX.done (e' := (mkE [(0,(V.ptr b14 0 0)),(1,(vI (0 : Int))),(0,(vI y76)),(0,(vI y77)),(0,(V.int .u8 y121))] 20)) (by kernel_rfl) ?_;refine Rn.g ?_;refine Ro.t 5 ?_;obtain ⟨y124,h125,h⟩ := bind_some h;refine Ro.p (shl_of (k := .i64) (k' := .i64) (a := (IntKind.i64.wrap (IntKind.u8.wrap ((BitVec.ofInt IntKind.u8.bits y121 &&& BitVec.ofInt IntKind.u8.bits (127 : Int)).toNat : Int)))) h125) ?_;refine Ro.t 2 ?_;refine Ro.d (mkE [(0,(V.ptr b14 0 0)),(1,(vI (0 : Int))),(0,(vI (IntKind.i64.wrap ((BitVec.ofInt IntKind.i64.bits y76 ||| BitVec.ofInt IntKind.i64.bits (IntKind.i64.wrap ((IntKind.i64.wrap (IntKind.u8.wrap ((BitVec.ofInt IntKind.u8.bits y121 &&& BitVec.ofInt IntKind.u8.bits (127 : Int)).toNat : Int))) * 2 ^ (min (Int.toNat y77) IntKind.i64.bits)))).toNat : Int)))),(0,(vI y77)),(0,(V.int .u8 y121))] 20) ?_;refine Rn.g ?_;refine Ro.t 2 ?_;refine Ro.d (mkE [(0,(V.ptr b14 0 0)),(1,(vI (0 : Int))),(0,(vI (IntKind.i64.wrap ((BitVec.ofInt IntKind.i64.bits y76 ||| BitVec.ofInt IntKind.i64.bits (IntKind.i64.wrap ((IntKind.i64.wrap (IntKind.u8.wrap ((BitVec.ofInt IntKind.u8.bits y121 &&& BitVec.ofInt IntKind.u8.bits (127 : Int)).toNat : Int))) * 2 ^ (min (Int.toNat y77) IntKind.i64.bits)))).toNat : Int)))),(0,(vI y77)),(17,(V.bool (decide (y121 < (128 : Int)))))] 3) ?_;rcases tf (decide (y121 < (128 : Int))) with h126 | h126
    · rw [ite_t h126] at h; refine Rn.t h126 ?_;refine Rn.g ?_;refine Ro.t 2 ?_;refine Ro.d (mkE [(2,(vI (IntKind.i64.wrap ((BitVec.ofInt IntKind.i64.bits y76 ||| BitVec.ofInt IntKind.i64.bits (IntKind.i64.wrap ((IntKind.i64.wrap (IntKind.u8.wrap ((BitVec.ofInt IntKind.u8.bits y121 &&& BitVec.ofInt IntKind.u8.bits (127 : Int)).toNat : Int))) * 2 ^ (min (Int.toNat y77) IntKind.i64.bits)))).toNat : Int))))] 23) ?_;refine Run.ret ?_;obtain rfl := Option.some.inj h;show RR61 b14 L _ .ret _ _;exact ⟨(vI (IntKind.i64.wrap ((BitVec.ofInt IntKind.i64.bits y76 ||| BitVec.ofInt IntKind.i64.bits (IntKind.i64.wrap ((IntKind.i64.wrap (IntKind.u8.wrap ((BitVec.ofInt IntKind.u8.bits y121 &&& BitVec.ofInt IntKind.u8.bits (127 : Int)).toNat : Int))) * 2 ^ (min (Int.toNat y77) IntKind.i64.bits)))).toNat : Int))),(by kernel_rfl),(by kernel_rfl),hp⟩
    · rw [ite_f h126] at h; refine Rn.f h126 ?_;refine Run.skip ?_;refine Run.clrE (ts := [5,10,11,12,13,14,15,16,17,18,19,20,21,22,23]) (b := (.rgn i61r16)) (Q := (stpP [5,6,7,8,9,10,11,12,13,14,15,16,17,18,19,20,21,22,23] (I61_1 b14 L) (RR61 b14 L) (J61_1 b14 L) t)) (e' := (mkE [(0,(V.ptr b14 0 0)),(1,(vI (0 : Int))),(0,(vI (IntKind.i64.wrap ((BitVec.ofInt IntKind.i64.bits y76 ||| BitVec.ofInt IntKind.i64.bits (IntKind.i64.wrap ((IntKind.i64.wrap (IntKind.u8.wrap ((BitVec.ofInt IntKind.u8.bits y121 &&& BitVec.ofInt IntKind.u8.bits (127 : Int)).toNat : Int))) * 2 ^ (min (Int.toNat y77) IntKind.i64.bits)))).toNat : Int)))),(0,(vI y77))] 21)) (by kernel_rfl) ?_;refine Run.rgn ?_;refine Ro.t 3 ?_;refine RunO.nil ?_;obtain rfl := Option.some.inj h;show I61_1 b14 L _ _ _;exact ⟨(by kernel_rfl),hp⟩
  · rw [ite_f h104] at h; refine Rn.f h104 ?_;refine Run.exit ?_;obtain rfl := Option.some.inj h;show J61_1 b14 L _ _ _ _;exact ⟨rfl,(by kernel_rfl),hp⟩
def F61 (x0 : T_reader) : Option (Option (Int × T_reader)) :=
  (iter (fun s : ((List Int) × Int × Int) => F61_1_b s.1 s.2.1 s.2.2) FUEL (x0.fb,(0 : Int),(0 : Int))).bind fun o => match o with
  | .ret r => some r
  | .go (y102) =>
    some none
theorem w61 {x0 : T_reader} {r : (Option (Int × T_reader))} (h : F61 x0 = some r) {b14 : Nat} {H : Heap} {L : List Ob} (hp : HP H ((some (b14,0),[(Zl (EI .u8) x0.fb)]) :: L)) : FnX T 61 [(V.ptr b14 0 0)] H (Q61 b14 L r) := by
  refine FnX.enterE t61 (e0 := (mkE [(0,(V.ptr b14 0 0))] 25)) (by kernel_rfl) ?_;show Run T (.clr [] i61n25) _ _ (finP none [2] (Q61 b14 L r));refine Rn.k (mkE [(0,(V.ptr b14 0 0))] 25) ?_;unfold F61 at h;refine Rn.g ?_;refine Ro.t 1 ?_;refine Ro.d (mkE [(0,(V.ptr b14 0 0)),(1,(vI (0 : Int)))] 23) ?_;refine Rn.g ?_;refine Ro.t 1 ?_;refine Ro.d (mkE [(0,(V.ptr b14 0 0)),(1,(vI (0 : Int))),(0,(vI (0 : Int)))] 22) ?_;refine Run.seq ?_;refine Rn.g ?_;refine Ro.t 1 ?_;refine Ro.d (mkE [(0,(V.ptr b14 0 0)),(1,(vI (0 : Int))),(0,(vI (0 : Int))),(0,(vI (0 : Int)))] 21) ?_;refine Run.block ?_;obtain ⟨o,h127,h⟩ := bind_some h;refine (Run.iterP (I := I61_1 b14 L) (RR := RR61 b14 L) (J := J61_1 b14 L) (fun _ _ _ h => h) (fun s e h' t hI hf => ?_) FUEL h127 (by exact ⟨(by kernel_rfl),hp⟩)).mono ?_
  · obtain ⟨rfl,hp⟩ := hI; exact w61_1_b hf hp
  · rintro X e' H hq;cases o with
    | ret r => cases X <;> first | exact hq.elim | (cases h; exact hq)
    | go y102 =>
      cases X with | nrm => exact hq.elim | ret => exact hq.elim | pan v => exact hq.elim | ext i => ?_;obtain ⟨rfl,he,hp⟩ := hq
      dsimp only at h
      refine Run.clrE (ts := [0,3,4,5,6,7,8,9,10,11,12,13,14,15,16,17,18,19,20,21,22,23]) (b := (.rpn i61r22 (.t 25))) (Q := (finP none [2] (Q61 b14 L r))) he ?_;refine Run.rpn ?_;refine Ro.t 2 ?_;refine RunO.nil ⟨125,(V.ag []),by kernel_rfl,?_⟩;obtain rfl := Option.some.inj h;exact ⟨(by kernel_rfl),_,(by kernel_rfl),hp⟩
abbrev Q82 (L : List Ob) (r : Bool) : V → Heap → Prop := fun v h => v = EB.e r ∧ HP h (L)
def F82 (x0 : Int) : Option Bool :=
  if (decide (x0 ≥ (1 : Int))) then
    some (decide (x0 ≤ (17 : Int)))
  else
    some false
theorem w82 {x0 : Int} {r : Bool} (h : F82 x0 = some r) {H : Heap} {L : List Ob} (hp : HP H (L)) : Fn T 82 [(V.int .u8 x0)] H (Q82 L r) := by
  refine Fn.enterE t82 (e0 := (mkE [(0,(V.int .u8 x0))] 8)) (by kernel_rfl) ?_;show Run T (.clr [] i82n3) _ _ (finE none [2] (Q82 L r));refine Rn.k (mkE [(0,(V.int .u8 x0))] 8) ?_;unfold F82 at h;refine Rn.g ?_;refine Ro.t 1 ?_;refine Ro.d (mkE [(0,(V.int .u8 x0))] 8) ?_;refine Rn.g ?_;refine Ro.t 1 ?_;rcases tf (decide (x0 ≥ (1 : Int))) with h139 | h139
  · rw [ite_t h139] at h; refine Ro.p (bool_of h139) ?_;refine Ro.t 5 ?_;refine Ro.d (mkE [(2,(V.bool (decide (x0 ≤ (17 : Int)))))] 6) ?_;refine Run.ret ?_;obtain rfl := Option.some.inj h;exact ⟨(V.bool (decide (x0 ≤ (17 : Int)))),(by kernel_rfl),(by kernel_rfl),hp⟩
  · rw [ite_f h139] at h; refine Ro.p (bool_of h139) ?_;refine Ro.t 5 ?_;refine Ro.d (mkE [(2,(V.bool false))] 6) ?_;refine Run.ret ?_;obtain rfl := Option.some.inj h;exact ⟨(V.bool false),(by kernel_rfl),(by kernel_rfl),hp⟩
theorem c82 {x0 : Int} {r : Bool} (h : F82 x0 = some r) (s : Bool) : Fn T 82 [(V.int .u8 x0)] [] (fun v hh => deep s hh deepN v = some (EB.e r)) := by
  refine (w82 h HP.nil).mono ?_;rintro v hh ⟨rfl,hp⟩;exact EB.hd s hh 38 _ (.inr rfl)
abbrev Q81 (b128 : Nat) (L : List Ob) (r : (Option (T_Code × T_reader))) : Bool → V → Heap → Prop := fun p v h => match r,p with
  | some r,false => v = E_Code.e r.1 ∧ HP h ((some (b128,0),[(Zl (EI .u8) r.2.fb)]) :: L)
  | none,true => V.isI v = true ∧ ∃ c0 : List V,c0.all (V.free deepN) = true ∧ HP h ((some (b128,0),c0) :: L)
  | _,_ => False
abbrev RR81 (b128 : Nat) (L : List Ob) (r : (Option (T_Code × T_reader))) : X → List V → Heap → Prop := retP (some [some (some 9)]) [2] (Q81 b128 L r)
def F81_j9 (y337 : Int) (y358 : Int) (y368 : Int) (y378 : Int) (y388 : Int) (y396 : Int) (y404 : Int) (y418 : Int) (y447 : (List Int)) (y448 : Int) : Option (Option (T_Code × T_reader)) :=
  some (some ((⟨y337,y358,y368,y378,y388,y396,y404,y418,y448⟩ : T_Code),(⟨y447⟩ : T_reader)))
theorem w81_j9 {y337 : Int} {y358 : Int} {y368 : Int} {y378 : Int} {y388 : Int} {y396 : Int} {y404 : Int} {y418 : Int} {y447 : (List Int)} {y448 : Int} {r : (Option (T_Code × T_reader))} (h : F81_j9 y337 y358 y368 y378 y388 y396 y404 y418 y447 y448 = some r) {b128 : Nat} {b331 : Nat} {b339 : Nat} {H : Heap} {L : List Ob} (hp : HP H ((some (b128,0),[(Zl (EI .u8) y447)]) :: (some (b331,0),[(V.int .u8 (0 : Int)),(V.int .u8 (0 : Int)),(V.int .u8 (0 : Int)),(V.int .u8 (0 : Int)),(V.int .u8 (0 : Int)),(vI (0 : Int)),(vI (0 : Int)),(vI (0 : Int)),(V.int .u64 (0 : Int))]) :: (some (b339,0),[(V.int .u8 y337),(V.int .u8 y358),(V.int .u8 y368),(V.int .u8 y378),(V.int .u8 y388),(vI y396),(vI y404),(vI y418),(V.int .u64 y448)]) :: L)) :
    Run T i81n57 (mkE [(2,(V.ptr b331 0 0)),(0,(V.ptr b339 0 0))] 95) H (finP (some [some (some 9)]) [2] (Q81 b128 L r)) := by
  unfold F81_j9 at h;refine Rn.g ?_;refine Ro.p (hp.ld 2 (off := 0) (n := (some 9)) (v := (V.ag [(V.int .u8 y337),(V.int .u8 y358),(V.int .u8 y368),(V.int .u8 y378),(V.int .u8 y388),(vI y396),(vI y404),(vI y418),(V.int .u64 y448)])) rfl (by kernel_rfl)) ?_;refine RunO.st hp (by kernel_rfl) 1 (off := 0) (v := (V.ag [(V.int .u8 y337),(V.int .u8 y358),(V.int .u8 y368),(V.int .u8 y378),(V.int .u8 y388),(vI y396),(vI y404),(vI y418),(V.int .u64 y448)])) (cs' := [(V.int .u8 y337),(V.int .u8 y358),(V.int .u8 y368),(V.int .u8 y378),(V.int .u8 y388),(vI y396),(vI y404),(vI y418),(V.int .u64 y448)]) rfl (by kernel_rfl) (by kernel_rfl) (by kernel_rfl) ?_;intro H hp;refine Ro.d (mkE [(2,(V.ptr b331 0 0))] 96) ?_;refine Run.ret ?_;obtain rfl := Option.some.inj h;show endR _ _ (Q81 b128 L _ false) _ _;have hw := resW_cells (env := (mkE [(2,(V.ptr b331 0 0))] 96)) (H := H) (ds := [some (some 9)]) (res := [2]) (vs := [(V.ag [(V.int .u8 y337),(V.int .u8 y358),(V.int .u8 y368),(V.int .u8 y378),(V.int .u8 y388),(vI y396),(vI y404),(vI y418),(V.int .u64 y448)])]) (omapc (Eq.trans (b := ldV _ (V.ptr b331 0 0) (some 9)) (by kernel_rfl) (hp.ld 1 rfl (by kernel_rfl))) omapn);have hp := hp.del 2;have hp := hp.del 1;exact ⟨(V.ag [(V.int .u8 y337),(V.int .u8 y358),(V.int .u8 y368),(V.int .u8 y378),(V.int .u8 y388),(vI y396),(vI y404),(vI y418),(V.int .u64 y448)]),(hw),(by kernel_rfl),hp⟩
abbrev I81_1 (y337 : Int) (y358 : Int) (y368 : Int) (y378 : Int) (y388 : Int) (y396 : Int) (y404 : Int) (y418 : Int) (y450 : ((List Int) × T_reader)) (b128 : Nat) (b331 : Nat) (b339 : Nat) (L : List Ob) : (Int × Int) → List V → Heap → Prop := fun s e h => e = (mkE [(2,(V.ptr b331 0 0)),(0,(V.ptr b339 0 0)),(77,(Zl (EI .u8) y450.1)),(0,(vI (ln y450.1))),(0,(vI s.2))] 15) ∧ HP h ((some (b128,0),[(Zl (EI .u8) y450.2.fb)]) :: (some (b331,0),[(V.int .u8 (0 : Int)),(V.int .u8 (0 : Int)),(V.int .u8 (0 : Int)),(V.int .u8 (0 : Int)),(V.int .u8 (0 : Int)),(vI (0 : Int)),(vI (0 : Int)),(vI (0 : Int)),(V.int .u64 (0 : Int))]) :: (some (b339,0),[(V.int .u8 y337),(V.int .u8 y358),(V.int .u8 y368),(V.int .u8 y378),(V.int .u8 y388),(vI y396),(vI y404),(vI y418),(V.int .u64 s.1)]) :: L)
abbrev J81_1 (y337 : Int) (y358 : Int) (y368 : Int) (y378 : Int) (y388 : Int) (y396 : Int) (y404 : Int) (y418 : Int) (y450 : ((List Int) × T_reader)) (b128 : Nat) (b331 : Nat) (b339 : Nat) (L : List Ob) : (Int) → Nat → List V → Heap → Prop := fun a i e h => i = 0 ∧ clrEnv [0,4,5,6,78,79,80,81,82,83,84,85,86,87,88,89,90,91,92,93,94,95,96,97] e = (mkE [(2,(V.ptr b331 0 0)),(0,(V.ptr b339 0 0))] 95) ∧ HP h ((some (b128,0),[(Zl (EI .u8) y450.2.fb)]) :: (some (b331,0),[(V.int .u8 (0 : Int)),(V.int .u8 (0 : Int)),(V.int .u8 (0 : Int)),(V.int .u8 (0 : Int)),(V.int .u8 (0 : Int)),(vI (0 : Int)),(vI (0 : Int)),(vI (0 : Int)),(V.int .u64 (0 : Int))]) :: (some (b339,0),[(V.int .u8 y337),(V.int .u8 y358),(V.int .u8 y368),(V.int .u8 y378),(V.int .u8 y388),(vI y396),(vI y404),(vI y418),(V.int .u64 a)]) :: L)
def F81_1_b (y337 : Int) (y358 : Int) (y368 : Int) (y378 : Int) (y388 : Int) (y396 : Int) (y404 : Int) (y418 : Int) (y450 : ((List Int) × T_reader)) (y459 : Int) (y460 : Int) : Option (Stp (Int × Int) (Option (T_Code × T_reader)) (Int)) :=
  if (decide (y460 < ((List.length y450.1 : Nat) : Int))) then
    (idx y450.1 y460).bind fun y471 =>
    (when (decide (0 ≤ (IntKind.i64.wrap ((8 : Int) * y460))))).bind fun y474 =>
    some (.next ((IntKind.u64.wrap ((BitVec.ofInt IntKind.u64.bits y459 ||| BitVec.ofInt IntKind.u64.bits (IntKind.u64.wrap ((IntKind.u64.wrap y471) * 2 ^ (min (Int.toNat (IntKind.i64.wrap ((8 : Int) * y460))) IntKind.u64.bits)))).toNat : Int)),(IntKind.i64.wrap (y460 + (1 : Int)))))
  else
    some (.go (y459))
theorem w81_1_b {y337 : Int} {y358 : Int} {y368 : Int} {y378 : Int} {y388 : Int} {y396 : Int} {y404 : Int} {y418 : Int} {y450 : ((List Int) × T_reader)} {y459 : Int} {y460 : Int} {t : (Stp (Int × Int) (Option (T_Code × T_reader)) (Int))} (h : F81_1_b y337 y358 y368 y378 y388 y396 y404 y418 y450 y459 y460 = some t) {b128 : Nat} {b331 : Nat} {b339 : Nat} {H : Heap} {L : List Ob} (hp : HP H ((some (b128,0),[(Zl (EI .u8) y450.2.fb)]) :: (some (b331,0),[(V.int .u8 (0 : Int)),(V.int .u8 (0 : Int)),(V.int .u8 (0 : Int)),(V.int .u8 (0 : Int)),(V.int .u8 (0 : Int)),(vI (0 : Int)),(vI (0 : Int)),(vI (0 : Int)),(V.int .u64 (0 : Int))]) :: (some (b339,0),[(V.int .u8 y337),(V.int .u8 y358),(V.int .u8 y368),(V.int .u8 y378),(V.int .u8 y388),(vI y396),(vI y404),(vI y418),(V.int .u64 y459)]) :: L)) :
    Run T i81n50 (mkE [(2,(V.ptr b331 0 0)),(0,(V.ptr b339 0 0)),(77,(Zl (EI .u8) y450.1)),(0,(vI (ln y450.1))),(0,(vI y460))] 15) H (stpP [5,6,84,85,86,87,88,89,90,91,92,93,94,95,96,97] (I81_1 y337 y358 y368 y378 y388 y396 y404 y418 y450 b128 b331 b339 L) (RR81 b128 L) (J81_1 y337 y358 y368 y378 y388 y396 y404 y418 y450 b128 b331 b339 L) t) := by
  unfold F81_1_b at h;refine Rn.g ?_;refine Ro.t 1 ?_;refine Ro.d (mkE [(2,(V.ptr b331 0 0)),(0,(V.ptr b339 0 0)),(77,(Zl (EI .u8) y450.1)),(0,(vI (ln y450.1))),(0,(vI y460)),(0,(V.bool (decide (y460 < (ln y450.1)))))] 14) ?_;refine Run.seq ?_;rcases tf (decide (y460 < (ln y450.1))) with h470 | h470
  · rw [ite_t h470] at h; refine Rn.t h470 ?_;refine Run.skip ?_;refine Rn.c (mkE [(2,(V.ptr b331 0 0)),(0,(V.ptr b339 0 0)),(77,(Zl (EI .u8) y450.1)),(0,(vI (ln y450.1))),(0,(vI y460))] 15) ?_;refine Run.seq ?_;refine Run.block ?_;refine Rn.g ?_;refine Ro.t 1 ?_;obtain ⟨y471,h472,h⟩ := bind_some h;refine Ro.p (idx_fz (EI .u8) .i64 h472) ?_;refine Ro.t 3 ?_;refine Ro.d (mkE [(2,(V.ptr b331 0 0)),(0,(V.ptr b339 0 0)),(1,(vI y460)),(0,(V.int .u8 y471)),(74,(Zl (EI .u8) y450.1)),(0,(vI (ln y450.1))),(0,(vI y460))] 15) ?_;refine Run.rgn ?_;refine Ro.t 1 ?_;refine Ro.p (hp.ld 2 (off := 8) (n := none) (v := (V.int .u64 y459)) rfl (by kernel_rfl)) ?_;refine Ro.t 4 ?_;obtain ⟨y474,h475,h⟩ := bind_some h;refine Ro.p (shl_of (k := .u64) (k' := .i64) (a := (IntKind.u64.wrap y471)) h475) ?_;refine Ro.t 2 ?_;refine RunO.st hp (by kernel_rfl) 2 (off := 8) (v := (V.int .u64 (IntKind.u64.wrap ((BitVec.ofInt IntKind.u64.bits y459 ||| BitVec.ofInt IntKind.u64.bits (IntKind.u64.wrap ((IntKind.u64.wrap y471) * 2 ^ (min (Int.toNat (IntKind.i64.wrap ((8 : Int) * y460))) IntKind.u64.bits)))).toNat : Int)))) (cs' := [(V.int .u8 y337),(V.int .u8 y358),(V.int .u8 y368),(V.int .u8 y378),(V.int .u8 y388),(vI y396),(vI y404),(vI y418),(V.int .u64 (IntKind.u64.wrap ((BitVec.ofInt IntKind.u64.bits y459 ||| BitVec.ofInt IntKind.u64.bits (IntKind.u64.wrap ((IntKind.u64.wrap y471) * 2 ^ (min (Int.toNat (IntKind.i64.wrap ((8 : Int) * y460))) IntKind.u64.bits)))).toNat : Int)))]) rfl (by kernel_rfl) (by kernel_rfl) (by kernel_rfl) ?_;intro H hp;refine RunO.nil ?_;refine Run.clrE (ts := [5,6,85,86,87,88,89,90,91,92,93,94,95,96]) (b := (.rgn i81r47)) (Q := (stpP [5,6,84,85,86,87,88,89,90,91,92,93,94,95,96,97] (I81_1 y337 y358 y368 y378 y388 y396 y404 y418 y450 b128 b331 b339 L) (RR81 b128 L) (J81_1 y337 y358 y368 y378 y388 y396 y404 y418 y450 b128 b331 b339 L) t)) (e' := (mkE [(2,(V.ptr b331 0 0)),(0,(V.ptr b339 0 0)),(77,(Zl (EI .u8) y450.1)),(0,(vI (ln y450.1))),(0,(vI y460))] 15)) (by kernel_rfl) ?_;refine Run.rgn ?_;refine Ro.t 2 ?_;refine RunO.nil ?_;obtain rfl := Option.some.inj h;show I81_1 y337 y358 y368 y378 y388 y396 y404 y418 y450 b128 b331 b339 L _ _ _;exact ⟨(by kernel_rfl),hp⟩
  · rw [ite_f h470] at h; refine Rn.f h470 ?_;refine Run.exit ?_;obtain rfl := Option.some.inj h;show J81_1 y337 y358 y368 y378 y388 y396 y404 y418 y450 b128 b331 b339 L _ _ _ _;exact ⟨rfl,(by kernel_rfl),hp⟩
def F81_j8 (y337 : Int) (y346 : T_form) (y358 : Int) (y368 : Int) (y378 : Int) (y388 : Int) (y396 : Int) (y404 : Int) (y418 : Int) (y425 : (List Int)) (y426 : Int) : Option (Option (T_Code × T_reader)) :=
  if y346.fbits then
    pnd (F80 (⟨y425⟩ : T_reader) (8 : Int)) fun y450 =>
    (iter (fun s : (Int × Int) => F81_1_b y337 y358 y368 y378 y388 y396 y404 y418 y450 s.1 s.2) FUEL (y426,(0 : Int))).bind fun o => match o with
    | .ret r => some r
    | .go (y468) =>
      F81_j9 y337 y358 y368 y378 y388 y396 y404 y418 (y450.2.fb) (y468)
  else
    F81_j9 y337 y358 y368 y378 y388 y396 y404 y418 (y425) (y426)
theorem w81_j8 {y337 : Int} {y346 : T_form} {y358 : Int} {y368 : Int} {y378 : Int} {y388 : Int} {y396 : Int} {y404 : Int} {y418 : Int} {y425 : (List Int)} {y426 : Int} {r : (Option (T_Code × T_reader))} (h : F81_j8 y337 y346 y358 y368 y378 y388 y396 y404 y418 y425 y426 = some r) {b128 : Nat} {b331 : Nat} {b339 : Nat} {b348 : Nat} {H : Heap} {L : List Ob} (hp : HP H ((some (b128,0),[(Zl (EI .u8) y425)]) :: (some (b331,0),[(V.int .u8 (0 : Int)),(V.int .u8 (0 : Int)),(V.int .u8 (0 : Int)),(V.int .u8 (0 : Int)),(V.int .u8 (0 : Int)),(vI (0 : Int)),(vI (0 : Int)),(vI (0 : Int)),(V.int .u64 (0 : Int))]) :: (some (b339,0),[(V.int .u8 y337),(V.int .u8 y358),(V.int .u8 y368),(V.int .u8 y378),(V.int .u8 y388),(vI y396),(vI y404),(vI y418),(V.int .u64 y426)]) :: (some (b348,0),[(V.int .u8 y346.fa),(V.int .u8 y346.fb),(V.int .u8 y346.fc),(V.bool y346.fop),(V.bool y346.ft),(V.bool y346.fto),(V.bool y346.ftrap),(V.bool y346.fbits),(V.bool y346.frow)]) :: L)) :
    Run T i81n58 (mkE [(0,(V.ptr b128 0 0)),(1,(V.ptr b331 0 0)),(0,(V.ptr b339 0 0)),(0,(V.ptr b348 0 0))] 94) H (finP (some [some (some 9)]) [2] (Q81 b128 L r)) := by
  unfold F81_j8 at h;refine Run.seq ?_;refine Rn.g ?_;refine Ro.t 1 ?_;refine Ro.p (hp.ld 3 (off := 7) (n := none) (v := (V.bool y346.fbits)) rfl (by kernel_rfl)) ?_;refine Ro.d (mkE [(0,(V.ptr b128 0 0)),(1,(V.ptr b331 0 0)),(0,(V.ptr b339 0 0)),(75,(V.bool y346.fbits))] 19) ?_;rcases tf y346.fbits with h449 | h449
  · rw [ite_t h449] at h; refine Rn.t h449 ?_;refine Run.seq ?_;refine Run.rgp ?_;refine RunX.tk 1 (by kernel_rfl) ?_;rcases pnd_some h with ⟨h451,rfl⟩ | ⟨y450,h451,h⟩
    · have hp := hp;refine RunX.h1 (n := 80) (caps := []) (us := [(V.ptr b128 0 0),(vI (8 : Int))]) (by kernel_rfl) (by kernel_rfl) (by kernel_rfl) ((w80 h451 hp).mono ?_);rintro p v H hz;cases p with
      | false => exact hz.elim
      | true => ?_
      obtain ⟨h454,q452,h453,hp⟩ := hz;have hp := hp.del 3;have hp := hp.del 2;have hp := hp.del 1;exact ⟨h454,_,h453,hp⟩
    refine RunX.h1 (n := 80) (caps := []) (us := [(V.ptr b128 0 0),(vI (8 : Int))]) (by kernel_rfl) (by kernel_rfl) (by kernel_rfl) ((w80 h451 hp).mono ?_);rintro p _ H hz;cases p with
    | true => exact hz.elim
    | false => ?_
    obtain ⟨rfl,hp⟩ := hz;show RunX T _ _ _ _;refine RunX.p1 (by kernel_rfl) rfl (by kernel_rfl) (len_fz (EI .u8) y450.1) ?_;refine RunX.tk 1 (by kernel_rfl) ?_;refine RunX.done (e' := (mkE [(2,(V.ptr b331 0 0)),(0,(V.ptr b339 0 0)),(77,(Zl (EI .u8) y450.1)),(0,(vI (ln y450.1))),(0,(vI (0 : Int)))] 15)) (by kernel_rfl) ?_;refine Run.block ?_;obtain ⟨o,h476,h⟩ := bind_some h;have hp := hp.del 3;refine (Run.iterP (I := I81_1 y337 y358 y368 y378 y388 y396 y404 y418 y450 b128 b331 b339 L) (RR := RR81 b128 L) (J := J81_1 y337 y358 y368 y378 y388 y396 y404 y418 y450 b128 b331 b339 L) (fun _ _ _ h => h) (fun s e h' t hI hf => ?_) FUEL h476 (by exact ⟨(by kernel_rfl),hp⟩)).mono ?_
    · obtain ⟨rfl,hp⟩ := hI; exact w81_1_b hf hp
    · rintro X e' H hq;cases o with
      | ret r => cases X <;> first | exact hq.elim | (cases h; exact hq)
      | go y468 =>
        cases X with | nrm => exact hq.elim | ret => exact hq.elim | pan v => exact hq.elim | ext i => ?_;obtain ⟨rfl,he,hp⟩ := hq
        dsimp only at h
        refine Run.clrE (ts := [0,4,5,6,78,79,80,81,82,83,84,85,86,87,88,89,90,91,92,93,94,95,96,97]) (b := i81n57) (Q := (finP (some [some (some 9)]) [2] (Q81 b128 L r))) he ?_;exact w81_j9 h hp
  · rw [ite_f h449] at h; refine Rn.f h449 ?_;refine Run.skip ?_;refine Rn.c (mkE [(2,(V.ptr b331 0 0)),(0,(V.ptr b339 0 0))] 95) ?_;have hp := hp.del 3;exact w81_j9 h hp
def F81_j7 (y337 : Int) (y346 : T_form) (y358 : Int) (y368 : Int) (y378 : Int) (y388 : Int) (y396 : Int) (y404 : Int) (y417 : (List Int)) (y418 : Int) : Option (Option (T_Code × T_reader)) :=
  if y346.frow then
    pnd (F61 (⟨y417⟩ : T_reader)) fun y478 =>
    F81_j8 y337 y346 y358 y368 y378 y388 y396 y404 y418 (y478.2.fb) ((IntKind.u64.wrap y478.1))
  else
    F81_j8 y337 y346 y358 y368 y378 y388 y396 y404 y418 (y417) ((0 : Int))
theorem w81_j7 {y337 : Int} {y346 : T_form} {y358 : Int} {y368 : Int} {y378 : Int} {y388 : Int} {y396 : Int} {y404 : Int} {y417 : (List Int)} {y418 : Int} {r : (Option (T_Code × T_reader))} (h : F81_j7 y337 y346 y358 y368 y378 y388 y396 y404 y417 y418 = some r) {b128 : Nat} {b331 : Nat} {b339 : Nat} {b348 : Nat} {H : Heap} {L : List Ob} (hp : HP H ((some (b128,0),[(Zl (EI .u8) y417)]) :: (some (b331,0),[(V.int .u8 (0 : Int)),(V.int .u8 (0 : Int)),(V.int .u8 (0 : Int)),(V.int .u8 (0 : Int)),(V.int .u8 (0 : Int)),(vI (0 : Int)),(vI (0 : Int)),(vI (0 : Int)),(V.int .u64 (0 : Int))]) :: (some (b339,0),[(V.int .u8 y337),(V.int .u8 y358),(V.int .u8 y368),(V.int .u8 y378),(V.int .u8 y388),(vI y396),(vI y404),(vI y418),(V.int .u64 (0 : Int))]) :: (some (b348,0),[(V.int .u8 y346.fa),(V.int .u8 y346.fb),(V.int .u8 y346.fc),(V.bool y346.fop),(V.bool y346.ft),(V.bool y346.fto),(V.bool y346.ftrap),(V.bool y346.fbits),(V.bool y346.frow)]) :: L)) :
    Run T i81n59 (mkE [(0,(V.ptr b128 0 0)),(1,(V.ptr b331 0 0)),(0,(V.ptr b339 0 0)),(0,(V.ptr b348 0 0))] 94) H (finP (some [some (some 9)]) [2] (Q81 b128 L r)) := by
  unfold F81_j7 at h;refine Run.seq ?_;refine Rn.g ?_;refine Ro.t 1 ?_;refine Ro.p (hp.ld 3 (off := 8) (n := none) (v := (V.bool y346.frow)) rfl (by kernel_rfl)) ?_;refine Ro.d (mkE [(0,(V.ptr b128 0 0)),(1,(V.ptr b331 0 0)),(0,(V.ptr b339 0 0)),(0,(V.ptr b348 0 0)),(68,(V.bool y346.frow))] 25) ?_;rcases tf y346.frow with h477 | h477
  · rw [ite_t h477] at h; refine Rn.t h477 ?_;refine Run.rgp ?_;refine RunX.tk 1 (by kernel_rfl) ?_;rcases pnd_some h with ⟨h479,rfl⟩ | ⟨y478,h479,h⟩
    · have hp := hp;refine RunX.h1 (n := 61) (caps := []) (us := [(V.ptr b128 0 0)]) (by kernel_rfl) (by kernel_rfl) (by kernel_rfl) ((w61 h479 hp).mono ?_);rintro p v H hz;cases p with
      | false => exact hz.elim
      | true => ?_
      obtain ⟨h482,q480,h481,hp⟩ := hz;have hp := hp.del 3;have hp := hp.del 2;have hp := hp.del 1;exact ⟨h482,_,h481,hp⟩
    refine RunX.h1 (n := 61) (caps := []) (us := [(V.ptr b128 0 0)]) (by kernel_rfl) (by kernel_rfl) (by kernel_rfl) ((w61 h479 hp).mono ?_);rintro p _ H hz;cases p with
    | true => exact hz.elim
    | false => ?_
    obtain ⟨rfl,hp⟩ := hz;show RunX T _ _ _ _;refine RunX.tk 2 (by kernel_rfl) ?_;refine RunX.st hp (by kernel_rfl) 2 (off := 8) (v := (V.int .u64 (IntKind.u64.wrap y478.1))) (cs' := [(V.int .u8 y337),(V.int .u8 y358),(V.int .u8 y368),(V.int .u8 y378),(V.int .u8 y388),(vI y396),(vI y404),(vI y418),(V.int .u64 (IntKind.u64.wrap y478.1))]) rfl (by kernel_rfl) (by kernel_rfl) (by kernel_rfl) ?_;intro H hp;refine RunX.done (e' := (mkE [(0,(V.ptr b128 0 0)),(1,(V.ptr b331 0 0)),(0,(V.ptr b339 0 0)),(0,(V.ptr b348 0 0))] 94)) (by kernel_rfl) ?_;exact w81_j8 h hp
  · rw [ite_f h477] at h; refine Rn.f h477 ?_;refine Run.skip ?_;refine Rn.c (mkE [(0,(V.ptr b128 0 0)),(1,(V.ptr b331 0 0)),(0,(V.ptr b339 0 0)),(0,(V.ptr b348 0 0))] 94) ?_;exact w81_j8 h hp
def F81_j6 (y337 : Int) (y346 : T_form) (y358 : Int) (y368 : Int) (y378 : Int) (y388 : Int) (y396 : Int) (y403 : (List Int)) (y404 : Int) : Option (Option (T_Code × T_reader)) :=
  if (y346.fc != (0 : Int)) then
    pnd (F61 (⟨y403⟩ : T_reader)) fun y484 =>
    F81_j7 y337 y346 y358 y368 y378 y388 y396 y404 (y484.2.fb) (y484.1)
  else
    if y346.frow then
      pnd (F61 (⟨y403⟩ : T_reader)) fun y490 =>
      F81_j7 y337 y346 y358 y368 y378 y388 y396 y404 (y490.2.fb) (y490.1)
    else
      F81_j7 y337 y346 y358 y368 y378 y388 y396 y404 (y403) ((0 : Int))
theorem w81_j6 {y337 : Int} {y346 : T_form} {y358 : Int} {y368 : Int} {y378 : Int} {y388 : Int} {y396 : Int} {y403 : (List Int)} {y404 : Int} {r : (Option (T_Code × T_reader))} (h : F81_j6 y337 y346 y358 y368 y378 y388 y396 y403 y404 = some r) {b128 : Nat} {b331 : Nat} {b339 : Nat} {b348 : Nat} {H : Heap} {L : List Ob} (hp : HP H ((some (b128,0),[(Zl (EI .u8) y403)]) :: (some (b331,0),[(V.int .u8 (0 : Int)),(V.int .u8 (0 : Int)),(V.int .u8 (0 : Int)),(V.int .u8 (0 : Int)),(V.int .u8 (0 : Int)),(vI (0 : Int)),(vI (0 : Int)),(vI (0 : Int)),(V.int .u64 (0 : Int))]) :: (some (b339,0),[(V.int .u8 y337),(V.int .u8 y358),(V.int .u8 y368),(V.int .u8 y378),(V.int .u8 y388),(vI y396),(vI y404),(vI (0 : Int)),(V.int .u64 (0 : Int))]) :: (some (b348,0),[(V.int .u8 y346.fa),(V.int .u8 y346.fb),(V.int .u8 y346.fc),(V.bool y346.fop),(V.bool y346.ft),(V.bool y346.fto),(V.bool y346.ftrap),(V.bool y346.fbits),(V.bool y346.frow)]) :: L)) :
    Run T i81n60 (mkE [(0,(V.ptr b128 0 0)),(1,(V.ptr b331 0 0)),(0,(V.ptr b339 0 0)),(0,(V.ptr b348 0 0))] 94) H (finP (some [some (some 9)]) [2] (Q81 b128 L r)) := by
  unfold F81_j6 at h;refine Run.seq ?_;refine Rn.g ?_;refine Ro.t 1 ?_;refine Ro.p (hp.ld 3 (off := 2) (n := none) (v := (V.int .u8 y346.fc)) rfl (by kernel_rfl)) ?_;rcases tf (y346.fc != (0 : Int)) with h483 | h483
  · rw [ite_t h483] at h; refine Ro.p (bool_of h483) ?_;refine Ro.t 4 ?_;refine Ro.d (mkE [(0,(V.ptr b128 0 0)),(1,(V.ptr b331 0 0)),(0,(V.ptr b339 0 0)),(0,(V.ptr b348 0 0)),(63,(V.bool true))] 30) ?_;refine Run.condT (by kernel_rfl) ?_;refine Run.rgp ?_;refine RunX.tk 1 (by kernel_rfl) ?_;rcases pnd_some h with ⟨h485,rfl⟩ | ⟨y484,h485,h⟩
    · have hp := hp;refine RunX.h1 (n := 61) (caps := []) (us := [(V.ptr b128 0 0)]) (by kernel_rfl) (by kernel_rfl) (by kernel_rfl) ((w61 h485 hp).mono ?_);rintro p v H hz;cases p with
      | false => exact hz.elim
      | true => ?_
      obtain ⟨h488,q486,h487,hp⟩ := hz;have hp := hp.del 3;have hp := hp.del 2;have hp := hp.del 1;exact ⟨h488,_,h487,hp⟩
    refine RunX.h1 (n := 61) (caps := []) (us := [(V.ptr b128 0 0)]) (by kernel_rfl) (by kernel_rfl) (by kernel_rfl) ((w61 h485 hp).mono ?_);rintro p _ H hz;cases p with
    | true => exact hz.elim
    | false => ?_
    obtain ⟨rfl,hp⟩ := hz;show RunX T _ _ _ _;refine RunX.tk 1 (by kernel_rfl) ?_;refine RunX.st hp (by kernel_rfl) 2 (off := 7) (v := (vI y484.1)) (cs' := [(V.int .u8 y337),(V.int .u8 y358),(V.int .u8 y368),(V.int .u8 y378),(V.int .u8 y388),(vI y396),(vI y404),(vI y484.1),(V.int .u64 (0 : Int))]) rfl (by kernel_rfl) (by kernel_rfl) (by kernel_rfl) ?_;intro H hp;refine RunX.done (e' := (mkE [(0,(V.ptr b128 0 0)),(1,(V.ptr b331 0 0)),(0,(V.ptr b339 0 0)),(0,(V.ptr b348 0 0))] 94)) (by kernel_rfl) ?_;exact w81_j7 h hp
  · rw [ite_f h483] at h; refine Ro.p (bool_of h483) ?_;refine Ro.t 2 ?_;refine Ro.p (hp.ld 3 (off := 8) (n := none) (v := (V.bool y346.frow)) rfl (by kernel_rfl)) ?_;refine Ro.t 1 ?_;refine Ro.d (mkE [(0,(V.ptr b128 0 0)),(1,(V.ptr b331 0 0)),(0,(V.ptr b339 0 0)),(0,(V.ptr b348 0 0)),(63,(V.bool y346.frow))] 30) ?_;rcases tf y346.frow with h489 | h489
    · rw [ite_t h489] at h; refine Rn.t h489 ?_;refine Run.rgp ?_;refine RunX.tk 1 (by kernel_rfl) ?_;rcases pnd_some h with ⟨h491,rfl⟩ | ⟨y490,h491,h⟩
      · have hp := hp;refine RunX.h1 (n := 61) (caps := []) (us := [(V.ptr b128 0 0)]) (by kernel_rfl) (by kernel_rfl) (by kernel_rfl) ((w61 h491 hp).mono ?_);rintro p v H hz;cases p with
        | false => exact hz.elim
        | true => ?_
        obtain ⟨h494,q492,h493,hp⟩ := hz;have hp := hp.del 3;have hp := hp.del 2;have hp := hp.del 1;exact ⟨h494,_,h493,hp⟩
      refine RunX.h1 (n := 61) (caps := []) (us := [(V.ptr b128 0 0)]) (by kernel_rfl) (by kernel_rfl) (by kernel_rfl) ((w61 h491 hp).mono ?_);rintro p _ H hz;cases p with
      | true => exact hz.elim
      | false => ?_
      obtain ⟨rfl,hp⟩ := hz;show RunX T _ _ _ _;refine RunX.tk 1 (by kernel_rfl) ?_;refine RunX.st hp (by kernel_rfl) 2 (off := 7) (v := (vI y490.1)) (cs' := [(V.int .u8 y337),(V.int .u8 y358),(V.int .u8 y368),(V.int .u8 y378),(V.int .u8 y388),(vI y396),(vI y404),(vI y490.1),(V.int .u64 (0 : Int))]) rfl (by kernel_rfl) (by kernel_rfl) (by kernel_rfl) ?_;intro H hp;refine RunX.done (e' := (mkE [(0,(V.ptr b128 0 0)),(1,(V.ptr b331 0 0)),(0,(V.ptr b339 0 0)),(0,(V.ptr b348 0 0))] 94)) (by kernel_rfl) ?_;exact w81_j7 h hp
    · rw [ite_f h489] at h; refine Rn.f h489 ?_;refine Run.skip ?_;refine Rn.c (mkE [(0,(V.ptr b128 0 0)),(1,(V.ptr b331 0 0)),(0,(V.ptr b339 0 0)),(0,(V.ptr b348 0 0))] 94) ?_;exact w81_j7 h hp
def F81_j5 (y337 : Int) (y346 : T_form) (y358 : Int) (y368 : Int) (y378 : Int) (y388 : Int) (y395 : (List Int)) (y396 : Int) : Option (Option (T_Code × T_reader)) :=
  if (y346.fb != (0 : Int)) then
    pnd (F61 (⟨y395⟩ : T_reader)) fun y496 =>
    F81_j6 y337 y346 y358 y368 y378 y388 y396 (y496.2.fb) (y496.1)
  else
    F81_j6 y337 y346 y358 y368 y378 y388 y396 (y395) ((0 : Int))
theorem w81_j5 {y337 : Int} {y346 : T_form} {y358 : Int} {y368 : Int} {y378 : Int} {y388 : Int} {y395 : (List Int)} {y396 : Int} {r : (Option (T_Code × T_reader))} (h : F81_j5 y337 y346 y358 y368 y378 y388 y395 y396 = some r) {b128 : Nat} {b331 : Nat} {b339 : Nat} {b348 : Nat} {H : Heap} {L : List Ob} (hp : HP H ((some (b128,0),[(Zl (EI .u8) y395)]) :: (some (b331,0),[(V.int .u8 (0 : Int)),(V.int .u8 (0 : Int)),(V.int .u8 (0 : Int)),(V.int .u8 (0 : Int)),(V.int .u8 (0 : Int)),(vI (0 : Int)),(vI (0 : Int)),(vI (0 : Int)),(V.int .u64 (0 : Int))]) :: (some (b339,0),[(V.int .u8 y337),(V.int .u8 y358),(V.int .u8 y368),(V.int .u8 y378),(V.int .u8 y388),(vI y396),(vI (0 : Int)),(vI (0 : Int)),(V.int .u64 (0 : Int))]) :: (some (b348,0),[(V.int .u8 y346.fa),(V.int .u8 y346.fb),(V.int .u8 y346.fc),(V.bool y346.fop),(V.bool y346.ft),(V.bool y346.fto),(V.bool y346.ftrap),(V.bool y346.fbits),(V.bool y346.frow)]) :: L)) :
    Run T i81n61 (mkE [(0,(V.ptr b128 0 0)),(1,(V.ptr b331 0 0)),(0,(V.ptr b339 0 0)),(0,(V.ptr b348 0 0))] 94) H (finP (some [some (some 9)]) [2] (Q81 b128 L r)) := by
  unfold F81_j5 at h;refine Run.seq ?_;refine Rn.g ?_;refine Ro.t 1 ?_;refine Ro.p (hp.ld 3 (off := 1) (n := none) (v := (V.int .u8 y346.fb)) rfl (by kernel_rfl)) ?_;refine Ro.t 1 ?_;refine Ro.d (mkE [(0,(V.ptr b128 0 0)),(1,(V.ptr b331 0 0)),(0,(V.ptr b339 0 0)),(0,(V.ptr b348 0 0)),(53,(V.bool (y346.fb != (0 : Int))))] 40) ?_;rcases tf (y346.fb != (0 : Int)) with h495 | h495
  · rw [ite_t h495] at h; refine Rn.t h495 ?_;refine Run.rgp ?_;refine RunX.tk 1 (by kernel_rfl) ?_;rcases pnd_some h with ⟨h497,rfl⟩ | ⟨y496,h497,h⟩
    · have hp := hp;refine RunX.h1 (n := 61) (caps := []) (us := [(V.ptr b128 0 0)]) (by kernel_rfl) (by kernel_rfl) (by kernel_rfl) ((w61 h497 hp).mono ?_);rintro p v H hz;cases p with
      | false => exact hz.elim
      | true => ?_
      obtain ⟨h500,q498,h499,hp⟩ := hz;have hp := hp.del 3;have hp := hp.del 2;have hp := hp.del 1;exact ⟨h500,_,h499,hp⟩
    refine RunX.h1 (n := 61) (caps := []) (us := [(V.ptr b128 0 0)]) (by kernel_rfl) (by kernel_rfl) (by kernel_rfl) ((w61 h497 hp).mono ?_);rintro p _ H hz;cases p with
    | true => exact hz.elim
    | false => ?_
    obtain ⟨rfl,hp⟩ := hz;show RunX T _ _ _ _;refine RunX.tk 1 (by kernel_rfl) ?_;refine RunX.st hp (by kernel_rfl) 2 (off := 6) (v := (vI y496.1)) (cs' := [(V.int .u8 y337),(V.int .u8 y358),(V.int .u8 y368),(V.int .u8 y378),(V.int .u8 y388),(vI y396),(vI y496.1),(vI (0 : Int)),(V.int .u64 (0 : Int))]) rfl (by kernel_rfl) (by kernel_rfl) (by kernel_rfl) ?_;intro H hp;refine RunX.done (e' := (mkE [(0,(V.ptr b128 0 0)),(1,(V.ptr b331 0 0)),(0,(V.ptr b339 0 0)),(0,(V.ptr b348 0 0))] 94)) (by kernel_rfl) ?_;exact w81_j6 h hp
  · rw [ite_f h495] at h; refine Rn.f h495 ?_;refine Run.skip ?_;refine Rn.c (mkE [(0,(V.ptr b128 0 0)),(1,(V.ptr b331 0 0)),(0,(V.ptr b339 0 0)),(0,(V.ptr b348 0 0))] 94) ?_;exact w81_j6 h hp
def F81_j4 (y337 : Int) (y346 : T_form) (y358 : Int) (y368 : Int) (y378 : Int) (y387 : (List Int)) (y388 : Int) : Option (Option (T_Code × T_reader)) :=
  if (y346.fa != (0 : Int)) then
    pnd (F61 (⟨y387⟩ : T_reader)) fun y502 =>
    F81_j5 y337 y346 y358 y368 y378 y388 (y502.2.fb) (y502.1)
  else
    F81_j5 y337 y346 y358 y368 y378 y388 (y387) ((0 : Int))
theorem w81_j4 {y337 : Int} {y346 : T_form} {y358 : Int} {y368 : Int} {y378 : Int} {y387 : (List Int)} {y388 : Int} {r : (Option (T_Code × T_reader))} (h : F81_j4 y337 y346 y358 y368 y378 y387 y388 = some r) {b128 : Nat} {b331 : Nat} {b339 : Nat} {b348 : Nat} {H : Heap} {L : List Ob} (hp : HP H ((some (b128,0),[(Zl (EI .u8) y387)]) :: (some (b331,0),[(V.int .u8 (0 : Int)),(V.int .u8 (0 : Int)),(V.int .u8 (0 : Int)),(V.int .u8 (0 : Int)),(V.int .u8 (0 : Int)),(vI (0 : Int)),(vI (0 : Int)),(vI (0 : Int)),(V.int .u64 (0 : Int))]) :: (some (b339,0),[(V.int .u8 y337),(V.int .u8 y358),(V.int .u8 y368),(V.int .u8 y378),(V.int .u8 y388),(vI (0 : Int)),(vI (0 : Int)),(vI (0 : Int)),(V.int .u64 (0 : Int))]) :: (some (b348,0),[(V.int .u8 y346.fa),(V.int .u8 y346.fb),(V.int .u8 y346.fc),(V.bool y346.fop),(V.bool y346.ft),(V.bool y346.fto),(V.bool y346.ftrap),(V.bool y346.fbits),(V.bool y346.frow)]) :: L)) :
    Run T i81n62 (mkE [(0,(V.ptr b128 0 0)),(1,(V.ptr b331 0 0)),(0,(V.ptr b339 0 0)),(0,(V.ptr b348 0 0))] 94) H (finP (some [some (some 9)]) [2] (Q81 b128 L r)) := by
  unfold F81_j4 at h;refine Run.seq ?_;refine Rn.g ?_;refine Ro.t 1 ?_;refine Ro.p (hp.ld 3 (off := 0) (n := none) (v := (V.int .u8 y346.fa)) rfl (by kernel_rfl)) ?_;refine Ro.t 1 ?_;refine Ro.d (mkE [(0,(V.ptr b128 0 0)),(1,(V.ptr b331 0 0)),(0,(V.ptr b339 0 0)),(0,(V.ptr b348 0 0)),(47,(V.bool (y346.fa != (0 : Int))))] 46) ?_;rcases tf (y346.fa != (0 : Int)) with h501 | h501
  · rw [ite_t h501] at h; refine Rn.t h501 ?_;refine Run.rgp ?_;refine RunX.tk 1 (by kernel_rfl) ?_;rcases pnd_some h with ⟨h503,rfl⟩ | ⟨y502,h503,h⟩
    · have hp := hp;refine RunX.h1 (n := 61) (caps := []) (us := [(V.ptr b128 0 0)]) (by kernel_rfl) (by kernel_rfl) (by kernel_rfl) ((w61 h503 hp).mono ?_);rintro p v H hz;cases p with
      | false => exact hz.elim
      | true => ?_
      obtain ⟨h506,q504,h505,hp⟩ := hz;have hp := hp.del 3;have hp := hp.del 2;have hp := hp.del 1;exact ⟨h506,_,h505,hp⟩
    refine RunX.h1 (n := 61) (caps := []) (us := [(V.ptr b128 0 0)]) (by kernel_rfl) (by kernel_rfl) (by kernel_rfl) ((w61 h503 hp).mono ?_);rintro p _ H hz;cases p with
    | true => exact hz.elim
    | false => ?_
    obtain ⟨rfl,hp⟩ := hz;show RunX T _ _ _ _;refine RunX.tk 1 (by kernel_rfl) ?_;refine RunX.st hp (by kernel_rfl) 2 (off := 5) (v := (vI y502.1)) (cs' := [(V.int .u8 y337),(V.int .u8 y358),(V.int .u8 y368),(V.int .u8 y378),(V.int .u8 y388),(vI y502.1),(vI (0 : Int)),(vI (0 : Int)),(V.int .u64 (0 : Int))]) rfl (by kernel_rfl) (by kernel_rfl) (by kernel_rfl) ?_;intro H hp;refine RunX.done (e' := (mkE [(0,(V.ptr b128 0 0)),(1,(V.ptr b331 0 0)),(0,(V.ptr b339 0 0)),(0,(V.ptr b348 0 0))] 94)) (by kernel_rfl) ?_;exact w81_j5 h hp
  · rw [ite_f h501] at h; refine Rn.f h501 ?_;refine Run.skip ?_;refine Rn.c (mkE [(0,(V.ptr b128 0 0)),(1,(V.ptr b331 0 0)),(0,(V.ptr b339 0 0)),(0,(V.ptr b348 0 0))] 94) ?_;exact w81_j5 h hp
def F81_j3 (y337 : Int) (y346 : T_form) (y358 : Int) (y368 : Int) (y377 : (List Int)) (y378 : Int) : Option (Option (T_Code × T_reader)) :=
  if y346.ftrap then
    pnd (F80 (⟨y377⟩ : T_reader) (1 : Int)) fun y508 =>
    (idx y508.1 (0 : Int)).bind fun y513 =>
    F81_j4 y337 y346 y358 y368 y378 (y508.2.fb) (y513)
  else
    F81_j4 y337 y346 y358 y368 y378 (y377) ((0 : Int))
theorem w81_j3 {y337 : Int} {y346 : T_form} {y358 : Int} {y368 : Int} {y377 : (List Int)} {y378 : Int} {r : (Option (T_Code × T_reader))} (h : F81_j3 y337 y346 y358 y368 y377 y378 = some r) {b128 : Nat} {b331 : Nat} {b339 : Nat} {b348 : Nat} {H : Heap} {L : List Ob} (hp : HP H ((some (b128,0),[(Zl (EI .u8) y377)]) :: (some (b331,0),[(V.int .u8 (0 : Int)),(V.int .u8 (0 : Int)),(V.int .u8 (0 : Int)),(V.int .u8 (0 : Int)),(V.int .u8 (0 : Int)),(vI (0 : Int)),(vI (0 : Int)),(vI (0 : Int)),(V.int .u64 (0 : Int))]) :: (some (b339,0),[(V.int .u8 y337),(V.int .u8 y358),(V.int .u8 y368),(V.int .u8 y378),(V.int .u8 (0 : Int)),(vI (0 : Int)),(vI (0 : Int)),(vI (0 : Int)),(V.int .u64 (0 : Int))]) :: (some (b348,0),[(V.int .u8 y346.fa),(V.int .u8 y346.fb),(V.int .u8 y346.fc),(V.bool y346.fop),(V.bool y346.ft),(V.bool y346.fto),(V.bool y346.ftrap),(V.bool y346.fbits),(V.bool y346.frow)]) :: L)) :
    Run T i81n63 (mkE [(0,(V.ptr b128 0 0)),(1,(V.ptr b331 0 0)),(0,(V.ptr b339 0 0)),(0,(V.ptr b348 0 0))] 94) H (finP (some [some (some 9)]) [2] (Q81 b128 L r)) := by
  unfold F81_j3 at h;refine Run.seq ?_;refine Rn.g ?_;refine Ro.t 1 ?_;refine Ro.p (hp.ld 3 (off := 6) (n := none) (v := (V.bool y346.ftrap)) rfl (by kernel_rfl)) ?_;refine Ro.d (mkE [(0,(V.ptr b128 0 0)),(1,(V.ptr b331 0 0)),(0,(V.ptr b339 0 0)),(0,(V.ptr b348 0 0)),(39,(V.bool y346.ftrap))] 54) ?_;rcases tf y346.ftrap with h507 | h507
  · rw [ite_t h507] at h; refine Rn.t h507 ?_;refine Run.rgp ?_;refine RunX.tk 1 (by kernel_rfl) ?_;rcases pnd_some h with ⟨h509,rfl⟩ | ⟨y508,h509,h⟩
    · have hp := hp;refine RunX.h1 (n := 80) (caps := []) (us := [(V.ptr b128 0 0),(vI (1 : Int))]) (by kernel_rfl) (by kernel_rfl) (by kernel_rfl) ((w80 h509 hp).mono ?_);rintro p v H hz;cases p with
      | false => exact hz.elim
      | true => ?_
      obtain ⟨h512,q510,h511,hp⟩ := hz;have hp := hp.del 3;have hp := hp.del 2;have hp := hp.del 1;exact ⟨h512,_,h511,hp⟩
    refine RunX.h1 (n := 80) (caps := []) (us := [(V.ptr b128 0 0),(vI (1 : Int))]) (by kernel_rfl) (by kernel_rfl) (by kernel_rfl) ((w80 h509 hp).mono ?_);rintro p _ H hz;cases p with
    | true => exact hz.elim
    | false => ?_
    obtain ⟨rfl,hp⟩ := hz;show RunX T _ _ _ _;obtain ⟨y513,h514,h⟩ := bind_some h;refine RunX.p1 (by kernel_rfl) rfl (by kernel_rfl) (idx_fz (EI .u8) .i64 h514) ?_;refine RunX.tk 2 (by kernel_rfl) ?_;refine RunX.st hp (by kernel_rfl) 2 (off := 4) (v := (V.int .u8 y513)) (cs' := [(V.int .u8 y337),(V.int .u8 y358),(V.int .u8 y368),(V.int .u8 y378),(V.int .u8 y513),(vI (0 : Int)),(vI (0 : Int)),(vI (0 : Int)),(V.int .u64 (0 : Int))]) rfl (by kernel_rfl) (by kernel_rfl) (by kernel_rfl) ?_;intro H hp;refine RunX.done (e' := (mkE [(0,(V.ptr b128 0 0)),(1,(V.ptr b331 0 0)),(0,(V.ptr b339 0 0)),(0,(V.ptr b348 0 0))] 94)) (by kernel_rfl) ?_;exact w81_j4 h hp
  · rw [ite_f h507] at h; refine Rn.f h507 ?_;refine Run.skip ?_;refine Rn.c (mkE [(0,(V.ptr b128 0 0)),(1,(V.ptr b331 0 0)),(0,(V.ptr b339 0 0)),(0,(V.ptr b348 0 0))] 94) ?_;exact w81_j4 h hp
def F81_j2 (y337 : Int) (y346 : T_form) (y358 : Int) (y367 : (List Int)) (y368 : Int) : Option (Option (T_Code × T_reader)) :=
  if y346.fto then
    pnd (F80 (⟨y367⟩ : T_reader) (1 : Int)) fun y516 =>
    (idx y516.1 (0 : Int)).bind fun y521 =>
    F81_j3 y337 y346 y358 y368 (y516.2.fb) (y521)
  else
    F81_j3 y337 y346 y358 y368 (y367) ((0 : Int))
theorem w81_j2 {y337 : Int} {y346 : T_form} {y358 : Int} {y367 : (List Int)} {y368 : Int} {r : (Option (T_Code × T_reader))} (h : F81_j2 y337 y346 y358 y367 y368 = some r) {b128 : Nat} {b331 : Nat} {b339 : Nat} {b348 : Nat} {H : Heap} {L : List Ob} (hp : HP H ((some (b128,0),[(Zl (EI .u8) y367)]) :: (some (b331,0),[(V.int .u8 (0 : Int)),(V.int .u8 (0 : Int)),(V.int .u8 (0 : Int)),(V.int .u8 (0 : Int)),(V.int .u8 (0 : Int)),(vI (0 : Int)),(vI (0 : Int)),(vI (0 : Int)),(V.int .u64 (0 : Int))]) :: (some (b339,0),[(V.int .u8 y337),(V.int .u8 y358),(V.int .u8 y368),(V.int .u8 (0 : Int)),(V.int .u8 (0 : Int)),(vI (0 : Int)),(vI (0 : Int)),(vI (0 : Int)),(V.int .u64 (0 : Int))]) :: (some (b348,0),[(V.int .u8 y346.fa),(V.int .u8 y346.fb),(V.int .u8 y346.fc),(V.bool y346.fop),(V.bool y346.ft),(V.bool y346.fto),(V.bool y346.ftrap),(V.bool y346.fbits),(V.bool y346.frow)]) :: L)) :
    Run T i81n64 (mkE [(0,(V.ptr b128 0 0)),(1,(V.ptr b331 0 0)),(0,(V.ptr b339 0 0)),(0,(V.ptr b348 0 0))] 94) H (finP (some [some (some 9)]) [2] (Q81 b128 L r)) := by
  unfold F81_j2 at h;refine Run.seq ?_;refine Rn.g ?_;refine Ro.t 1 ?_;refine Ro.p (hp.ld 3 (off := 5) (n := none) (v := (V.bool y346.fto)) rfl (by kernel_rfl)) ?_;refine Ro.d (mkE [(0,(V.ptr b128 0 0)),(1,(V.ptr b331 0 0)),(0,(V.ptr b339 0 0)),(0,(V.ptr b348 0 0)),(32,(V.bool y346.fto))] 61) ?_;rcases tf y346.fto with h515 | h515
  · rw [ite_t h515] at h; refine Rn.t h515 ?_;refine Run.rgp ?_;refine RunX.tk 1 (by kernel_rfl) ?_;rcases pnd_some h with ⟨h517,rfl⟩ | ⟨y516,h517,h⟩
    · have hp := hp;refine RunX.h1 (n := 80) (caps := []) (us := [(V.ptr b128 0 0),(vI (1 : Int))]) (by kernel_rfl) (by kernel_rfl) (by kernel_rfl) ((w80 h517 hp).mono ?_);rintro p v H hz;cases p with
      | false => exact hz.elim
      | true => ?_
      obtain ⟨h520,q518,h519,hp⟩ := hz;have hp := hp.del 3;have hp := hp.del 2;have hp := hp.del 1;exact ⟨h520,_,h519,hp⟩
    refine RunX.h1 (n := 80) (caps := []) (us := [(V.ptr b128 0 0),(vI (1 : Int))]) (by kernel_rfl) (by kernel_rfl) (by kernel_rfl) ((w80 h517 hp).mono ?_);rintro p _ H hz;cases p with
    | true => exact hz.elim
    | false => ?_
    obtain ⟨rfl,hp⟩ := hz;show RunX T _ _ _ _;obtain ⟨y521,h522,h⟩ := bind_some h;refine RunX.p1 (by kernel_rfl) rfl (by kernel_rfl) (idx_fz (EI .u8) .i64 h522) ?_;refine RunX.tk 2 (by kernel_rfl) ?_;refine RunX.st hp (by kernel_rfl) 2 (off := 3) (v := (V.int .u8 y521)) (cs' := [(V.int .u8 y337),(V.int .u8 y358),(V.int .u8 y368),(V.int .u8 y521),(V.int .u8 (0 : Int)),(vI (0 : Int)),(vI (0 : Int)),(vI (0 : Int)),(V.int .u64 (0 : Int))]) rfl (by kernel_rfl) (by kernel_rfl) (by kernel_rfl) ?_;intro H hp;refine RunX.done (e' := (mkE [(0,(V.ptr b128 0 0)),(1,(V.ptr b331 0 0)),(0,(V.ptr b339 0 0)),(0,(V.ptr b348 0 0))] 94)) (by kernel_rfl) ?_;exact w81_j3 h hp
  · rw [ite_f h515] at h; refine Rn.f h515 ?_;refine Run.skip ?_;refine Rn.c (mkE [(0,(V.ptr b128 0 0)),(1,(V.ptr b331 0 0)),(0,(V.ptr b339 0 0)),(0,(V.ptr b348 0 0))] 94) ?_;exact w81_j3 h hp
def F81_j1 (y337 : Int) (y346 : T_form) (y357 : (List Int)) (y358 : Int) : Option (Option (T_Code × T_reader)) :=
  if y346.ft then
    pnd (F80 (⟨y357⟩ : T_reader) (1 : Int)) fun y524 =>
    (idx y524.1 (0 : Int)).bind fun y529 =>
    F81_j2 y337 y346 y358 (y524.2.fb) (y529)
  else
    F81_j2 y337 y346 y358 (y357) ((0 : Int))
theorem w81_j1 {y337 : Int} {y346 : T_form} {y357 : (List Int)} {y358 : Int} {r : (Option (T_Code × T_reader))} (h : F81_j1 y337 y346 y357 y358 = some r) {b128 : Nat} {b331 : Nat} {b339 : Nat} {b348 : Nat} {H : Heap} {L : List Ob} (hp : HP H ((some (b128,0),[(Zl (EI .u8) y357)]) :: (some (b331,0),[(V.int .u8 (0 : Int)),(V.int .u8 (0 : Int)),(V.int .u8 (0 : Int)),(V.int .u8 (0 : Int)),(V.int .u8 (0 : Int)),(vI (0 : Int)),(vI (0 : Int)),(vI (0 : Int)),(V.int .u64 (0 : Int))]) :: (some (b339,0),[(V.int .u8 y337),(V.int .u8 y358),(V.int .u8 (0 : Int)),(V.int .u8 (0 : Int)),(V.int .u8 (0 : Int)),(vI (0 : Int)),(vI (0 : Int)),(vI (0 : Int)),(V.int .u64 (0 : Int))]) :: (some (b348,0),[(V.int .u8 y346.fa),(V.int .u8 y346.fb),(V.int .u8 y346.fc),(V.bool y346.fop),(V.bool y346.ft),(V.bool y346.fto),(V.bool y346.ftrap),(V.bool y346.fbits),(V.bool y346.frow)]) :: L)) :
    Run T i81n65 (mkE [(0,(V.ptr b128 0 0)),(1,(V.ptr b331 0 0)),(0,(V.ptr b339 0 0)),(0,(V.ptr b348 0 0))] 94) H (finP (some [some (some 9)]) [2] (Q81 b128 L r)) := by
  unfold F81_j1 at h;refine Run.seq ?_;refine Rn.g ?_;refine Ro.t 1 ?_;refine Ro.p (hp.ld 3 (off := 4) (n := none) (v := (V.bool y346.ft)) rfl (by kernel_rfl)) ?_;refine Ro.d (mkE [(0,(V.ptr b128 0 0)),(1,(V.ptr b331 0 0)),(0,(V.ptr b339 0 0)),(0,(V.ptr b348 0 0)),(25,(V.bool y346.ft))] 68) ?_;rcases tf y346.ft with h523 | h523
  · rw [ite_t h523] at h; refine Rn.t h523 ?_;refine Run.rgp ?_;refine RunX.tk 1 (by kernel_rfl) ?_;rcases pnd_some h with ⟨h525,rfl⟩ | ⟨y524,h525,h⟩
    · have hp := hp;refine RunX.h1 (n := 80) (caps := []) (us := [(V.ptr b128 0 0),(vI (1 : Int))]) (by kernel_rfl) (by kernel_rfl) (by kernel_rfl) ((w80 h525 hp).mono ?_);rintro p v H hz;cases p with
      | false => exact hz.elim
      | true => ?_
      obtain ⟨h528,q526,h527,hp⟩ := hz;have hp := hp.del 3;have hp := hp.del 2;have hp := hp.del 1;exact ⟨h528,_,h527,hp⟩
    refine RunX.h1 (n := 80) (caps := []) (us := [(V.ptr b128 0 0),(vI (1 : Int))]) (by kernel_rfl) (by kernel_rfl) (by kernel_rfl) ((w80 h525 hp).mono ?_);rintro p _ H hz;cases p with
    | true => exact hz.elim
    | false => ?_
    obtain ⟨rfl,hp⟩ := hz;show RunX T _ _ _ _;obtain ⟨y529,h530,h⟩ := bind_some h;refine RunX.p1 (by kernel_rfl) rfl (by kernel_rfl) (idx_fz (EI .u8) .i64 h530) ?_;refine RunX.tk 2 (by kernel_rfl) ?_;refine RunX.st hp (by kernel_rfl) 2 (off := 2) (v := (V.int .u8 y529)) (cs' := [(V.int .u8 y337),(V.int .u8 y358),(V.int .u8 y529),(V.int .u8 (0 : Int)),(V.int .u8 (0 : Int)),(vI (0 : Int)),(vI (0 : Int)),(vI (0 : Int)),(V.int .u64 (0 : Int))]) rfl (by kernel_rfl) (by kernel_rfl) (by kernel_rfl) ?_;intro H hp;refine RunX.done (e' := (mkE [(0,(V.ptr b128 0 0)),(1,(V.ptr b331 0 0)),(0,(V.ptr b339 0 0)),(0,(V.ptr b348 0 0))] 94)) (by kernel_rfl) ?_;exact w81_j2 h hp
  · rw [ite_f h523] at h; refine Rn.f h523 ?_;refine Run.skip ?_;refine Rn.c (mkE [(0,(V.ptr b128 0 0)),(1,(V.ptr b331 0 0)),(0,(V.ptr b339 0 0)),(0,(V.ptr b348 0 0))] 94) ?_;exact w81_j2 h hp
def F81 (x0 : T_reader) : Option (Option (T_Code × T_reader)) :=
  pnd (F80 x0 (1 : Int)) fun y332 =>
  (idx y332.1 (0 : Int)).bind fun y337 =>
  (F82 y337).bind fun y343 =>
  if (!y343) then
    some none
  else
    (idx G0 y337).bind fun y346 =>
    if y346.fop then
      pnd (F80 y332.2 (1 : Int)) fun y532 =>
      (idx y532.1 (0 : Int)).bind fun y537 =>
      F81_j1 y337 y346 (y532.2.fb) (y537)
    else
      F81_j1 y337 y346 (y332.2.fb) ((0 : Int))
theorem w81 {x0 : T_reader} {r : (Option (T_Code × T_reader))} (h : F81 x0 = some r) {b128 : Nat} {H : Heap} {L : List Ob} (hp : HP H ((some (b128,0),[(Zl (EI .u8) x0.fb)]) :: L)) : FnX T 81 [(V.ptr b128 0 0)] H (Q81 b128 L r) := by
  refine FnX.enterE t81 (e0 := (mkE [(0,(V.ptr b128 0 0))] 98)) (by kernel_rfl) ?_;show Run T (.fin [some (some 9)] (.clr [] i81n70)) _ _ (finP (some [some (some 9)]) [2] (Q81 b128 L r));refine Run.finb ?_;refine Rn.k (mkE [(0,(V.ptr b128 0 0))] 98) ?_;unfold F81 at h;refine Rn.g ?_;refine RunO.alloc hp (by kernel_rfl) ?_;intro b331 H hp;refine Ro.d (mkE [(0,(V.ptr b128 0 0)),(1,(V.ptr b331 0 0))] 96) ?_;refine Run.seq ?_;refine Run.rgp ?_;refine RunX.tk 1 (by kernel_rfl) ?_;rcases pnd_some h with ⟨h333,rfl⟩ | ⟨y332,h333,h⟩
  · have hp := hp;have hp := hp.pick 0 rfl;have hp := hp.pick 1 rfl;refine RunX.h1 (n := 80) (caps := []) (us := [(V.ptr b128 0 0),(vI (1 : Int))]) (by kernel_rfl) (by kernel_rfl) (by kernel_rfl) ((w80 h333 hp).mono ?_);rintro p v H hz;cases p with
    | false => exact hz.elim
    | true => ?_
    obtain ⟨h336,q334,h335,hp⟩ := hz;have hp := hp.del 1;exact ⟨h336,_,h335,hp⟩
  have hp := hp.pick 0 rfl;have hp := hp.pick 1 rfl;refine RunX.h1 (n := 80) (caps := []) (us := [(V.ptr b128 0 0),(vI (1 : Int))]) (by kernel_rfl) (by kernel_rfl) (by kernel_rfl) ((w80 h333 hp).mono ?_);rintro p _ H hz;cases p with
  | true => exact hz.elim
  | false => ?_
  obtain ⟨rfl,hp⟩ := hz;show RunX T _ _ _ _;obtain ⟨y337,h338,h⟩ := bind_some h;refine RunX.p1 (by kernel_rfl) rfl (by kernel_rfl) (idx_fz (EI .u8) .i64 h338) ?_;refine RunX.tk 2 (by kernel_rfl) ?_;refine RunX.alloc hp (by kernel_rfl) ?_;intro b339 H hp;refine RunX.st hp (by kernel_rfl) 0 (off := 0) (v := (V.ag [(V.int .u8 y337),(V.int .u8 (0 : Int)),(V.int .u8 (0 : Int)),(V.int .u8 (0 : Int)),(V.int .u8 (0 : Int)),(vI (0 : Int)),(vI (0 : Int)),(vI (0 : Int)),(V.int .u64 (0 : Int))])) (cs' := [(V.int .u8 y337),(V.int .u8 (0 : Int)),(V.int .u8 (0 : Int)),(V.int .u8 (0 : Int)),(V.int .u8 (0 : Int)),(vI (0 : Int)),(vI (0 : Int)),(vI (0 : Int)),(V.int .u64 (0 : Int))]) rfl (by kernel_rfl) (by kernel_rfl) (by kernel_rfl) ?_;intro H hp;refine RunX.done (e' := (mkE [(0,(V.ptr b128 0 0)),(1,(V.ptr b331 0 0)),(0,(V.ptr b339 0 0))] 95)) (by kernel_rfl) ?_;refine Run.seq ?_;refine Rn.g ?_;refine Ro.t 1 ?_;refine Ro.p (hp.ld 0 (off := 0) (n := none) (v := (V.int .u8 y337)) rfl (by kernel_rfl)) ?_;obtain ⟨y343,h344,h⟩ := bind_some h;refine RunO.c1 (by kernel_rfl) (by kernel_rfl) (c82 h344 _) ?_;refine Ro.t 1 ?_;refine Ro.d (mkE [(0,(V.ptr b128 0 0)),(1,(V.ptr b331 0 0)),(0,(V.ptr b339 0 0)),(11,(V.bool (!y343)))] 83) ?_;rcases tf (!y343) with h345 | h345
  · rw [ite_t h345] at h; refine Rn.t h345 ?_;refine Run.rpn ?_;refine Ro.t 2 ?_;refine RunO.nil ⟨125,(V.ag []),by kernel_rfl,?_⟩;obtain rfl := Option.some.inj h;have hp := hp.del 2;have hp := hp.del 0;exact ⟨(by kernel_rfl),_,(by kernel_rfl),hp⟩
  · rw [ite_f h345] at h; refine Rn.f h345 ?_;refine Run.skip ?_;refine Rn.c (mkE [(0,(V.ptr b128 0 0)),(1,(V.ptr b331 0 0)),(0,(V.ptr b339 0 0))] 95) ?_;refine Rn.g ?_;refine Ro.t 1 ?_;refine Ro.p (hp.ld 0 (off := 0) (n := none) (v := (V.int .u8 y337)) rfl (by kernel_rfl)) ?_;obtain ⟨y346,h347,h⟩ := bind_some h;refine Ro.p (idxp_fp E_form (l := G0) .u8 (n := 18) (cs := [V.int .u8 0,V.int .u8 0,V.int .u8 0,V.bool false,V.bool false,V.bool false,V.bool false,V.bool false,V.bool false,V.int .u8 1,V.int .u8 0,V.int .u8 0,V.bool false,V.bool false,V.bool false,V.bool false,V.bool true,V.bool false,V.int .u8 1,V.int .u8 1,V.int .u8 0,V.bool false,V.bool false,V.bool false,V.bool false,V.bool false,V.bool false,V.int .u8 1,V.int .u8 1,V.int .u8 7,V.bool true,V.bool true,V.bool false,V.bool false,V.bool false,V.bool false,V.int .u8 1,V.int .u8 1,V.int .u8 0,V.bool false,V.bool true,V.bool true,V.bool false,V.bool false,V.bool false,V.int .u8 1,V.int .u8 2,V.int .u8 0,V.bool false,V.bool false,V.bool false,V.bool false,V.bool false,V.bool false,V.int .u8 2,V.int .u8 1,V.int .u8 0,V.bool false,V.bool false,V.bool false,V.bool false,V.bool false,V.bool false,V.int .u8 1,V.int .u8 1,V.int .u8 0,V.bool false,V.bool false,V.bool false,V.bool false,V.bool false,V.bool true,V.int .u8 1,V.int .u8 1,V.int .u8 0,V.bool false,V.bool false,V.bool false,V.bool false,V.bool false,V.bool true,V.int .u8 0,V.int .u8 0,V.int .u8 0,V.bool false,V.bool false,V.bool false,V.bool false,V.bool false,V.bool true,V.int .u8 1,V.int .u8 4,V.int .u8 0,V.bool false,V.bool false,V.bool false,V.bool false,V.bool false,V.bool false,V.int .u8 5,V.int .u8 1,V.int .u8 0,V.bool false,V.bool false,V.bool false,V.bool false,V.bool false,V.bool false,V.int .u8 6,V.int .u8 0,V.int .u8 0,V.bool false,V.bool false,V.bool false,V.bool false,V.bool false,V.bool false,V.int .u8 1,V.int .u8 0,V.int .u8 0,V.bool false,V.bool true,V.bool false,V.bool false,V.bool false,V.bool false,V.int .u8 3,V.int .u8 0,V.int .u8 0,V.bool false,V.bool false,V.bool false,V.bool false,V.bool false,V.bool false,V.int .u8 1,V.int .u8 3,V.int .u8 3,V.bool false,V.bool false,V.bool false,V.bool false,V.bool false,V.bool false,V.int .u8 1,V.int .u8 0,V.int .u8 0,V.bool false,V.bool false,V.bool false,V.bool false,V.bool false,V.bool false,V.int .u8 0,V.int .u8 0,V.int .u8 0,V.bool false,V.bool false,V.bool false,V.bool true,V.bool false,V.bool false]) (by kernel_rfl) (by kernel_rfl) h347) ?_;refine Ro.t 1 ?_;refine RunO.alloc hp (by kernel_rfl) ?_;intro b348 H hp;refine RunO.st hp (by kernel_rfl) 0 (off := 0) (v := (E_form.e y346)) (cs' := [(V.int .u8 y346.fa),(V.int .u8 y346.fb),(V.int .u8 y346.fc),(V.bool y346.fop),(V.bool y346.ft),(V.bool y346.fto),(V.bool y346.ftrap),(V.bool y346.fbits),(V.bool y346.frow)]) rfl (by kernel_rfl) (by kernel_rfl) (by kernel_rfl) ?_;intro H hp;refine Ro.d (mkE [(0,(V.ptr b128 0 0)),(1,(V.ptr b331 0 0)),(0,(V.ptr b339 0 0)),(0,(V.ptr b348 0 0))] 94) ?_;refine Run.seq ?_;refine Rn.g ?_;refine Ro.t 1 ?_;refine Ro.p (hp.ld 0 (off := 3) (n := none) (v := (V.bool y346.fop)) rfl (by kernel_rfl)) ?_;refine Ro.d (mkE [(0,(V.ptr b128 0 0)),(1,(V.ptr b331 0 0)),(0,(V.ptr b339 0 0)),(0,(V.ptr b348 0 0)),(18,(V.bool y346.fop))] 75) ?_;rcases tf y346.fop with h531 | h531
    · rw [ite_t h531] at h; refine Rn.t h531 ?_;refine Run.rgp ?_;refine RunX.tk 1 (by kernel_rfl) ?_;rcases pnd_some h with ⟨h533,rfl⟩ | ⟨y532,h533,h⟩
      · have hp := hp;have hp := hp.pick 3 rfl;have hp := hp.pick 2 rfl;have hp := hp.pick 2 rfl;have hp := hp.pick 3 rfl;refine RunX.h1 (n := 80) (caps := []) (us := [(V.ptr b128 0 0),(vI (1 : Int))]) (by kernel_rfl) (by kernel_rfl) (by kernel_rfl) ((w80 h533 hp).mono ?_);rintro p v H hz;cases p with
        | false => exact hz.elim
        | true => ?_
        obtain ⟨h536,q534,h535,hp⟩ := hz;have hp := hp.del 3;have hp := hp.del 2;have hp := hp.del 1;exact ⟨h536,_,h535,hp⟩
      have hp := hp.pick 3 rfl;have hp := hp.pick 2 rfl;have hp := hp.pick 2 rfl;have hp := hp.pick 3 rfl;refine RunX.h1 (n := 80) (caps := []) (us := [(V.ptr b128 0 0),(vI (1 : Int))]) (by kernel_rfl) (by kernel_rfl) (by kernel_rfl) ((w80 h533 hp).mono ?_);rintro p _ H hz;cases p with
      | true => exact hz.elim
      | false => ?_
      obtain ⟨rfl,hp⟩ := hz;show RunX T _ _ _ _;obtain ⟨y537,h538,h⟩ := bind_some h;refine RunX.p1 (by kernel_rfl) rfl (by kernel_rfl) (idx_fz (EI .u8) .i64 h538) ?_;refine RunX.tk 2 (by kernel_rfl) ?_;refine RunX.st hp (by kernel_rfl) 2 (off := 1) (v := (V.int .u8 y537)) (cs' := [(V.int .u8 y337),(V.int .u8 y537),(V.int .u8 (0 : Int)),(V.int .u8 (0 : Int)),(V.int .u8 (0 : Int)),(vI (0 : Int)),(vI (0 : Int)),(vI (0 : Int)),(V.int .u64 (0 : Int))]) rfl (by kernel_rfl) (by kernel_rfl) (by kernel_rfl) ?_;intro H hp;refine RunX.done (e' := (mkE [(0,(V.ptr b128 0 0)),(1,(V.ptr b331 0 0)),(0,(V.ptr b339 0 0)),(0,(V.ptr b348 0 0))] 94)) (by kernel_rfl) ?_;have hp := hp.pick 1 rfl;have hp := hp.pick 2 rfl;have hp := hp.pick 3 rfl;have hp := hp.pick 3 rfl;exact w81_j1 h hp
    · rw [ite_f h531] at h; refine Rn.f h531 ?_;refine Run.skip ?_;refine Rn.c (mkE [(0,(V.ptr b128 0 0)),(1,(V.ptr b331 0 0)),(0,(V.ptr b339 0 0)),(0,(V.ptr b348 0 0))] 94) ?_;have hp := hp.pick 0 rfl;have hp := hp.pick 1 rfl;have hp := hp.pick 3 rfl;have hp := hp.pick 3 rfl;exact w81_j1 h hp
abbrev Q62r (b539 : Nat) (L : List Ob) (r : (Option (T_Unit × T_reader))) : Bool → V → Heap → Prop := fun p v h => match r,p with
  | some r,false => ∃ (o0_1 : Option (Nat × Nat)),∃ (o0_4 : Option (Nat × Nat)),v = .ag [ES.e r.1.fName,slv (EI .u8).z (EI .u8).ag (List.length r.1.fParams) o0_1,(EI .u8).e r.1.fResult,(EI .i64).e r.1.fFrame,slv E_Code.z E_Code.ag (List.length r.1.fCode) o0_4] ∧ HP h ((o0_1,List.flatMap (EI .u8).c r.1.fParams ++ []) :: (o0_4,List.flatMap E_Code.c r.1.fCode ++ []) :: (some (b539,0),[(Zl (EI .u8) r.2.fb)]) :: L)
  | none,true => V.isI v = true ∧ ∃ c0 : List V,c0.all (V.free deepN) = true ∧ HP h ((some (b539,0),c0) :: L)
  | _,_ => False
abbrev RR62r (b539 : Nat) (L : List Ob) (r : (Option (T_Unit × T_reader))) : X → List V → Heap → Prop := retP (some [some (some 5)]) [2] (Q62r b539 L r)
abbrev I62_1 (y638 : (List UInt8)) (y646 : ((List Int) × T_reader)) (b539 : Nat) (b627 : Nat) (b640 : Nat) (L : List Ob) : ((List Int) × Int) → List V → Heap → Prop := fun s e h => ∃ o659 : Option (Nat × Nat),e = (mkE [(0,(V.ptr b539 0 0)),(1,(V.ptr b627 0 0)),(0,(V.ptr b640 0 0)),(11,(Zl (EI .u8) y646.1)),(0,(vI (ln y646.1))),(0,(vI s.2))] 31) ∧ HP h ((some (b539,0),[(Zl (EI .u8) y646.2.fb)]) :: (some (b627,0),[(ES.e ([] : List UInt8)),V.nils,(V.int .u8 (0 : Int)),(vI (0 : Int)),V.nils]) :: (some (b640,0),[(ES.e y638),(slv (EI .u8).z (EI .u8).ag (List.length s.1) o659),(V.int .u8 (0 : Int)),(vI (0 : Int)),V.nils]) :: (o659,List.flatMap (EI .u8).c s.1 ++ []) :: L)
abbrev J62_1 (y638 : (List UInt8)) (y646 : ((List Int) × T_reader)) (b539 : Nat) (b627 : Nat) (b640 : Nat) (L : List Ob) : ((List Int)) → Nat → List V → Heap → Prop := fun a i e h => i = 0 ∧ ∃ o669 : Option (Nat × Nat),clrEnv [5,12,13,14,15,16,17,18,19,20,21,22,23,24,25,26,27] e = (mkE [(0,(V.ptr b539 0 0)),(1,(V.ptr b627 0 0)),(0,(V.ptr b640 0 0))] 45) ∧ HP h ((some (b539,0),[(Zl (EI .u8) y646.2.fb)]) :: (some (b627,0),[(ES.e ([] : List UInt8)),V.nils,(V.int .u8 (0 : Int)),(vI (0 : Int)),V.nils]) :: (some (b640,0),[(ES.e y638),(slv (EI .u8).z (EI .u8).ag (List.length a) o669),(V.int .u8 (0 : Int)),(vI (0 : Int)),V.nils]) :: (o669,List.flatMap (EI .u8).c a ++ []) :: L)
def F62_1_b (y638 : (List UInt8)) (y646 : ((List Int) × T_reader)) (l658 : (List Int)) (y660 : Int) : Option (Stp ((List Int) × Int) (Option (T_Unit × T_reader)) ((List Int))) :=
  if (decide (y660 < ((List.length y646.1 : Nat) : Int))) then
    (idx y646.1 y660).bind fun y672 =>
    (more 1 l658 ([y672] : List Int)).bind fun y674 =>
    some (.next (y674,(IntKind.i64.wrap (y660 + (1 : Int)))))
  else
    some (.go (l658))
theorem w62_1_b {y638 : (List UInt8)} {y646 : ((List Int) × T_reader)} {l658 : (List Int)} {y660 : Int} {t : (Stp ((List Int) × Int) (Option (T_Unit × T_reader)) ((List Int)))} (h : F62_1_b y638 y646 l658 y660 = some t) {b539 : Nat} {b627 : Nat} {b640 : Nat} {o659 : Option (Nat × Nat)} {H : Heap} {L : List Ob} (hp : HP H ((some (b539,0),[(Zl (EI .u8) y646.2.fb)]) :: (some (b627,0),[(ES.e ([] : List UInt8)),V.nils,(V.int .u8 (0 : Int)),(vI (0 : Int)),V.nils]) :: (some (b640,0),[(ES.e y638),(slv (EI .u8).z (EI .u8).ag (List.length l658) o659),(V.int .u8 (0 : Int)),(vI (0 : Int)),V.nils]) :: (o659,List.flatMap (EI .u8).c l658 ++ []) :: L)) :
    Run T i62n12 (mkE [(0,(V.ptr b539 0 0)),(1,(V.ptr b627 0 0)),(0,(V.ptr b640 0 0)),(11,(Zl (EI .u8) y646.1)),(0,(vI (ln y646.1))),(0,(vI y660))] 31) H (stpP [5,18,19,20,21,22,23,24,25,26,27] (I62_1 y638 y646 b539 b627 b640 L) (RR62r b539 L) (J62_1 y638 y646 b539 b627 b640 L) t) := by
  unfold F62_1_b at h;refine Rn.g ?_;refine Ro.t 1 ?_;refine Ro.d (mkE [(0,(V.ptr b539 0 0)),(1,(V.ptr b627 0 0)),(0,(V.ptr b640 0 0)),(11,(Zl (EI .u8) y646.1)),(0,(vI (ln y646.1))),(0,(vI y660)),(0,(V.bool (decide (y660 < (ln y646.1)))))] 30) ?_;refine Run.seq ?_;rcases tf (decide (y660 < (ln y646.1))) with h671 | h671
  · rw [ite_t h671] at h; refine Rn.t h671 ?_;refine Run.skip ?_;refine Rn.c (mkE [(0,(V.ptr b539 0 0)),(1,(V.ptr b627 0 0)),(0,(V.ptr b640 0 0)),(11,(Zl (EI .u8) y646.1)),(0,(vI (ln y646.1))),(0,(vI y660))] 31) ?_;refine Run.seq ?_;refine Run.block ?_;refine Rn.g ?_;obtain ⟨y672,h673,h⟩ := bind_some h;refine Ro.p (idx_fz (EI .u8) .i64 h673) ?_;refine Ro.t 2 ?_;refine Ro.d (mkE [(0,(V.ptr b539 0 0)),(1,(V.ptr b627 0 0)),(0,(V.ptr b640 0 0)),(1,(V.int .u8 y672)),(9,(Zl (EI .u8) y646.1)),(0,(vI (ln y646.1))),(0,(vI y660))] 31) ?_;refine Run.rgn ?_;refine Ro.t 1 ?_;refine Ro.p (hp.ld 2 (off := 1) (n := none) (v := (slv (EI .u8).z (EI .u8).ag (List.length l658) o659)) rfl (by kernel_rfl)) ?_;refine Ro.t 2 ?_;obtain ⟨y674,h675,h⟩ := bind_some h;refine RunO.app1 (EI .u8) hp (by kernel_rfl) 3 (o := o659) (l := l658) (rest := []) (m := ([y672] : List Int)) rfl (by kernel_rfl) (by kernel_rfl) ((EI .u8).new_fz _ ([y672] : List Int)) (by kernel_rfl) (by kernel_rfl) h675 ?_;intro o676 H hp;refine Ro.t 1 ?_;refine RunO.st hp (by kernel_rfl) 2 (off := 1) (v := (slv (EI .u8).z (EI .u8).ag (List.length y674) o676)) (cs' := [(ES.e y638),(slv (EI .u8).z (EI .u8).ag (List.length y674) o676),(V.int .u8 (0 : Int)),(vI (0 : Int)),V.nils]) rfl (by kernel_rfl) (by kernel_rfl) (by cases o676 <;> rfl) ?_;intro H hp;refine RunO.nil ?_;refine Run.clrE (ts := [5,19,20,21,22,23,24,25,26]) (b := (.rgn i62r9)) (Q := (stpP [5,18,19,20,21,22,23,24,25,26,27] (I62_1 y638 y646 b539 b627 b640 L) (RR62r b539 L) (J62_1 y638 y646 b539 b627 b640 L) t)) (e' := (mkE [(0,(V.ptr b539 0 0)),(1,(V.ptr b627 0 0)),(0,(V.ptr b640 0 0)),(11,(Zl (EI .u8) y646.1)),(0,(vI (ln y646.1))),(0,(vI y660))] 31)) (by kernel_rfl) ?_;refine Run.rgn ?_;refine Ro.t 2 ?_;refine RunO.nil ?_;obtain rfl := Option.some.inj h;show I62_1 y638 y646 b539 b627 b640 L _ _ _;exact ⟨o676,(by kernel_rfl),hp⟩
  · rw [ite_f h671] at h; refine Rn.f h671 ?_;refine Run.exit ?_;obtain rfl := Option.some.inj h;show J62_1 y638 y646 b539 b627 b640 L _ _ _ _;exact ⟨rfl,o659,(by kernel_rfl),hp⟩
abbrev I62_2 (y638 : (List UInt8)) (l668 : (List Int)) (y683 : Int) (y685 : (Int × T_reader)) (y690 : (Int × T_reader)) (b539 : Nat) (b627 : Nat) (b640 : Nat) (o669 : Option (Nat × Nat)) (L : List Ob) : ((List Int) × (List T_Code) × Int) → List V → Heap → Prop := fun s e h => ∃ o707 : Option (Nat × Nat),e = (mkE [(0,(V.ptr b539 0 0)),(1,(V.ptr b627 0 0)),(0,(V.ptr b640 0 0)),(33,(vI y690.1)),(0,(vI s.2.2))] 10) ∧ HP h ((some (b539,0),[(Zl (EI .u8) s.1)]) :: (some (b627,0),[(ES.e ([] : List UInt8)),V.nils,(V.int .u8 (0 : Int)),(vI (0 : Int)),V.nils]) :: (some (b640,0),[(ES.e y638),(slv (EI .u8).z (EI .u8).ag (List.length l668) o669),(V.int .u8 y683),(vI y685.1),(slv E_Code.z E_Code.ag (List.length s.2.1) o707)]) :: (o669,List.flatMap (EI .u8).c l668 ++ []) :: (o707,List.flatMap E_Code.c s.2.1 ++ []) :: L)
abbrev J62_2 (y638 : (List UInt8)) (l668 : (List Int)) (y683 : Int) (y685 : (Int × T_reader)) (y690 : (Int × T_reader)) (b539 : Nat) (b627 : Nat) (b640 : Nat) (o669 : Option (Nat × Nat)) (L : List Ob) : ((List Int) × (List T_Code)) → Nat → List V → Heap → Prop := fun a i e h => i = 2 ∧ ∃ o721 : Option (Nat × Nat),clrEnv [0,36,37,38,39,40,41,42,43,44,45,46,47] e = (mkE [(2,(V.ptr b627 0 0)),(0,(V.ptr b640 0 0))] 45) ∧ HP h ((some (b539,0),[(Zl (EI .u8) a.1)]) :: (some (b627,0),[(ES.e ([] : List UInt8)),V.nils,(V.int .u8 (0 : Int)),(vI (0 : Int)),V.nils]) :: (some (b640,0),[(ES.e y638),(slv (EI .u8).z (EI .u8).ag (List.length l668) o669),(V.int .u8 y683),(vI y685.1),(slv E_Code.z E_Code.ag (List.length a.2) o721)]) :: (o669,List.flatMap (EI .u8).c l668 ++ []) :: (o721,List.flatMap E_Code.c a.2 ++ []) :: L)
def F62_2_b (y638 : (List UInt8)) (l668 : (List Int)) (y683 : Int) (y685 : (Int × T_reader)) (y690 : (Int × T_reader)) (y705 : (List Int)) (l706 : (List T_Code)) (y708 : Int) : Option (Stp ((List Int) × (List T_Code) × Int) (Option (T_Unit × T_reader)) ((List Int) × (List T_Code))) :=
  if (decide (y708 < y690.1)) then
    pndL (F81 (⟨y705⟩ : T_reader)) fun y724 =>
    (more 40 l706 ([y724.1] : List T_Code)).bind fun y729 =>
    some (.next (y724.2.fb,y729,(IntKind.i64.wrap (y708 + (1 : Int)))))
  else
    some (.go (y705,l706))
theorem w62_2_b {y638 : (List UInt8)} {l668 : (List Int)} {y683 : Int} {y685 : (Int × T_reader)} {y690 : (Int × T_reader)} {y705 : (List Int)} {l706 : (List T_Code)} {y708 : Int} {t : (Stp ((List Int) × (List T_Code) × Int) (Option (T_Unit × T_reader)) ((List Int) × (List T_Code)))} (h : F62_2_b y638 l668 y683 y685 y690 y705 l706 y708 = some t) {b539 : Nat} {b627 : Nat} {b640 : Nat} {o669 : Option (Nat × Nat)} {o707 : Option (Nat × Nat)} {H : Heap} {L : List Ob} (hp : HP H ((some (b539,0),[(Zl (EI .u8) y705)]) :: (some (b627,0),[(ES.e ([] : List UInt8)),V.nils,(V.int .u8 (0 : Int)),(vI (0 : Int)),V.nils]) :: (some (b640,0),[(ES.e y638),(slv (EI .u8).z (EI .u8).ag (List.length l668) o669),(V.int .u8 y683),(vI y685.1),(slv E_Code.z E_Code.ag (List.length l706) o707)]) :: (o669,List.flatMap (EI .u8).c l668 ++ []) :: (o707,List.flatMap E_Code.c l706 ++ []) :: L)) :
    Run T i62n26 (mkE [(0,(V.ptr b539 0 0)),(1,(V.ptr b627 0 0)),(0,(V.ptr b640 0 0)),(33,(vI y690.1)),(0,(vI y708))] 10) H (stpP [39,40,41,42,43,44,45,46,47] (I62_2 y638 l668 y683 y685 y690 b539 b627 b640 o669 L) (RR62r b539 L) (J62_2 y638 l668 y683 y685 y690 b539 b627 b640 o669 L) t) := by
  unfold F62_2_b at h;refine Rn.g ?_;refine Ro.t 1 ?_;refine Ro.d (mkE [(0,(V.ptr b539 0 0)),(1,(V.ptr b627 0 0)),(0,(V.ptr b640 0 0)),(33,(vI y690.1)),(0,(vI y708)),(0,(V.bool (decide (y708 < y690.1))))] 9) ?_;refine Run.seq ?_;rcases tf (decide (y708 < y690.1)) with h723 | h723
  · rw [ite_t h723] at h; refine Rn.t h723 ?_;refine Run.skip ?_;refine Rn.c (mkE [(0,(V.ptr b539 0 0)),(1,(V.ptr b627 0 0)),(0,(V.ptr b640 0 0)),(33,(vI y690.1)),(0,(vI y708))] 10) ?_;refine Run.seq ?_;refine Run.block ?_;refine Run.rdp1 (by kernel_rfl) ?_;refine Ro.t 1 ?_;refine Ro.p (hp.ld 2 (off := 4) (n := none) (v := (slv E_Code.z E_Code.ag (List.length l706) o707)) rfl (by kernel_rfl)) ?_;refine Ro.t 1 ?_;rcases pndL_some h with ⟨h725,rfl⟩ | ⟨y724,h725,h⟩
    · have hp := hp;refine RunO.nil ?_;refine ⟨los1 (k := .ld (.t 40) none) (by kernel_rfl) (stay_ldK (x := (.t 40)) (p := (V.ptr b640 0 4)) (v := (slv E_Code.z E_Code.ag (List.length l706) o707)) (by kernel_rfl) (hp.ld 2 (off := 4) (n := none) (v := (slv E_Code.z E_Code.ag (List.length l706) o707)) rfl (by kernel_rfl)) (hp.ld 2 (off := 4) (n := none) (v := (slv E_Code.z E_Code.ag (List.length l706) o707)) rfl (by kernel_rfl)) (eqb_slv _ _ _ _)),some 43,(.c (.fn 81 [])),[(.t 42)],81,_,[],[(V.ptr b539 0 0)],by kernel_rfl,t81,by kernel_rfl,by kernel_rfl,(w81 h725 hp).mono ?_⟩;rintro p v H hz;cases p with
      | false => exact hz.elim
      | true => ?_
      obtain ⟨h728,q726,h727,hp⟩ := hz;have hp := hp.del 4;have hp := hp.del 3;have hp := hp.del 2;have hp := hp.del 1;exact ⟨h728,_,h727,hp⟩
    have hp0 := hp;refine RunO.nil ?_;refine ⟨los1 (k := .ld (.t 40) none) (by kernel_rfl) (stay_ldK (x := (.t 40)) (p := (V.ptr b640 0 4)) (v := (slv E_Code.z E_Code.ag (List.length l706) o707)) (by kernel_rfl) (hp.ld 2 (off := 4) (n := none) (v := (slv E_Code.z E_Code.ag (List.length l706) o707)) rfl (by kernel_rfl)) (hp.ld 2 (off := 4) (n := none) (v := (slv E_Code.z E_Code.ag (List.length l706) o707)) rfl (by kernel_rfl)) (eqb_slv _ _ _ _)),some 43,(.c (.fn 81 [])),[(.t 42)],81,_,[],[(V.ptr b539 0 0)],by kernel_rfl,t81,by kernel_rfl,by kernel_rfl,(w81 h725 hp).mono ?_⟩;rintro p _ H hz;cases p with
    | true => exact hz.elim
    | false => ?_
    obtain ⟨rfl,hp⟩ := hz;rw [if_neg Bool.false_ne_true];refine ⟨los1 (k := .ld (.t 40) none) (by kernel_rfl) (stay_ldK (x := (.t 40)) (p := (V.ptr b640 0 4)) (v := (slv E_Code.z E_Code.ag (List.length l706) o707)) (by kernel_rfl) (hp0.ld 2 (off := 4) (n := none) (v := (slv E_Code.z E_Code.ag (List.length l706) o707)) rfl (by kernel_rfl)) (hp.ld 2 (off := 4) (n := none) (v := (slv E_Code.z E_Code.ag (List.length l706) o707)) rfl (by kernel_rfl)) (eqb_slv _ _ _ _)),?_⟩;refine Ro.t 1 ?_;obtain ⟨y729,h730,h⟩ := bind_some h;refine RunO.app1 E_Code hp (by kernel_rfl) 4 (o := o707) (l := l706) (rest := []) (m := ([y724.1] : List T_Code)) rfl (by kernel_rfl) (by kernel_rfl) (E_Code.new_fz _ ([y724.1] : List T_Code)) (by kernel_rfl) (by kernel_rfl) h730 ?_;intro o731 H hp;refine Ro.t 1 ?_;refine RunO.st hp (by kernel_rfl) 2 (off := 4) (v := (slv E_Code.z E_Code.ag (List.length y729) o731)) (cs' := [(ES.e y638),(slv (EI .u8).z (EI .u8).ag (List.length l668) o669),(V.int .u8 y683),(vI y685.1),(slv E_Code.z E_Code.ag (List.length y729) o731)]) rfl (by kernel_rfl) (by kernel_rfl) (by cases o731 <;> rfl) ?_;intro H hp;refine RunO.nil ?_;refine Run.clrE (ts := [40,41,42,43,44,45,46]) (b := (.rgn i62r23)) (Q := (stpP [39,40,41,42,43,44,45,46,47] (I62_2 y638 l668 y683 y685 y690 b539 b627 b640 o669 L) (RR62r b539 L) (J62_2 y638 l668 y683 y685 y690 b539 b627 b640 o669 L) t)) (e' := (mkE [(0,(V.ptr b539 0 0)),(1,(V.ptr b627 0 0)),(0,(V.ptr b640 0 0)),(33,(vI y690.1)),(0,(vI y708))] 10)) (by kernel_rfl) ?_;refine Run.rgn ?_;refine Ro.t 2 ?_;refine RunO.nil ?_;obtain rfl := Option.some.inj h;show I62_2 y638 l668 y683 y685 y690 b539 b627 b640 o669 L _ _ _;exact ⟨o731,(by kernel_rfl),hp⟩
  · rw [ite_f h723] at h; refine Rn.f h723 ?_;refine Run.exit ?_;obtain rfl := Option.some.inj h;show J62_2 y638 l668 y683 y685 y690 b539 b627 b640 o669 L _ _ _ _;exact ⟨rfl,o707,(by kernel_rfl),hp⟩
def F62 (x0 : T_reader) : Option (Option (T_Unit × T_reader)) :=
  pnd (F61 x0) fun y628 =>
  pnd (F80 y628.2 y628.1) fun y633 =>
  (bstr y633.1).bind fun y638 =>
  pnd (F61 y633.2) fun y641 =>
  pnd (F80 y641.2 y641.1) fun y646 =>
  (iter (fun s : ((List Int) × Int) => F62_1_b y638 y646 s.1 s.2) FUEL ([],(0 : Int))).bind fun o => match o with
  | .ret r => some r
  | .go (l668) =>
    pnd (F80 y646.2 (1 : Int)) fun y678 =>
    (idx y678.1 (0 : Int)).bind fun y683 =>
    pnd (F61 y678.2) fun y685 =>
    pnd (F61 y685.2) fun y690 =>
    (iter (fun s : ((List Int) × (List T_Code) × Int) => F62_2_b y638 l668 y683 y685 y690 s.1 s.2.1 s.2.2) FUEL (y690.2.fb,[],(0 : Int))).bind fun o => match o with
    | .ret r => some r
    | .go (y719,l720) =>
      some (some ((⟨y638,l668,y683,y685.1,l720⟩ : T_Unit),(⟨y719⟩ : T_reader)))
theorem wr62 {x0 : T_reader} {r : (Option (T_Unit × T_reader))} (h : F62 x0 = some r) {b539 : Nat} {H : Heap} {L : List Ob} (hp : HP H ((some (b539,0),[(Zl (EI .u8) x0.fb)]) :: L)) : Run T (.fin [some (some 5)] (.clr [] i62n37)) (mkE [(0,(V.ptr b539 0 0))] 48) H (finP (some [some (some 5)]) [2] (Q62r b539 L r)) := by
  refine Run.finb ?_;refine Rn.k (mkE [(0,(V.ptr b539 0 0))] 48) ?_;unfold F62 at h;refine Rn.g ?_;refine RunO.alloc hp (by kernel_rfl) ?_;intro b627 H hp;refine Ro.d (mkE [(0,(V.ptr b539 0 0)),(1,(V.ptr b627 0 0))] 46) ?_;refine Run.seq ?_;refine Run.rgp ?_;refine RunX.tk 2 (by kernel_rfl) ?_;rcases pnd_some h with ⟨h629,rfl⟩ | ⟨y628,h629,h⟩
  · have hp := hp;have hp := hp.pick 0 rfl;have hp := hp.pick 1 rfl;refine RunX.h1 (n := 61) (caps := []) (us := [(V.ptr b539 0 0)]) (by kernel_rfl) (by kernel_rfl) (by kernel_rfl) ((w61 h629 hp).mono ?_);rintro p v H hz;cases p with
    | false => exact hz.elim
    | true => ?_
    obtain ⟨h632,q630,h631,hp⟩ := hz;have hp := hp.del 1;exact ⟨h632,_,h631,hp⟩
  have hp := hp.pick 0 rfl;have hp := hp.pick 1 rfl;refine RunX.h1 (n := 61) (caps := []) (us := [(V.ptr b539 0 0)]) (by kernel_rfl) (by kernel_rfl) (by kernel_rfl) ((w61 h629 hp).mono ?_);rintro p _ H hz;cases p with
  | true => exact hz.elim
  | false => ?_
  obtain ⟨rfl,hp⟩ := hz;show RunX T _ _ _ _;rcases pnd_some h with ⟨h634,rfl⟩ | ⟨y633,h634,h⟩
  · have hp := hp;refine RunX.h1 (n := 80) (caps := []) (us := [(V.ptr b539 0 0),(vI y628.1)]) (by kernel_rfl) (by kernel_rfl) (by kernel_rfl) ((w80 h634 hp).mono ?_);rintro p v H hz;cases p with
    | false => exact hz.elim
    | true => ?_
    obtain ⟨h637,q635,h636,hp⟩ := hz;have hp := hp.del 1;exact ⟨h637,_,h636,hp⟩
  refine RunX.h1 (n := 80) (caps := []) (us := [(V.ptr b539 0 0),(vI y628.1)]) (by kernel_rfl) (by kernel_rfl) (by kernel_rfl) ((w80 h634 hp).mono ?_);rintro p _ H hz;cases p with
  | true => exact hz.elim
  | false => ?_
  obtain ⟨rfl,hp⟩ := hz;show RunX T _ _ _ _;obtain ⟨y638,h639,h⟩ := bind_some h;refine RunX.p1 (by kernel_rfl) rfl (by kernel_rfl) (b2s_fz (H := H) h639) ?_;refine RunX.tk 1 (by kernel_rfl) ?_;refine RunX.alloc hp (by kernel_rfl) ?_;intro b640 H hp;refine RunX.st hp (by kernel_rfl) 0 (off := 0) (v := (V.ag [(ES.e y638),V.nils,(V.int .u8 (0 : Int)),(vI (0 : Int)),V.nils])) (cs' := [(ES.e y638),V.nils,(V.int .u8 (0 : Int)),(vI (0 : Int)),V.nils]) rfl (by kernel_rfl) (by kernel_rfl) (by kernel_rfl) ?_;intro H hp;refine RunX.done (e' := (mkE [(0,(V.ptr b539 0 0)),(1,(V.ptr b627 0 0)),(0,(V.ptr b640 0 0))] 45)) (by kernel_rfl) ?_;refine Run.seq ?_;refine Run.seq ?_;refine Run.rgp ?_;refine RunX.tk 2 (by kernel_rfl) ?_;rcases pnd_some h with ⟨h642,rfl⟩ | ⟨y641,h642,h⟩
  · have hp := hp;have hp := hp.pick 2 rfl;have hp := hp.pick 1 rfl;have hp := hp.pick 2 rfl;refine RunX.h1 (n := 61) (caps := []) (us := [(V.ptr b539 0 0)]) (by kernel_rfl) (by kernel_rfl) (by kernel_rfl) ((w61 h642 hp).mono ?_);rintro p v H hz;cases p with
    | false => exact hz.elim
    | true => ?_
    obtain ⟨h645,q643,h644,hp⟩ := hz;have hp := hp.del 2;have hp := hp.del 1;exact ⟨h645,_,h644,hp⟩
  have hp := hp.pick 2 rfl;have hp := hp.pick 1 rfl;have hp := hp.pick 2 rfl;refine RunX.h1 (n := 61) (caps := []) (us := [(V.ptr b539 0 0)]) (by kernel_rfl) (by kernel_rfl) (by kernel_rfl) ((w61 h642 hp).mono ?_);rintro p _ H hz;cases p with
  | true => exact hz.elim
  | false => ?_
  obtain ⟨rfl,hp⟩ := hz;show RunX T _ _ _ _;rcases pnd_some h with ⟨h647,rfl⟩ | ⟨y646,h647,h⟩
  · have hp := hp;refine RunX.h1 (n := 80) (caps := []) (us := [(V.ptr b539 0 0),(vI y641.1)]) (by kernel_rfl) (by kernel_rfl) (by kernel_rfl) ((w80 h647 hp).mono ?_);rintro p v H hz;cases p with
    | false => exact hz.elim
    | true => ?_
    obtain ⟨h650,q648,h649,hp⟩ := hz;have hp := hp.del 2;have hp := hp.del 1;exact ⟨h650,_,h649,hp⟩
  refine RunX.h1 (n := 80) (caps := []) (us := [(V.ptr b539 0 0),(vI y641.1)]) (by kernel_rfl) (by kernel_rfl) (by kernel_rfl) ((w80 h647 hp).mono ?_);rintro p _ H hz;cases p with
  | true => exact hz.elim
  | false => ?_
  obtain ⟨rfl,hp⟩ := hz;show RunX T _ _ _ _;refine RunX.p1 (by kernel_rfl) rfl (by kernel_rfl) (len_fz (EI .u8) y646.1) ?_;refine RunX.tk 1 (by kernel_rfl) ?_;refine RunX.done (e' := (mkE [(0,(V.ptr b539 0 0)),(1,(V.ptr b627 0 0)),(0,(V.ptr b640 0 0)),(11,(Zl (EI .u8) y646.1)),(0,(vI (ln y646.1))),(0,(vI (0 : Int)))] 31)) (by kernel_rfl) ?_;refine Run.block ?_;obtain ⟨o,h677,h⟩ := bind_some h;have hp := hp.non;have hp := hp.pick 0 rfl;have hp := hp.pick 2 rfl;have hp := hp.pick 3 rfl;have hp := hp.pick 3 rfl;refine (Run.iterP (I := I62_1 y638 y646 b539 b627 b640 L) (RR := RR62r b539 L) (J := J62_1 y638 y646 b539 b627 b640 L) (fun _ _ _ h => h) (fun s e h' t hI hf => ?_) FUEL h677 (by exact ⟨none,(by kernel_rfl),hp⟩)).mono ?_
  · obtain ⟨_,rfl,hp⟩ := hI; exact w62_1_b hf hp
  · rintro X e' H hq;cases o with
    | ret r => cases X <;> first | exact hq.elim | (cases h; exact hq)
    | go l668 =>
      cases X with | nrm => exact hq.elim | ret => exact hq.elim | pan v => exact hq.elim | ext i => ?_;obtain ⟨rfl,o669,he,hp⟩ := hq
      dsimp only at h
      refine Run.clrE (ts := [5,12,13,14,15,16,17,18,19,20,21,22,23,24,25,26,27]) (b := i62n34) (Q := (finP (some [some (some 5)]) [2] (Q62r b539 L r))) he ?_;refine Run.seq ?_;refine Run.rgp ?_;refine RunX.tk 1 (by kernel_rfl) ?_;rcases pnd_some h with ⟨h679,rfl⟩ | ⟨y678,h679,h⟩
      · have hp := hp;refine RunX.h1 (n := 80) (caps := []) (us := [(V.ptr b539 0 0),(vI (1 : Int))]) (by kernel_rfl) (by kernel_rfl) (by kernel_rfl) ((w80 h679 hp).mono ?_);rintro p v H hz;cases p with
        | false => exact hz.elim
        | true => ?_
        obtain ⟨h682,q680,h681,hp⟩ := hz;have hp := hp.del 3;have hp := hp.del 2;have hp := hp.del 1;exact ⟨h682,_,h681,hp⟩
      refine RunX.h1 (n := 80) (caps := []) (us := [(V.ptr b539 0 0),(vI (1 : Int))]) (by kernel_rfl) (by kernel_rfl) (by kernel_rfl) ((w80 h679 hp).mono ?_);rintro p _ H hz;cases p with
      | true => exact hz.elim
      | false => ?_
      obtain ⟨rfl,hp⟩ := hz;show RunX T _ _ _ _;obtain ⟨y683,h684,h⟩ := bind_some h;refine RunX.p1 (by kernel_rfl) rfl (by kernel_rfl) (idx_fz (EI .u8) .i64 h684) ?_;refine RunX.tk 2 (by kernel_rfl) ?_;refine RunX.st hp (by kernel_rfl) 2 (off := 2) (v := (V.int .u8 y683)) (cs' := [(ES.e y638),(slv (EI .u8).z (EI .u8).ag (List.length l668) o669),(V.int .u8 y683),(vI (0 : Int)),V.nils]) rfl (by kernel_rfl) (by kernel_rfl) (by kernel_rfl) ?_;intro H hp;refine RunX.done (e' := (mkE [(0,(V.ptr b539 0 0)),(1,(V.ptr b627 0 0)),(0,(V.ptr b640 0 0))] 45)) (by kernel_rfl) ?_;refine Run.seq ?_;refine Run.rgp ?_;refine RunX.tk 1 (by kernel_rfl) ?_;rcases pnd_some h with ⟨h686,rfl⟩ | ⟨y685,h686,h⟩
      · have hp := hp;refine RunX.h1 (n := 61) (caps := []) (us := [(V.ptr b539 0 0)]) (by kernel_rfl) (by kernel_rfl) (by kernel_rfl) ((w61 h686 hp).mono ?_);rintro p v H hz;cases p with
        | false => exact hz.elim
        | true => ?_
        obtain ⟨h689,q687,h688,hp⟩ := hz;have hp := hp.del 3;have hp := hp.del 2;have hp := hp.del 1;exact ⟨h689,_,h688,hp⟩
      refine RunX.h1 (n := 61) (caps := []) (us := [(V.ptr b539 0 0)]) (by kernel_rfl) (by kernel_rfl) (by kernel_rfl) ((w61 h686 hp).mono ?_);rintro p _ H hz;cases p with
      | true => exact hz.elim
      | false => ?_
      obtain ⟨rfl,hp⟩ := hz;show RunX T _ _ _ _;refine RunX.tk 1 (by kernel_rfl) ?_;refine RunX.st hp (by kernel_rfl) 2 (off := 3) (v := (vI y685.1)) (cs' := [(ES.e y638),(slv (EI .u8).z (EI .u8).ag (List.length l668) o669),(V.int .u8 y683),(vI y685.1),V.nils]) rfl (by kernel_rfl) (by kernel_rfl) (by kernel_rfl) ?_;intro H hp;refine RunX.done (e' := (mkE [(0,(V.ptr b539 0 0)),(1,(V.ptr b627 0 0)),(0,(V.ptr b640 0 0))] 45)) (by kernel_rfl) ?_;refine Run.seq ?_;refine Run.seq ?_;refine Run.rgp ?_;refine RunX.tk 1 (by kernel_rfl) ?_;rcases pnd_some h with ⟨h691,rfl⟩ | ⟨y690,h691,h⟩
      · have hp := hp;refine RunX.h1 (n := 61) (caps := []) (us := [(V.ptr b539 0 0)]) (by kernel_rfl) (by kernel_rfl) (by kernel_rfl) ((w61 h691 hp).mono ?_);rintro p v H hz;cases p with
        | false => exact hz.elim
        | true => ?_
        obtain ⟨h694,q692,h693,hp⟩ := hz;have hp := hp.del 3;have hp := hp.del 2;have hp := hp.del 1;exact ⟨h694,_,h693,hp⟩
      refine RunX.h1 (n := 61) (caps := []) (us := [(V.ptr b539 0 0)]) (by kernel_rfl) (by kernel_rfl) (by kernel_rfl) ((w61 h691 hp).mono ?_);rintro p _ H hz;cases p with
      | true => exact hz.elim
      | false => ?_
      obtain ⟨rfl,hp⟩ := hz;show RunX T _ _ _ _;refine RunX.tk 1 (by kernel_rfl) ?_;refine RunX.done (e' := (mkE [(0,(V.ptr b539 0 0)),(1,(V.ptr b627 0 0)),(0,(V.ptr b640 0 0)),(33,(vI y690.1)),(0,(vI (0 : Int)))] 10)) (by kernel_rfl) ?_;refine Run.block ?_;obtain ⟨o,h732,h⟩ := bind_some h;have hp := hp.non;have hp := hp.pick 0 rfl;have hp := hp.pick 4 rfl;have hp := hp.pick 4 rfl;have hp := hp.pick 4 rfl;have hp := hp.pick 4 rfl;refine (Run.iterP (I := I62_2 y638 l668 y683 y685 y690 b539 b627 b640 o669 L) (RR := RR62r b539 L) (J := J62_2 y638 l668 y683 y685 y690 b539 b627 b640 o669 L) (fun _ _ _ h => h) (fun s e h' t hI hf => ?_) FUEL h732 (by exact ⟨none,(by kernel_rfl),hp⟩)).mono ?_
      · obtain ⟨_,rfl,hp⟩ := hI; exact w62_2_b hf hp
      · rintro X e' H hq;cases o with
        | ret r => cases X <;> first | exact hq.elim | (cases h; exact hq)
        | go a =>
          cases X with | nrm => exact hq.elim | ret => exact hq.elim | pan v => exact hq.elim | ext i => ?_;obtain ⟨y719,l720⟩ := a;obtain ⟨rfl,o721,he,hp⟩ := hq
          dsimp only at h
          refine Run.clrE (ts := [0,36,37,38,39,40,41,42,43,44,45,46,47]) (b := i62n31) (Q := (finP (some [some (some 5)]) [2] (Q62r b539 L r))) he ?_;refine Rn.g ?_;refine Ro.p (hp.ld 2 (off := 0) (n := (some 5)) (v := (V.ag [(ES.e y638),(slv (EI .u8).z (EI .u8).ag (List.length l668) o669),(V.int .u8 y683),(vI y685.1),(slv E_Code.z E_Code.ag (List.length l720) o721)])) rfl (by kernel_rfl)) ?_;refine RunO.st hp (by kernel_rfl) 1 (off := 0) (v := (V.ag [(ES.e y638),(slv (EI .u8).z (EI .u8).ag (List.length l668) o669),(V.int .u8 y683),(vI y685.1),(slv E_Code.z E_Code.ag (List.length l720) o721)])) (cs' := [(ES.e y638),(slv (EI .u8).z (EI .u8).ag (List.length l668) o669),(V.int .u8 y683),(vI y685.1),(slv E_Code.z E_Code.ag (List.length l720) o721)]) rfl (by kernel_rfl) (by kernel_rfl) (by cases o669 <;> cases o721 <;> rfl) ?_;intro H hp;refine Ro.d (mkE [(2,(V.ptr b627 0 0))] 46) ?_;refine Run.ret ?_;obtain rfl := Option.some.inj h;show endR _ _ (Q62r b539 L _ false) _ _;have hw := resW_cells (env := (mkE [(2,(V.ptr b627 0 0))] 46)) (H := H) (ds := [some (some 5)]) (res := [2]) (vs := [(V.ag [(ES.e y638),(slv (EI .u8).z (EI .u8).ag (List.length l668) o669),(V.int .u8 y683),(vI y685.1),(slv E_Code.z E_Code.ag (List.length l720) o721)])]) (omapc (Eq.trans (b := ldV _ (V.ptr b627 0 0) (some 5)) (by kernel_rfl) (hp.ld 1 rfl (by kernel_rfl))) omapn);have hp := hp.pick 0 rfl;have hp := hp.pick 4 rfl;have hp := hp.pick 4 rfl;have hp := hp.del 4;have hp := hp.del 3;exact ⟨(V.ag [(ES.e y638),(slv (EI .u8).z (EI .u8).ag (List.length l668) o669),(V.int .u8 y683),(vI y685.1),(slv E_Code.z E_Code.ag (List.length l720) o721)]),(hw),_,_,(by kernel_rfl),hp⟩
abbrev Q62 (b539 : Nat) (L : List Ob) (r : (Option (T_Unit × T_reader))) : Bool → V → Heap → Prop := fun p v h => match r,p with
  | some r,false => v = E_Unit.e r.1 ∧ HP h ((some (b539,0),[(Zl (EI .u8) r.2.fb)]) :: L)
  | none,true => V.isI v = true ∧ ∃ c0 : List V,c0.all (V.free deepN) = true ∧ HP h ((some (b539,0),c0) :: L)
  | _,_ => False
theorem w62 {x0 : T_reader} {r : (Option (T_Unit × T_reader))} (h : F62 x0 = some r) {b539 : Nat} {H : Heap} {L : List Ob} (hp : HP H ((some (b539,0),[(Zl (EI .u8) x0.fb)]) :: L)) : FnX T 62 [(V.ptr b539 0 0)] H (Q62 b539 L r) := by
  obtain ⟨R,hpR,hcov⟩ := HP.fillA (A := [((some (b539,0),[(Zl (EI .u8) x0.fb)]))]) hp;refine FnX.enterZ t62 rfl (e0 := (mkE [(0,(V.ptr b539 0 0))] 48)) (by kernel_rfl) (wr62 h hpR) (fun v hh hq => ?_) (fun v hh hq => ?_)
  · cases r with
    | none => exact hq.elim
    | some r =>
      obtain ⟨o0_1,o0_4,rfl,hp2⟩ := hq;have hM : ∀ m ∈ [(o0_1,List.flatMap (EI .u8).c r.1.fParams ++ []),(o0_4,List.flatMap E_Code.c r.1.fCode ++ [])],m.2.all (V.free deepN) = true := (mem1 (flat_free (EI .u8) (fun a => by kernel_rfl) r.1.fParams rfl) (mem1 (flat_free E_Code (fun a => by kernel_rfl) r.1.fCode rfl) mem0));have z := frz_end (A := [((some (b539,0),[(Zl (EI .u8) x0.fb)]))]) (K := [(some (b539,0),[(Zl (EI .u8) r.2.fb)])]) (M := [(o0_1,List.flatMap (EI .u8).c r.1.fParams ++ []),(o0_4,List.flatMap E_Code.c r.1.fCode ++ [])]) (L := L ++ R) (u := E_Unit.e r.1) hpR hcov (.chg (by kernel_rfl) .nil) hp2 hM (fun n0 hpm hn => newR_ag (k := 39) (allc (by kernel_rfl) (allc (own_newR hpm hn hM 0 rfl 38) (allc (by kernel_rfl) (allc (by kernel_rfl) (allc (own_newR hpm hn hM 1 rfl 38) alln)))))) (fun Hc hc => congrArg (Option.map V.ag) (omapc (ES.hd false _ 37 _ (.inl rfl)) (omapc (own_deep (EI .u8) hc 0 rfl false (.inl rfl) 35) (omapc ((EI .u8).hd false _ 37 _ (.inl rfl)) (omapc ((EI .i64).hd false _ 37 _ (.inl rfl)) (omapc (own_deep E_Code hc 1 rfl false (.inl rfl) 35) omapn))))));exact ⟨_,z.1,rfl,z.2.leftA (K := [(some (b539,0),[(Zl (EI .u8) r.2.fb)])])⟩
  · cases r with
    | none => obtain ⟨hi,c0,f0,hq⟩ := hq; exact ⟨hi,c0,f0,HP.leftA (K := [(some (b539,0),c0)]) hq⟩
    | some r => exact hq.elim
abbrev Q35 (L : List Ob) (r : (List Int)) : V → Heap → Prop := fun v h => ∃ (o0 : Option (Nat × Nat)) (q0 : List V),v = slv (EI .u8).z (EI .u8).ag (List.length r) o0 ∧ HP h ((o0,List.flatMap (EI .u8).c r ++ q0) :: L)
abbrev RR35 (L : List Ob) (r : (List Int)) : List V → Heap → Prop := fun e h => endR none [4] (Q35 L r) e h
abbrev I35_1 (L : List Ob) : ((List Int) × Int) → List V → Heap → Prop := fun s e h => ∃ o762 : Option (Nat × Nat),∃ q763 : List V,e = (mkE [(0,(slv (EI .u8).z (EI .u8).ag (List.length s.1) o762)),(0,(vI s.2))] 18) ∧ HP h ((o762,List.flatMap (EI .u8).c s.1 ++ q763) :: L)
abbrev J35_1 (L : List Ob) : ((List Int) × Int) → Nat → List V → Heap → Prop := fun a i e h => i = 0 ∧ ∃ o771 : Option (Nat × Nat),∃ q772 : List V,clrEnv [5,6,7,8,9,10,11,12,13,14] e = (mkE [(0,(slv (EI .u8).z (EI .u8).ag (List.length a.1) o771)),(0,(vI a.2))] 18) ∧ HP h ((o771,List.flatMap (EI .u8).c a.1 ++ q772) :: L)
def F35_1_b (l761 : (List Int)) (y764 : Int) : Option (Stp ((List Int) × Int) (List Int) ((List Int) × Int)) :=
  if (decide (y764 ≥ (128 : Int))) then
    (more 1 l761 ([(IntKind.u8.wrap ((BitVec.ofInt IntKind.u8.bits (IntKind.u8.wrap y764) ||| BitVec.ofInt IntKind.u8.bits (128 : Int)).toNat : Int))] : List Int)).bind fun y776 =>
    some (.next (y776,(Int.fdiv y764 (2 ^ (min 7 IntKind.i64.bits)))))
  else
    some (.go (l761,y764))
theorem w35_1_b {l761 : (List Int)} {y764 : Int} {t : (Stp ((List Int) × Int) (List Int) ((List Int) × Int))} (h : F35_1_b l761 y764 = some t) {o762 : Option (Nat × Nat)} {q763 : List V} {H : Heap} {L : List Ob} (hp : HP H ((o762,List.flatMap (EI .u8).c l761 ++ q763) :: L)) :
    Run T i35n8 (mkE [(0,(slv (EI .u8).z (EI .u8).ag (List.length l761) o762)),(0,(vI y764))] 18) H (stp [5,6,7,8,9,10,11,12,13,14] (I35_1 L) (RR35 L) (J35_1 L) t) := by
  unfold F35_1_b at h;refine Run.seq ?_;refine Rn.g ?_;refine Ro.t 2 ?_;refine Ro.d (mkE [(0,(slv (EI .u8).z (EI .u8).ag (List.length l761) o762)),(0,(vI y764)),(4,(V.bool (decide (y764 ≥ (128 : Int)))))] 13) ?_;rcases tf (decide (y764 ≥ (128 : Int))) with h775 | h775
  · rw [ite_t h775] at h; refine Rn.t h775 ?_;refine Run.skip ?_;refine Rn.c (mkE [(0,(slv (EI .u8).z (EI .u8).ag (List.length l761) o762)),(0,(vI y764))] 18) ?_;refine Run.seq ?_;refine Run.block ?_;refine Run.rgn ?_;refine Ro.t 5 ?_;obtain ⟨y776,h777,h⟩ := bind_some h;refine RunO.app1 (EI .u8) hp (by kernel_rfl) 0 (o := o762) (l := l761) (rest := q763) (m := ([(IntKind.u8.wrap ((BitVec.ofInt IntKind.u8.bits (IntKind.u8.wrap y764) ||| BitVec.ofInt IntKind.u8.bits (128 : Int)).toNat : Int))] : List Int)) rfl (by kernel_rfl) (by kernel_rfl) ((EI .u8).new_fz _ ([(IntKind.u8.wrap ((BitVec.ofInt IntKind.u8.bits (IntKind.u8.wrap y764) ||| BitVec.ofInt IntKind.u8.bits (128 : Int)).toNat : Int))] : List Int)) (by kernel_rfl) (by kernel_rfl) h777 ?_;intro o778 H hp;refine Ro.t 1 ?_;refine RunO.nil ?_;refine Run.clrE (ts := [9,10,11,12,13,14]) (b := (.rgn i35r6)) (Q := (stp [5,6,7,8,9,10,11,12,13,14] (I35_1 L) (RR35 L) (J35_1 L) t)) (e' := (mkE [(0,(slv (EI .u8).z (EI .u8).ag (List.length y776) o778)),(0,(vI y764))] 18)) (by kernel_rfl) ?_;refine Run.rgn ?_;refine Ro.t 3 ?_;refine RunO.nil ?_;obtain rfl := Option.some.inj h;show I35_1 L _ _ _;exact ⟨o778,[],(by kernel_rfl),hp⟩
  · rw [ite_f h775] at h; refine Rn.f h775 ?_;refine Run.exit ?_;obtain rfl := Option.some.inj h;show J35_1 L _ _ _ _;exact ⟨rfl,o762,q763,(by kernel_rfl),hp⟩
def F35 (x0 : (List Int)) (x1 : Int) : Option (List Int) :=
  (iter (fun s : ((List Int) × Int) => F35_1_b s.1 s.2) FUEL (x0,x1)).bind fun o => match o with
  | .ret r => some r
  | .go (l770,y773) =>
    (more 1 l770 ([(IntKind.u8.wrap y773)] : List Int)).bind fun y780 =>
    some y780
theorem w35 {x0 : (List Int)} {x1 : Int} {r : (List Int)} (h : F35 x0 x1 = some r) {o733 : Option (Nat × Nat)} {q734 : List V} {H : Heap} {L : List Ob} (hp : HP H ((o733,List.flatMap (EI .u8).c x0 ++ q734) :: L)) : Fn T 35 [(slv (EI .u8).z (EI .u8).ag (List.length x0) o733),(vI x1)] H (Q35 L r) := by
  refine Fn.enterE t35 (e0 := (mkE [(0,(slv (EI .u8).z (EI .u8).ag (List.length x0) o733)),(0,(vI x1))] 18)) (by kernel_rfl) ?_;show Run T (.clr [] i35n14) _ _ (finE none [4] (Q35 L r));refine Rn.k (mkE [(0,(slv (EI .u8).z (EI .u8).ag (List.length x0) o733)),(0,(vI x1))] 18) ?_;unfold F35 at h;refine Rn.g ?_;refine Ro.t 1 ?_;refine Ro.d (mkE [(0,(slv (EI .u8).z (EI .u8).ag (List.length x0) o733)),(0,(vI x1))] 18) ?_;refine Run.seq ?_;refine Run.block ?_;obtain ⟨o,h779,h⟩ := bind_some h;refine (Run.iter (I := I35_1 L) (RR := RR35 L) (J := J35_1 L) (fun s e h' t hI hf => ?_) FUEL h779 (by exact ⟨o733,q734,(by kernel_rfl),hp⟩)).mono ?_
  · obtain ⟨_,_,rfl,hp⟩ := hI; exact w35_1_b hf hp
  · rintro X e' H hq;cases o with
    | ret r => cases X <;> first | exact hq.elim | (cases h; exact hq)
    | go a =>
      cases X with | nrm => exact hq.elim | ret => exact hq.elim | pan v => exact hq.elim | ext i => ?_;obtain ⟨l770,y773⟩ := a;obtain ⟨rfl,o771,q772,he,hp⟩ := hq
      dsimp only at h
      refine Run.clrE (ts := [5,6,7,8,9,10,11,12,13,14]) (b := i35n12) (Q := (finE none [4] (Q35 L r))) he ?_;refine Rn.g ?_;refine Ro.t 4 ?_;obtain ⟨y780,h781,h⟩ := bind_some h;refine RunO.app1 (EI .u8) hp (by kernel_rfl) 0 (o := o771) (l := l770) (rest := q772) (m := ([(IntKind.u8.wrap y773)] : List Int)) rfl (by kernel_rfl) (by kernel_rfl) ((EI .u8).new_fz _ ([(IntKind.u8.wrap y773)] : List Int)) (by kernel_rfl) (by kernel_rfl) h781 ?_;intro o782 H hp;refine Ro.t 1 ?_;refine Ro.d (mkE [(4,(slv (EI .u8).z (EI .u8).ag (List.length y780) o782))] 15) ?_;refine Run.ret ?_;obtain rfl := Option.some.inj h;exact ⟨(slv (EI .u8).z (EI .u8).ag (List.length y780) o782),(by kernel_rfl),_,_,(by kernel_rfl),hp⟩
abbrev Q36 (L : List Ob) (r : (List Int)) : V → Heap → Prop := fun v h => ∃ (o0 : Option (Nat × Nat)) (q0 : List V),v = slv (EI .u8).z (EI .u8).ag (List.length r) o0 ∧ HP h ((o0,List.flatMap (EI .u8).c r ++ q0) :: L)
abbrev RR36 (L : List Ob) (r : (List Int)) : List V → Heap → Prop := fun e h => endR none [4] (Q36 L r) e h
abbrev I36_1 (x1 : T_Code) (y915 : T_form) (b917 : Nat) (L : List Ob) : ((List Int) × Int) → List V → Heap → Prop := fun s e h => ∃ o988 : Option (Nat × Nat),∃ q989 : List V,e = (mkE [(0,(slv (EI .u8).z (EI .u8).ag (List.length s.1) o988)),(2,(V.fp (E_Code.e x1))),(1,(V.ptr b917 0 0)),(0,(vI s.2))] 86) ∧ HP h ((o988,List.flatMap (EI .u8).c s.1 ++ q989) :: (some (b917,0),[(V.int .u8 y915.fa),(V.int .u8 y915.fb),(V.int .u8 y915.fc),(V.bool y915.fop),(V.bool y915.ft),(V.bool y915.fto),(V.bool y915.ftrap),(V.bool y915.fbits),(V.bool y915.frow)]) :: L)
abbrev J36_1 (x1 : T_Code) (y915 : T_form) (b917 : Nat) (L : List Ob) : ((List Int)) → Nat → List V → Heap → Prop := fun a i e h => i = 0 ∧ ∃ o1002 : Option (Nat × Nat),∃ q1003 : List V,clrEnv [3,5,6,76,77,78,79,80,81,82,83,84,85,86,87,88,89,90,91] e = (mkE [(0,(slv (EI .u8).z (EI .u8).ag (List.length a) o1002))] 92) ∧ HP h ((o1002,List.flatMap (EI .u8).c a ++ q1003) :: L)
def F36_1_b (x1 : T_Code) (y915 : T_form) (l987 : (List Int)) (y990 : Int) : Option (Stp ((List Int) × Int) (List Int) ((List Int))) :=
  if (decide (y990 < (64 : Int))) then
    if y915.fbits then
      (when (decide (0 ≤ y990))).bind fun y1009 =>
      (more 1 l987 ([(IntKind.u8.wrap (Int.fdiv x1.fBits (2 ^ (min (Int.toNat y990) IntKind.u64.bits))))] : List Int)).bind fun y1011 =>
      some (.next (y1011,(IntKind.i64.wrap (y990 + (8 : Int)))))
    else
      some (.go (l987))
  else
    some (.go (l987))
theorem w36_1_b {x1 : T_Code} {y915 : T_form} {l987 : (List Int)} {y990 : Int} {t : (Stp ((List Int) × Int) (List Int) ((List Int)))} (h : F36_1_b x1 y915 l987 y990 = some t) {b917 : Nat} {o988 : Option (Nat × Nat)} {q989 : List V} {H : Heap} {L : List Ob} (hp : HP H ((o988,List.flatMap (EI .u8).c l987 ++ q989) :: (some (b917,0),[(V.int .u8 y915.fa),(V.int .u8 y915.fb),(V.int .u8 y915.fc),(V.bool y915.fop),(V.bool y915.ft),(V.bool y915.fto),(V.bool y915.ftrap),(V.bool y915.fbits),(V.bool y915.frow)]) :: L)) :
    Run T i36n43 (mkE [(0,(slv (EI .u8).z (EI .u8).ag (List.length l987) o988)),(2,(V.fp (E_Code.e x1))),(1,(V.ptr b917 0 0)),(0,(vI y990))] 86) H (stp [76,77,78,79,80,81,82,83,84,85,86,87,88,89,90,91] (I36_1 x1 y915 b917 L) (RR36 L) (J36_1 x1 y915 b917 L) t) := by
  unfold F36_1_b at h;refine Run.seq ?_;refine Rn.g ?_;refine Ro.t 1 ?_;rcases tf (decide (y990 < (64 : Int))) with h1006 | h1006
  · rw [ite_t h1006] at h; refine Ro.p (bool_of h1006) ?_;refine Ro.t 2 ?_;refine Ro.p (hp.ld 1 (off := 7) (n := none) (v := (V.bool y915.fbits)) rfl (by kernel_rfl)) ?_;refine Ro.t 1 ?_;refine Ro.d (mkE [(0,(slv (EI .u8).z (EI .u8).ag (List.length l987) o988)),(2,(V.fp (E_Code.e x1))),(1,(V.ptr b917 0 0)),(0,(vI y990)),(74,(V.bool y915.fbits))] 11) ?_;rcases tf y915.fbits with h1007 | h1007
    · rw [ite_t h1007] at h; refine Rn.t h1007 ?_;refine Run.skip ?_;refine Rn.c (mkE [(0,(slv (EI .u8).z (EI .u8).ag (List.length l987) o988)),(2,(V.fp (E_Code.e x1))),(1,(V.ptr b917 0 0)),(0,(vI y990))] 86) ?_;refine Run.seq ?_;refine Run.block ?_;refine Run.rgn ?_;refine Ro.t 4 ?_;obtain ⟨y1009,h1010,h⟩ := bind_some h;refine Ro.p (shr_of (k := .u64) (k' := .i64) (a := x1.fBits) h1010) ?_;refine Ro.t 2 ?_;obtain ⟨y1011,h1012,h⟩ := bind_some h;refine RunO.app1 (EI .u8) hp (by kernel_rfl) 0 (o := o988) (l := l987) (rest := q989) (m := ([(IntKind.u8.wrap (Int.fdiv x1.fBits (2 ^ (min (Int.toNat y990) IntKind.u64.bits))))] : List Int)) rfl (by kernel_rfl) (by kernel_rfl) ((EI .u8).new_fz _ ([(IntKind.u8.wrap (Int.fdiv x1.fBits (2 ^ (min (Int.toNat y990) IntKind.u64.bits))))] : List Int)) (by kernel_rfl) (by kernel_rfl) h1012 ?_;intro o1013 H hp;refine Ro.t 1 ?_;refine RunO.nil ?_;refine Run.clrE (ts := [84,85,86,87,88,89,90,91]) (b := (.rgn i36r41)) (Q := (stp [76,77,78,79,80,81,82,83,84,85,86,87,88,89,90,91] (I36_1 x1 y915 b917 L) (RR36 L) (J36_1 x1 y915 b917 L) t)) (e' := (mkE [(0,(slv (EI .u8).z (EI .u8).ag (List.length y1011) o1013)),(2,(V.fp (E_Code.e x1))),(1,(V.ptr b917 0 0)),(0,(vI y990))] 86)) (by kernel_rfl) ?_;refine Run.rgn ?_;refine Ro.t 3 ?_;refine RunO.nil ?_;obtain rfl := Option.some.inj h;show I36_1 x1 y915 b917 L _ _ _;exact ⟨o1013,[],(by kernel_rfl),hp⟩
    · rw [ite_f h1007] at h; refine Rn.f h1007 ?_;refine Run.exit ?_;obtain rfl := Option.some.inj h;have hp := hp.del 1;show J36_1 x1 y915 b917 L _ _ _ _;exact ⟨rfl,o988,q989,(by kernel_rfl),hp⟩
  · rw [ite_f h1006] at h; refine Ro.p (bool_of h1006) ?_;refine Ro.t 4 ?_;refine Ro.d (mkE [(0,(slv (EI .u8).z (EI .u8).ag (List.length l987) o988)),(2,(V.fp (E_Code.e x1))),(1,(V.ptr b917 0 0)),(0,(vI y990)),(74,(V.bool false))] 11) ?_;refine Run.condF (by kernel_rfl) ?_;refine Run.exit ?_;obtain rfl := Option.some.inj h;have hp := hp.del 1;show J36_1 x1 y915 b917 L _ _ _ _;exact ⟨rfl,o988,q989,(by kernel_rfl),hp⟩
def F36_j8 (x1 : T_Code) (y915 : T_form) (l979 : (List Int)) : Option (List Int) :=
  (iter (fun s : ((List Int) × Int) => F36_1_b x1 y915 s.1 s.2) FUEL (l979,(0 : Int))).bind fun o => match o with
  | .ret r => some r
  | .go (l1001) =>
    some l1001
theorem w36_j8 {x1 : T_Code} {y915 : T_form} {l979 : (List Int)} {r : (List Int)} (h : F36_j8 x1 y915 l979 = some r) {b917 : Nat} {o980 : Option (Nat × Nat)} {q981 : List V} {H : Heap} {L : List Ob} (hp : HP H ((o980,List.flatMap (EI .u8).c l979 ++ q981) :: (some (b917,0),[(V.int .u8 y915.fa),(V.int .u8 y915.fb),(V.int .u8 y915.fc),(V.bool y915.fop),(V.bool y915.ft),(V.bool y915.fto),(V.bool y915.ftrap),(V.bool y915.fbits),(V.bool y915.frow)]) :: L)) :
    Run T i36n49 (mkE [(0,(slv (EI .u8).z (EI .u8).ag (List.length l979) o980)),(2,(V.fp (E_Code.e x1))),(1,(V.ptr b917 0 0))] 87) H (finE none [4] (Q36 L r)) := by
  unfold F36_j8 at h;refine Run.seq ?_;refine Rn.g ?_;refine Ro.t 1 ?_;refine Ro.d (mkE [(0,(slv (EI .u8).z (EI .u8).ag (List.length l979) o980)),(2,(V.fp (E_Code.e x1))),(1,(V.ptr b917 0 0)),(0,(vI (0 : Int)))] 86) ?_;refine Run.block ?_;obtain ⟨o,h1014,h⟩ := bind_some h;refine (Run.iter (I := I36_1 x1 y915 b917 L) (RR := RR36 L) (J := J36_1 x1 y915 b917 L) (fun s e h' t hI hf => ?_) FUEL h1014 (by exact ⟨o980,q981,(by kernel_rfl),hp⟩)).mono ?_
  · obtain ⟨_,_,rfl,hp⟩ := hI; exact w36_1_b hf hp
  · rintro X e' H hq;cases o with
    | ret r => cases X <;> first | exact hq.elim | (cases h; exact hq)
    | go l1001 =>
      cases X with | nrm => exact hq.elim | ret => exact hq.elim | pan v => exact hq.elim | ext i => ?_;obtain ⟨rfl,o1002,q1003,he,hp⟩ := hq
      dsimp only at h
      refine Run.clrE (ts := [3,5,6,76,77,78,79,80,81,82,83,84,85,86,87,88,89,90,91]) (b := i36n48) (Q := (finE none [4] (Q36 L r))) he ?_;refine Rn.g ?_;refine Ro.t 2 ?_;refine Ro.d (mkE [(4,(slv (EI .u8).z (EI .u8).ag (List.length l1001) o1002))] 88) ?_;refine Run.ret ?_;obtain rfl := Option.some.inj h;exact ⟨(slv (EI .u8).z (EI .u8).ag (List.length l1001) o1002),(by kernel_rfl),_,_,(by kernel_rfl),hp⟩
def F36_j7 (x1 : T_Code) (y915 : T_form) (l971 : (List Int)) : Option (List Int) :=
  if y915.frow then
    (F35 l971 (IntKind.i64.wrap x1.fBits)).bind fun y1016 =>
    F36_j8 x1 y915 (y1016)
  else
    F36_j8 x1 y915 (l971)
theorem w36_j7 {x1 : T_Code} {y915 : T_form} {l971 : (List Int)} {r : (List Int)} (h : F36_j7 x1 y915 l971 = some r) {b917 : Nat} {o972 : Option (Nat × Nat)} {q973 : List V} {H : Heap} {L : List Ob} (hp : HP H ((o972,List.flatMap (EI .u8).c l971 ++ q973) :: (some (b917,0),[(V.int .u8 y915.fa),(V.int .u8 y915.fb),(V.int .u8 y915.fc),(V.bool y915.fop),(V.bool y915.ft),(V.bool y915.fto),(V.bool y915.ftrap),(V.bool y915.fbits),(V.bool y915.frow)]) :: L)) :
    Run T i36n50 (mkE [(0,(slv (EI .u8).z (EI .u8).ag (List.length l971) o972)),(2,(V.fp (E_Code.e x1))),(1,(V.ptr b917 0 0))] 87) H (finE none [4] (Q36 L r)) := by
  unfold F36_j7 at h;refine Run.seq ?_;refine Rn.g ?_;refine Ro.t 1 ?_;refine Ro.p (hp.ld 1 (off := 8) (n := none) (v := (V.bool y915.frow)) rfl (by kernel_rfl)) ?_;refine Ro.d (mkE [(0,(slv (EI .u8).z (EI .u8).ag (List.length l971) o972)),(2,(V.fp (E_Code.e x1))),(1,(V.ptr b917 0 0)),(64,(V.bool y915.frow))] 22) ?_;rcases tf y915.frow with h1015 | h1015
  · rw [ite_t h1015] at h; refine Rn.t h1015 ?_;refine Run.rgn ?_;refine Ro.t 4 ?_;obtain ⟨y1016,h1017,h⟩ := bind_some h;refine RunO.h1 (n := 35) (caps := []) (us := [(slv (EI .u8).z (EI .u8).ag (List.length l971) o972),(vI (IntKind.i64.wrap x1.fBits))]) (by kernel_rfl) (by kernel_rfl) (by kernel_rfl) ((w35 h1017 hp).mono ?_);rintro _ H ⟨o1018,q1019,rfl,hp⟩;refine Ro.t 1 ?_;refine Ro.d (mkE [(0,(slv (EI .u8).z (EI .u8).ag (List.length y1016) o1018)),(2,(V.fp (E_Code.e x1))),(1,(V.ptr b917 0 0))] 87) ?_;exact w36_j8 h hp
  · rw [ite_f h1015] at h; refine Rn.f h1015 ?_;refine Run.skip ?_;refine Rn.c (mkE [(0,(slv (EI .u8).z (EI .u8).ag (List.length l971) o972)),(2,(V.fp (E_Code.e x1))),(1,(V.ptr b917 0 0))] 87) ?_;exact w36_j8 h hp
def F36_j6 (x1 : T_Code) (y915 : T_form) (l958 : (List Int)) : Option (List Int) :=
  if (y915.fc != (0 : Int)) then
    (F35 l958 x1.fC).bind fun y1021 =>
    F36_j7 x1 y915 (y1021)
  else
    if y915.frow then
      (F35 l958 x1.fC).bind fun y1026 =>
      F36_j7 x1 y915 (y1026)
    else
      F36_j7 x1 y915 (l958)
theorem w36_j6 {x1 : T_Code} {y915 : T_form} {l958 : (List Int)} {r : (List Int)} (h : F36_j6 x1 y915 l958 = some r) {b917 : Nat} {o959 : Option (Nat × Nat)} {q960 : List V} {H : Heap} {L : List Ob} (hp : HP H ((o959,List.flatMap (EI .u8).c l958 ++ q960) :: (some (b917,0),[(V.int .u8 y915.fa),(V.int .u8 y915.fb),(V.int .u8 y915.fc),(V.bool y915.fop),(V.bool y915.ft),(V.bool y915.fto),(V.bool y915.ftrap),(V.bool y915.fbits),(V.bool y915.frow)]) :: L)) :
    Run T i36n51 (mkE [(0,(slv (EI .u8).z (EI .u8).ag (List.length l958) o959)),(2,(V.fp (E_Code.e x1))),(1,(V.ptr b917 0 0))] 87) H (finE none [4] (Q36 L r)) := by
  unfold F36_j6 at h;refine Run.seq ?_;refine Rn.g ?_;refine Ro.t 1 ?_;refine Ro.p (hp.ld 1 (off := 2) (n := none) (v := (V.int .u8 y915.fc)) rfl (by kernel_rfl)) ?_;rcases tf (y915.fc != (0 : Int)) with h1020 | h1020
  · rw [ite_t h1020] at h; refine Ro.p (bool_of h1020) ?_;refine Ro.t 4 ?_;refine Ro.d (mkE [(0,(slv (EI .u8).z (EI .u8).ag (List.length l958) o959)),(2,(V.fp (E_Code.e x1))),(1,(V.ptr b917 0 0)),(58,(V.bool true))] 28) ?_;refine Run.condT (by kernel_rfl) ?_;refine Run.rgn ?_;refine Ro.t 3 ?_;obtain ⟨y1021,h1022,h⟩ := bind_some h;refine RunO.h1 (n := 35) (caps := []) (us := [(slv (EI .u8).z (EI .u8).ag (List.length l958) o959),(vI x1.fC)]) (by kernel_rfl) (by kernel_rfl) (by kernel_rfl) ((w35 h1022 hp).mono ?_);rintro _ H ⟨o1023,q1024,rfl,hp⟩;refine Ro.t 1 ?_;refine Ro.d (mkE [(0,(slv (EI .u8).z (EI .u8).ag (List.length y1021) o1023)),(2,(V.fp (E_Code.e x1))),(1,(V.ptr b917 0 0))] 87) ?_;exact w36_j7 h hp
  · rw [ite_f h1020] at h; refine Ro.p (bool_of h1020) ?_;refine Ro.t 2 ?_;refine Ro.p (hp.ld 1 (off := 8) (n := none) (v := (V.bool y915.frow)) rfl (by kernel_rfl)) ?_;refine Ro.t 1 ?_;refine Ro.d (mkE [(0,(slv (EI .u8).z (EI .u8).ag (List.length l958) o959)),(2,(V.fp (E_Code.e x1))),(1,(V.ptr b917 0 0)),(58,(V.bool y915.frow))] 28) ?_;rcases tf y915.frow with h1025 | h1025
    · rw [ite_t h1025] at h; refine Rn.t h1025 ?_;refine Run.rgn ?_;refine Ro.t 3 ?_;obtain ⟨y1026,h1027,h⟩ := bind_some h;refine RunO.h1 (n := 35) (caps := []) (us := [(slv (EI .u8).z (EI .u8).ag (List.length l958) o959),(vI x1.fC)]) (by kernel_rfl) (by kernel_rfl) (by kernel_rfl) ((w35 h1027 hp).mono ?_);rintro _ H ⟨o1028,q1029,rfl,hp⟩;refine Ro.t 1 ?_;refine Ro.d (mkE [(0,(slv (EI .u8).z (EI .u8).ag (List.length y1026) o1028)),(2,(V.fp (E_Code.e x1))),(1,(V.ptr b917 0 0))] 87) ?_;exact w36_j7 h hp
    · rw [ite_f h1025] at h; refine Rn.f h1025 ?_;refine Run.skip ?_;refine Rn.c (mkE [(0,(slv (EI .u8).z (EI .u8).ag (List.length l958) o959)),(2,(V.fp (E_Code.e x1))),(1,(V.ptr b917 0 0))] 87) ?_;exact w36_j7 h hp
def F36_j5 (x1 : T_Code) (y915 : T_form) (l950 : (List Int)) : Option (List Int) :=
  if (y915.fb != (0 : Int)) then
    (F35 l950 x1.fB).bind fun y1031 =>
    F36_j6 x1 y915 (y1031)
  else
    F36_j6 x1 y915 (l950)
theorem w36_j5 {x1 : T_Code} {y915 : T_form} {l950 : (List Int)} {r : (List Int)} (h : F36_j5 x1 y915 l950 = some r) {b917 : Nat} {o951 : Option (Nat × Nat)} {q952 : List V} {H : Heap} {L : List Ob} (hp : HP H ((o951,List.flatMap (EI .u8).c l950 ++ q952) :: (some (b917,0),[(V.int .u8 y915.fa),(V.int .u8 y915.fb),(V.int .u8 y915.fc),(V.bool y915.fop),(V.bool y915.ft),(V.bool y915.fto),(V.bool y915.ftrap),(V.bool y915.fbits),(V.bool y915.frow)]) :: L)) :
    Run T i36n52 (mkE [(0,(slv (EI .u8).z (EI .u8).ag (List.length l950) o951)),(2,(V.fp (E_Code.e x1))),(1,(V.ptr b917 0 0))] 87) H (finE none [4] (Q36 L r)) := by
  unfold F36_j5 at h;refine Run.seq ?_;refine Rn.g ?_;refine Ro.t 1 ?_;refine Ro.p (hp.ld 1 (off := 1) (n := none) (v := (V.int .u8 y915.fb)) rfl (by kernel_rfl)) ?_;refine Ro.t 1 ?_;refine Ro.d (mkE [(0,(slv (EI .u8).z (EI .u8).ag (List.length l950) o951)),(2,(V.fp (E_Code.e x1))),(1,(V.ptr b917 0 0)),(47,(V.bool (y915.fb != (0 : Int))))] 39) ?_;rcases tf (y915.fb != (0 : Int)) with h1030 | h1030
  · rw [ite_t h1030] at h; refine Rn.t h1030 ?_;refine Run.rgn ?_;refine Ro.t 3 ?_;obtain ⟨y1031,h1032,h⟩ := bind_some h;refine RunO.h1 (n := 35) (caps := []) (us := [(slv (EI .u8).z (EI .u8).ag (List.length l950) o951),(vI x1.fB)]) (by kernel_rfl) (by kernel_rfl) (by kernel_rfl) ((w35 h1032 hp).mono ?_);rintro _ H ⟨o1033,q1034,rfl,hp⟩;refine Ro.t 1 ?_;refine Ro.d (mkE [(0,(slv (EI .u8).z (EI .u8).ag (List.length y1031) o1033)),(2,(V.fp (E_Code.e x1))),(1,(V.ptr b917 0 0))] 87) ?_;exact w36_j6 h hp
  · rw [ite_f h1030] at h; refine Rn.f h1030 ?_;refine Run.skip ?_;refine Rn.c (mkE [(0,(slv (EI .u8).z (EI .u8).ag (List.length l950) o951)),(2,(V.fp (E_Code.e x1))),(1,(V.ptr b917 0 0))] 87) ?_;exact w36_j6 h hp
def F36_j4 (x1 : T_Code) (y915 : T_form) (l943 : (List Int)) : Option (List Int) :=
  if (y915.fa != (0 : Int)) then
    (F35 l943 x1.fA).bind fun y1036 =>
    F36_j5 x1 y915 (y1036)
  else
    F36_j5 x1 y915 (l943)
theorem w36_j4 {x1 : T_Code} {y915 : T_form} {l943 : (List Int)} {r : (List Int)} (h : F36_j4 x1 y915 l943 = some r) {b917 : Nat} {o944 : Option (Nat × Nat)} {H : Heap} {L : List Ob} (hp : HP H ((o944,List.flatMap (EI .u8).c l943 ++ []) :: (some (b917,0),[(V.int .u8 y915.fa),(V.int .u8 y915.fb),(V.int .u8 y915.fc),(V.bool y915.fop),(V.bool y915.ft),(V.bool y915.fto),(V.bool y915.ftrap),(V.bool y915.fbits),(V.bool y915.frow)]) :: L)) :
    Run T i36n53 (mkE [(0,(slv (EI .u8).z (EI .u8).ag (List.length l943) o944)),(2,(V.fp (E_Code.e x1))),(1,(V.ptr b917 0 0))] 87) H (finE none [4] (Q36 L r)) := by
  unfold F36_j4 at h;refine Run.seq ?_;refine Rn.g ?_;refine Ro.t 1 ?_;refine Ro.p (hp.ld 1 (off := 0) (n := none) (v := (V.int .u8 y915.fa)) rfl (by kernel_rfl)) ?_;refine Ro.t 1 ?_;refine Ro.d (mkE [(0,(slv (EI .u8).z (EI .u8).ag (List.length l943) o944)),(2,(V.fp (E_Code.e x1))),(1,(V.ptr b917 0 0)),(40,(V.bool (y915.fa != (0 : Int))))] 46) ?_;rcases tf (y915.fa != (0 : Int)) with h1035 | h1035
  · rw [ite_t h1035] at h; refine Rn.t h1035 ?_;refine Run.rgn ?_;refine Ro.t 3 ?_;obtain ⟨y1036,h1037,h⟩ := bind_some h;refine RunO.h1 (n := 35) (caps := []) (us := [(slv (EI .u8).z (EI .u8).ag (List.length l943) o944),(vI x1.fA)]) (by kernel_rfl) (by kernel_rfl) (by kernel_rfl) ((w35 h1037 hp).mono ?_);rintro _ H ⟨o1038,q1039,rfl,hp⟩;refine Ro.t 1 ?_;refine Ro.d (mkE [(0,(slv (EI .u8).z (EI .u8).ag (List.length y1036) o1038)),(2,(V.fp (E_Code.e x1))),(1,(V.ptr b917 0 0))] 87) ?_;exact w36_j5 h hp
  · rw [ite_f h1035] at h; refine Rn.f h1035 ?_;refine Run.skip ?_;refine Rn.c (mkE [(0,(slv (EI .u8).z (EI .u8).ag (List.length l943) o944)),(2,(V.fp (E_Code.e x1))),(1,(V.ptr b917 0 0))] 87) ?_;exact w36_j5 h hp
def F36_j3 (x1 : T_Code) (y915 : T_form) (l937 : (List Int)) : Option (List Int) :=
  if y915.ftrap then
    (more 1 l937 ([x1.fTrap] : List Int)).bind fun y1041 =>
    F36_j4 x1 y915 (y1041)
  else
    F36_j4 x1 y915 (l937)
theorem w36_j3 {x1 : T_Code} {y915 : T_form} {l937 : (List Int)} {r : (List Int)} (h : F36_j3 x1 y915 l937 = some r) {b917 : Nat} {o938 : Option (Nat × Nat)} {H : Heap} {L : List Ob} (hp : HP H ((o938,List.flatMap (EI .u8).c l937 ++ []) :: (some (b917,0),[(V.int .u8 y915.fa),(V.int .u8 y915.fb),(V.int .u8 y915.fc),(V.bool y915.fop),(V.bool y915.ft),(V.bool y915.fto),(V.bool y915.ftrap),(V.bool y915.fbits),(V.bool y915.frow)]) :: L)) :
    Run T i36n54 (mkE [(0,(slv (EI .u8).z (EI .u8).ag (List.length l937) o938)),(2,(V.fp (E_Code.e x1))),(1,(V.ptr b917 0 0))] 87) H (finE none [4] (Q36 L r)) := by
  unfold F36_j3 at h;refine Run.seq ?_;refine Rn.g ?_;refine Ro.t 1 ?_;refine Ro.p (hp.ld 1 (off := 6) (n := none) (v := (V.bool y915.ftrap)) rfl (by kernel_rfl)) ?_;refine Ro.d (mkE [(0,(slv (EI .u8).z (EI .u8).ag (List.length l937) o938)),(2,(V.fp (E_Code.e x1))),(1,(V.ptr b917 0 0)),(32,(V.bool y915.ftrap))] 54) ?_;rcases tf y915.ftrap with h1040 | h1040
  · rw [ite_t h1040] at h; refine Rn.t h1040 ?_;refine Run.rgn ?_;refine Ro.t 4 ?_;obtain ⟨y1041,h1042,h⟩ := bind_some h;refine RunO.app1 (EI .u8) hp (by kernel_rfl) 0 (o := o938) (l := l937) (rest := []) (m := ([x1.fTrap] : List Int)) rfl (by kernel_rfl) (by kernel_rfl) ((EI .u8).new_fz _ ([x1.fTrap] : List Int)) (by kernel_rfl) (by kernel_rfl) h1042 ?_;intro o1043 H hp;refine Ro.t 1 ?_;refine Ro.d (mkE [(0,(slv (EI .u8).z (EI .u8).ag (List.length y1041) o1043)),(2,(V.fp (E_Code.e x1))),(1,(V.ptr b917 0 0))] 87) ?_;exact w36_j4 h hp
  · rw [ite_f h1040] at h; refine Rn.f h1040 ?_;refine Run.skip ?_;refine Rn.c (mkE [(0,(slv (EI .u8).z (EI .u8).ag (List.length l937) o938)),(2,(V.fp (E_Code.e x1))),(1,(V.ptr b917 0 0))] 87) ?_;exact w36_j4 h hp
def F36_j2 (x1 : T_Code) (y915 : T_form) (l931 : (List Int)) : Option (List Int) :=
  if y915.fto then
    (more 1 l931 ([x1.fTo] : List Int)).bind fun y1045 =>
    F36_j3 x1 y915 (y1045)
  else
    F36_j3 x1 y915 (l931)
theorem w36_j2 {x1 : T_Code} {y915 : T_form} {l931 : (List Int)} {r : (List Int)} (h : F36_j2 x1 y915 l931 = some r) {b917 : Nat} {o932 : Option (Nat × Nat)} {H : Heap} {L : List Ob} (hp : HP H ((o932,List.flatMap (EI .u8).c l931 ++ []) :: (some (b917,0),[(V.int .u8 y915.fa),(V.int .u8 y915.fb),(V.int .u8 y915.fc),(V.bool y915.fop),(V.bool y915.ft),(V.bool y915.fto),(V.bool y915.ftrap),(V.bool y915.fbits),(V.bool y915.frow)]) :: L)) :
    Run T i36n55 (mkE [(0,(slv (EI .u8).z (EI .u8).ag (List.length l931) o932)),(2,(V.fp (E_Code.e x1))),(1,(V.ptr b917 0 0))] 87) H (finE none [4] (Q36 L r)) := by
  unfold F36_j2 at h;refine Run.seq ?_;refine Rn.g ?_;refine Ro.t 1 ?_;refine Ro.p (hp.ld 1 (off := 5) (n := none) (v := (V.bool y915.fto)) rfl (by kernel_rfl)) ?_;refine Ro.d (mkE [(0,(slv (EI .u8).z (EI .u8).ag (List.length l931) o932)),(2,(V.fp (E_Code.e x1))),(1,(V.ptr b917 0 0)),(25,(V.bool y915.fto))] 61) ?_;rcases tf y915.fto with h1044 | h1044
  · rw [ite_t h1044] at h; refine Rn.t h1044 ?_;refine Run.rgn ?_;refine Ro.t 4 ?_;obtain ⟨y1045,h1046,h⟩ := bind_some h;refine RunO.app1 (EI .u8) hp (by kernel_rfl) 0 (o := o932) (l := l931) (rest := []) (m := ([x1.fTo] : List Int)) rfl (by kernel_rfl) (by kernel_rfl) ((EI .u8).new_fz _ ([x1.fTo] : List Int)) (by kernel_rfl) (by kernel_rfl) h1046 ?_;intro o1047 H hp;refine Ro.t 1 ?_;refine Ro.d (mkE [(0,(slv (EI .u8).z (EI .u8).ag (List.length y1045) o1047)),(2,(V.fp (E_Code.e x1))),(1,(V.ptr b917 0 0))] 87) ?_;exact w36_j3 h hp
  · rw [ite_f h1044] at h; refine Rn.f h1044 ?_;refine Run.skip ?_;refine Rn.c (mkE [(0,(slv (EI .u8).z (EI .u8).ag (List.length l931) o932)),(2,(V.fp (E_Code.e x1))),(1,(V.ptr b917 0 0))] 87) ?_;exact w36_j3 h hp
def F36_j1 (x1 : T_Code) (y915 : T_form) (l925 : (List Int)) : Option (List Int) :=
  if y915.ft then
    (more 1 l925 ([x1.fType] : List Int)).bind fun y1049 =>
    F36_j2 x1 y915 (y1049)
  else
    F36_j2 x1 y915 (l925)
theorem w36_j1 {x1 : T_Code} {y915 : T_form} {l925 : (List Int)} {r : (List Int)} (h : F36_j1 x1 y915 l925 = some r) {b917 : Nat} {o926 : Option (Nat × Nat)} {H : Heap} {L : List Ob} (hp : HP H ((o926,List.flatMap (EI .u8).c l925 ++ []) :: (some (b917,0),[(V.int .u8 y915.fa),(V.int .u8 y915.fb),(V.int .u8 y915.fc),(V.bool y915.fop),(V.bool y915.ft),(V.bool y915.fto),(V.bool y915.ftrap),(V.bool y915.fbits),(V.bool y915.frow)]) :: L)) :
    Run T i36n56 (mkE [(0,(slv (EI .u8).z (EI .u8).ag (List.length l925) o926)),(2,(V.fp (E_Code.e x1))),(1,(V.ptr b917 0 0))] 87) H (finE none [4] (Q36 L r)) := by
  unfold F36_j1 at h;refine Run.seq ?_;refine Rn.g ?_;refine Ro.t 1 ?_;refine Ro.p (hp.ld 1 (off := 4) (n := none) (v := (V.bool y915.ft)) rfl (by kernel_rfl)) ?_;refine Ro.d (mkE [(0,(slv (EI .u8).z (EI .u8).ag (List.length l925) o926)),(2,(V.fp (E_Code.e x1))),(1,(V.ptr b917 0 0)),(18,(V.bool y915.ft))] 68) ?_;rcases tf y915.ft with h1048 | h1048
  · rw [ite_t h1048] at h; refine Rn.t h1048 ?_;refine Run.rgn ?_;refine Ro.t 4 ?_;obtain ⟨y1049,h1050,h⟩ := bind_some h;refine RunO.app1 (EI .u8) hp (by kernel_rfl) 0 (o := o926) (l := l925) (rest := []) (m := ([x1.fType] : List Int)) rfl (by kernel_rfl) (by kernel_rfl) ((EI .u8).new_fz _ ([x1.fType] : List Int)) (by kernel_rfl) (by kernel_rfl) h1050 ?_;intro o1051 H hp;refine Ro.t 1 ?_;refine Ro.d (mkE [(0,(slv (EI .u8).z (EI .u8).ag (List.length y1049) o1051)),(2,(V.fp (E_Code.e x1))),(1,(V.ptr b917 0 0))] 87) ?_;exact w36_j2 h hp
  · rw [ite_f h1048] at h; refine Rn.f h1048 ?_;refine Run.skip ?_;refine Rn.c (mkE [(0,(slv (EI .u8).z (EI .u8).ag (List.length l925) o926)),(2,(V.fp (E_Code.e x1))),(1,(V.ptr b917 0 0))] 87) ?_;exact w36_j2 h hp
def F36 (x0 : (List Int)) (x1 : T_Code) : Option (List Int) :=
  (idx G0 x1.fKind).bind fun y915 =>
  (more 1 x0 ([x1.fKind] : List Int)).bind fun y918 =>
  if y915.fop then
    (more 1 y918 ([x1.fOp] : List Int)).bind fun y1053 =>
    F36_j1 x1 y915 (y1053)
  else
    F36_j1 x1 y915 (y918)
theorem w36 {x0 : (List Int)} {x1 : T_Code} {r : (List Int)} (h : F36 x0 x1 = some r) {o783 : Option (Nat × Nat)} {q784 : List V} {H : Heap} {L : List Ob} (hp : HP H ((o783,List.flatMap (EI .u8).c x0 ++ q784) :: L)) : Fn T 36 [(slv (EI .u8).z (EI .u8).ag (List.length x0) o783),(E_Code.e x1)] H (Q36 L r) := by
  refine Fn.enterE t36 (e0 := (mkE [(0,(slv (EI .u8).z (EI .u8).ag (List.length x0) o783)),(0,(E_Code.e x1))] 91)) (by kernel_rfl) ?_;show Run T (.clr [] i36n60) _ _ (finE none [4] (Q36 L r));refine Rn.k (mkE [(0,(slv (EI .u8).z (EI .u8).ag (List.length x0) o783)),(0,(E_Code.e x1))] 91) ?_;unfold F36 at h;refine Rn.g ?_;refine Ro.t 2 ?_;refine Ro.d (mkE [(0,(slv (EI .u8).z (EI .u8).ag (List.length x0) o783)),(2,(V.fp (E_Code.e x1)))] 89) ?_;refine Rn.g ?_;refine Ro.t 2 ?_;obtain ⟨y915,h916,h⟩ := bind_some h;refine Ro.p (idxp_fp E_form (l := G0) .u8 (n := 18) (cs := [V.int .u8 0,V.int .u8 0,V.int .u8 0,V.bool false,V.bool false,V.bool false,V.bool false,V.bool false,V.bool false,V.int .u8 1,V.int .u8 0,V.int .u8 0,V.bool false,V.bool false,V.bool false,V.bool false,V.bool true,V.bool false,V.int .u8 1,V.int .u8 1,V.int .u8 0,V.bool false,V.bool false,V.bool false,V.bool false,V.bool false,V.bool false,V.int .u8 1,V.int .u8 1,V.int .u8 7,V.bool true,V.bool true,V.bool false,V.bool false,V.bool false,V.bool false,V.int .u8 1,V.int .u8 1,V.int .u8 0,V.bool false,V.bool true,V.bool true,V.bool false,V.bool false,V.bool false,V.int .u8 1,V.int .u8 2,V.int .u8 0,V.bool false,V.bool false,V.bool false,V.bool false,V.bool false,V.bool false,V.int .u8 2,V.int .u8 1,V.int .u8 0,V.bool false,V.bool false,V.bool false,V.bool false,V.bool false,V.bool false,V.int .u8 1,V.int .u8 1,V.int .u8 0,V.bool false,V.bool false,V.bool false,V.bool false,V.bool false,V.bool true,V.int .u8 1,V.int .u8 1,V.int .u8 0,V.bool false,V.bool false,V.bool false,V.bool false,V.bool false,V.bool true,V.int .u8 0,V.int .u8 0,V.int .u8 0,V.bool false,V.bool false,V.bool false,V.bool false,V.bool false,V.bool true,V.int .u8 1,V.int .u8 4,V.int .u8 0,V.bool false,V.bool false,V.bool false,V.bool false,V.bool false,V.bool false,V.int .u8 5,V.int .u8 1,V.int .u8 0,V.bool false,V.bool false,V.bool false,V.bool false,V.bool false,V.bool false,V.int .u8 6,V.int .u8 0,V.int .u8 0,V.bool false,V.bool false,V.bool false,V.bool false,V.bool false,V.bool false,V.int .u8 1,V.int .u8 0,V.int .u8 0,V.bool false,V.bool true,V.bool false,V.bool false,V.bool false,V.bool false,V.int .u8 3,V.int .u8 0,V.int .u8 0,V.bool false,V.bool false,V.bool false,V.bool false,V.bool false,V.bool false,V.int .u8 1,V.int .u8 3,V.int .u8 3,V.bool false,V.bool false,V.bool false,V.bool false,V.bool false,V.bool false,V.int .u8 1,V.int .u8 0,V.int .u8 0,V.bool false,V.bool false,V.bool false,V.bool false,V.bool false,V.bool false,V.int .u8 0,V.int .u8 0,V.int .u8 0,V.bool false,V.bool false,V.bool false,V.bool true,V.bool false,V.bool false]) (by kernel_rfl) (by kernel_rfl) h916) ?_;refine Ro.t 1 ?_;refine RunO.alloc hp (by kernel_rfl) ?_;intro b917 H hp;refine RunO.st hp (by kernel_rfl) 0 (off := 0) (v := (E_form.e y915)) (cs' := [(V.int .u8 y915.fa),(V.int .u8 y915.fb),(V.int .u8 y915.fc),(V.bool y915.fop),(V.bool y915.ft),(V.bool y915.fto),(V.bool y915.ftrap),(V.bool y915.fbits),(V.bool y915.frow)]) rfl (by kernel_rfl) (by kernel_rfl) (by kernel_rfl) ?_;intro H hp;refine Ro.d (mkE [(0,(slv (EI .u8).z (EI .u8).ag (List.length x0) o783)),(2,(V.fp (E_Code.e x1))),(1,(V.ptr b917 0 0))] 87) ?_;refine Rn.g ?_;refine Ro.t 4 ?_;obtain ⟨y918,h919,h⟩ := bind_some h;refine RunO.app1 (EI .u8) hp (by kernel_rfl) 1 (o := o783) (l := x0) (rest := q784) (m := ([x1.fKind] : List Int)) rfl (by kernel_rfl) (by kernel_rfl) ((EI .u8).new_fz _ ([x1.fKind] : List Int)) (by kernel_rfl) (by kernel_rfl) h919 ?_;intro o920 H hp;refine Ro.t 1 ?_;refine Ro.d (mkE [(0,(slv (EI .u8).z (EI .u8).ag (List.length y918) o920)),(2,(V.fp (E_Code.e x1))),(1,(V.ptr b917 0 0))] 87) ?_;refine Run.seq ?_;refine Rn.g ?_;refine Ro.t 1 ?_;refine Ro.p (hp.ld 0 (off := 3) (n := none) (v := (V.bool y915.fop)) rfl (by kernel_rfl)) ?_;refine Ro.d (mkE [(0,(slv (EI .u8).z (EI .u8).ag (List.length y918) o920)),(2,(V.fp (E_Code.e x1))),(1,(V.ptr b917 0 0)),(11,(V.bool y915.fop))] 75) ?_;rcases tf y915.fop with h1052 | h1052
  · rw [ite_t h1052] at h; refine Rn.t h1052 ?_;refine Run.rgn ?_;refine Ro.t 4 ?_;obtain ⟨y1053,h1054,h⟩ := bind_some h;refine RunO.app1 (EI .u8) hp (by kernel_rfl) 1 (o := o920) (l := y918) (rest := []) (m := ([x1.fOp] : List Int)) rfl (by kernel_rfl) (by kernel_rfl) ((EI .u8).new_fz _ ([x1.fOp] : List Int)) (by kernel_rfl) (by kernel_rfl) h1054 ?_;intro o1055 H hp;refine Ro.t 1 ?_;refine Ro.d (mkE [(0,(slv (EI .u8).z (EI .u8).ag (List.length y1053) o1055)),(2,(V.fp (E_Code.e x1))),(1,(V.ptr b917 0 0))] 87) ?_;have hp := hp.pick 0 rfl;have hp := hp.pick 1 rfl;exact w36_j1 h hp
  · rw [ite_f h1052] at h; refine Rn.f h1052 ?_;refine Run.skip ?_;refine Rn.c (mkE [(0,(slv (EI .u8).z (EI .u8).ag (List.length y918) o920)),(2,(V.fp (E_Code.e x1))),(1,(V.ptr b917 0 0))] 87) ?_;have hp := hp.pick 0 rfl;have hp := hp.pick 1 rfl;exact w36_j1 h hp
abbrev Q26 (L : List Ob) (r : ((List T_Unit) × (List Int))) : V → Heap → Prop := fun v h => v = .tup [(EL E_Unit).e r.1,(EL (EI .u8)).e r.2] ∧ HP h (L)
def F26 : Option ((List T_Unit) × (List Int)) :=
  some (([(⟨([102] : List UInt8),([] : List Int),(4 : Int),(0 : Int),([(⟨(1 : Int),(0 : Int),(0 : Int),(0 : Int),(0 : Int),(0 : Int),(0 : Int),(0 : Int),(300 : Int)⟩ : T_Code),(⟨(16 : Int),(0 : Int),(0 : Int),(0 : Int),(0 : Int),(0 : Int),(0 : Int),(0 : Int),(0 : Int)⟩ : T_Code)] : List T_Code)⟩ : T_Unit)] : List T_Unit),([(1 : Int),(1 : Int),(102 : Int),(0 : Int),(4 : Int),(0 : Int),(2 : Int),(1 : Int),(0 : Int),(44 : Int),(1 : Int),(0 : Int),(0 : Int),(0 : Int),(0 : Int),(0 : Int),(0 : Int),(16 : Int),(0 : Int)] : List Int))
theorem w26 {r : ((List T_Unit) × (List Int))} (h : F26 = some r) {H : Heap} {L : List Ob} (hp : HP H (L)) : Fn T 26 [] H (Q26 L r) := by
  refine Fn.enterE t26 (e0 := (mkE [] 10)) (by kernel_rfl) ?_;show Run T (.clr [] i26n5) _ _ (finE none [0,1] (Q26 L r));refine Rn.k (mkE [] 10) ?_;unfold F26 at h;refine Rn.g ?_;refine Ro.t 2 ?_;refine Ro.d (mkE [] 10) ?_;refine Rn.g ?_;refine Ro.t 6 ?_;refine Ro.d (mkE [(2,(V.fz (List.map E_Unit.e ([(⟨([102] : List UInt8),([] : List Int),(4 : Int),(0 : Int),([(⟨(1 : Int),(0 : Int),(0 : Int),(0 : Int),(0 : Int),(0 : Int),(0 : Int),(0 : Int),(300 : Int)⟩ : T_Code),(⟨(16 : Int),(0 : Int),(0 : Int),(0 : Int),(0 : Int),(0 : Int),(0 : Int),(0 : Int),(0 : Int)⟩ : T_Code)] : List T_Code)⟩ : T_Unit)] : List T_Unit))))] 7) ?_;refine Rn.g ?_;refine Ro.t 4 ?_;refine Ro.d (mkE [(0,(V.fz (List.map E_Unit.e ([(⟨([102] : List UInt8),([] : List Int),(4 : Int),(0 : Int),([(⟨(1 : Int),(0 : Int),(0 : Int),(0 : Int),(0 : Int),(0 : Int),(0 : Int),(0 : Int),(300 : Int)⟩ : T_Code),(⟨(16 : Int),(0 : Int),(0 : Int),(0 : Int),(0 : Int),(0 : Int),(0 : Int),(0 : Int),(0 : Int)⟩ : T_Code)] : List T_Code)⟩ : T_Unit)] : List T_Unit)))),(0,(V.fz (List.map (EI .u8).e ([(1 : Int),(1 : Int),(102 : Int),(0 : Int),(4 : Int),(0 : Int),(2 : Int),(1 : Int),(0 : Int),(44 : Int),(1 : Int),(0 : Int),(0 : Int),(0 : Int),(0 : Int),(0 : Int),(0 : Int),(16 : Int),(0 : Int)] : List Int))))] 8) ?_;refine Run.ret ?_;obtain rfl := Option.some.inj h;exact ⟨(V.tup [(V.fz (List.map E_Unit.e ([(⟨([102] : List UInt8),([] : List Int),(4 : Int),(0 : Int),([(⟨(1 : Int),(0 : Int),(0 : Int),(0 : Int),(0 : Int),(0 : Int),(0 : Int),(0 : Int),(300 : Int)⟩ : T_Code),(⟨(16 : Int),(0 : Int),(0 : Int),(0 : Int),(0 : Int),(0 : Int),(0 : Int),(0 : Int),(0 : Int)⟩ : T_Code)] : List T_Code)⟩ : T_Unit)] : List T_Unit))),(V.fz (List.map (EI .u8).e ([(1 : Int),(1 : Int),(102 : Int),(0 : Int),(4 : Int),(0 : Int),(2 : Int),(1 : Int),(0 : Int),(44 : Int),(1 : Int),(0 : Int),(0 : Int),(0 : Int),(0 : Int),(0 : Int),(0 : Int),(16 : Int),(0 : Int)] : List Int)))]),(by kernel_rfl),(by kernel_rfl),hp⟩
theorem c26 {r : ((List T_Unit) × (List Int))} (h : F26 = some r)  : Fn T 26 [] [] (fun v hh => deep false hh deepN v = some (.tup [(EL E_Unit).e r.1,(EL (EI .u8)).e r.2])) := by
  refine (w26 h HP.nil).mono ?_;rintro v hh ⟨rfl,hp⟩;exact congrArg (Option.map V.tup) (omapc ((EL E_Unit).hd false hh 37 _ (.inl rfl)) (omapc ((EL (EI .u8)).hd false hh 37 _ (.inl rfl)) omapn))
abbrev Q68 (L : List Ob) (r : Bool) : V → Heap → Prop := fun v h => v = EB.e r ∧ HP h (L)
def F68 (x0 : Int) : Option Bool :=
  if (decide (x0 ≥ (1 : Int))) then
    some (decide (x0 ≤ (5 : Int)))
  else
    some false
theorem w68 {x0 : Int} {r : Bool} (h : F68 x0 = some r) {H : Heap} {L : List Ob} (hp : HP H (L)) : Fn T 68 [(V.int .u8 x0)] H (Q68 L r) := by
  refine Fn.enterE t68 (e0 := (mkE [(0,(V.int .u8 x0))] 8)) (by kernel_rfl) ?_;show Run T (.clr [] i68n3) _ _ (finE none [2] (Q68 L r));refine Rn.k (mkE [(0,(V.int .u8 x0))] 8) ?_;unfold F68 at h;refine Rn.g ?_;refine Ro.t 1 ?_;refine Ro.d (mkE [(0,(V.int .u8 x0))] 8) ?_;refine Rn.g ?_;refine Ro.t 1 ?_;rcases tf (decide (x0 ≥ (1 : Int))) with h1066 | h1066
  · rw [ite_t h1066] at h; refine Ro.p (bool_of h1066) ?_;refine Ro.t 5 ?_;refine Ro.d (mkE [(2,(V.bool (decide (x0 ≤ (5 : Int)))))] 6) ?_;refine Run.ret ?_;obtain rfl := Option.some.inj h;exact ⟨(V.bool (decide (x0 ≤ (5 : Int)))),(by kernel_rfl),(by kernel_rfl),hp⟩
  · rw [ite_f h1066] at h; refine Ro.p (bool_of h1066) ?_;refine Ro.t 5 ?_;refine Ro.d (mkE [(2,(V.bool false))] 6) ?_;refine Run.ret ?_;obtain rfl := Option.some.inj h;exact ⟨(V.bool false),(by kernel_rfl),(by kernel_rfl),hp⟩
abbrev Q92 (L : List Ob) (r : Bool) : V → Heap → Prop := fun v h => v = EB.e r ∧ HP h (L)
def F92 (x0 : Int) : Option Bool :=
  if (x0 == (2 : Int)) then
    some true
  else
    if (x0 == (3 : Int)) then
      some true
    else
      some (x0 == (4 : Int))
theorem w92 {x0 : Int} {r : Bool} (h : F92 x0 = some r) {H : Heap} {L : List Ob} (hp : HP H (L)) : Fn T 92 [(V.int .u8 x0)] H (Q92 L r) := by
  refine Fn.enterE t92 (e0 := (mkE [(0,(V.int .u8 x0))] 12)) (by kernel_rfl) ?_;show Run T (.clr [] i92n3) _ _ (finE none [2] (Q92 L r));refine Rn.k (mkE [(0,(V.int .u8 x0))] 12) ?_;unfold F92 at h;refine Rn.g ?_;refine Ro.t 1 ?_;refine Ro.d (mkE [(0,(V.int .u8 x0))] 12) ?_;refine Rn.g ?_;refine Ro.t 1 ?_;rcases tf (x0 == (2 : Int)) with h1160 | h1160
  · rw [ite_t h1160] at h; refine Ro.p (bool_of h1160) ?_;refine Ro.t 9 ?_;refine Ro.d (mkE [(2,(V.bool true))] 10) ?_;refine Run.ret ?_;obtain rfl := Option.some.inj h;exact ⟨(V.bool true),(by kernel_rfl),(by kernel_rfl),hp⟩
  · rw [ite_f h1160] at h; refine Ro.p (bool_of h1160) ?_;refine Ro.t 2 ?_;rcases tf (x0 == (3 : Int)) with h1161 | h1161
    · rw [ite_t h1161] at h; refine Ro.p (bool_of h1161) ?_;refine Ro.t 6 ?_;refine Ro.d (mkE [(2,(V.bool true))] 10) ?_;refine Run.ret ?_;obtain rfl := Option.some.inj h;exact ⟨(V.bool true),(by kernel_rfl),(by kernel_rfl),hp⟩
    · rw [ite_f h1161] at h; refine Ro.p (bool_of h1161) ?_;refine Ro.t 6 ?_;refine Ro.d (mkE [(2,(V.bool (x0 == (4 : Int))))] 10) ?_;refine Run.ret ?_;obtain rfl := Option.some.inj h;exact ⟨(V.bool (x0 == (4 : Int))),(by kernel_rfl),(by kernel_rfl),hp⟩
theorem c92 {x0 : Int} {r : Bool} (h : F92 x0 = some r) (s : Bool) : Fn T 92 [(V.int .u8 x0)] [] (fun v hh => deep s hh deepN v = some (EB.e r)) := by
  refine (w92 h HP.nil).mono ?_;rintro v hh ⟨rfl,hp⟩;exact EB.hd s hh 38 _ (.inr rfl)
abbrev Q83 (L : List Ob) (r : Bool) : V → Heap → Prop := fun v h => v = EB.e r ∧ HP h (L)
def F83 (x0 : Int) (x1 : Int) : Option Bool :=
  (F92 x0).bind fun y1172 =>
  if y1172 then
    (F92 x1).bind fun y1175 =>
    if y1175 then
      some true
    else
      some (x1 == (5 : Int))
  else
    if (x0 == (5 : Int)) then
      (F92 x1).bind fun y1179 =>
      if y1179 then
        some true
      else
        some (x1 == (5 : Int))
    else
      some false
theorem w83 {x0 : Int} {x1 : Int} {r : Bool} (h : F83 x0 x1 = some r) {H : Heap} {L : List Ob} (hp : HP H (L)) : Fn T 83 [(V.int .u8 x0),(V.int .u8 x1)] H (Q83 L r) := by
  refine Fn.enterE t83 (e0 := (mkE [(0,(V.int .u8 x0)),(0,(V.int .u8 x1))] 17)) (by kernel_rfl) ?_;show Run T (.clr [] i83n3) _ _ (finE none [4] (Q83 L r));refine Rn.k (mkE [(0,(V.int .u8 x0)),(0,(V.int .u8 x1))] 17) ?_;unfold F83 at h;refine Rn.g ?_;refine Ro.t 1 ?_;refine Ro.d (mkE [(0,(V.int .u8 x0)),(0,(V.int .u8 x1))] 17) ?_;refine Rn.g ?_;refine Ro.t 1 ?_;obtain ⟨y1172,h1173,h⟩ := bind_some h;rcases tf y1172 with h1174 | h1174
  · subst h1174; rw [if_pos rfl] at h;refine RunO.c1 (by kernel_rfl) (by kernel_rfl) (c92 h1173 _) ?_;refine Ro.t 6 ?_;obtain ⟨y1175,h1176,h⟩ := bind_some h;rcases tf y1175 with h1177 | h1177
    · subst h1177; rw [if_pos rfl] at h;refine RunO.c1 (by kernel_rfl) (by kernel_rfl) (c92 h1176 _) ?_;refine Ro.t 6 ?_;refine Ro.d (mkE [(4,(V.bool true))] 14) ?_;refine Run.ret ?_;obtain rfl := Option.some.inj h;exact ⟨(V.bool true),(by kernel_rfl),(by kernel_rfl),hp⟩
    · subst h1177; rw [if_neg (by decide)] at h;refine RunO.c1 (by kernel_rfl) (by kernel_rfl) (c92 h1176 _) ?_;refine Ro.t 6 ?_;refine Ro.d (mkE [(4,(V.bool (x1 == (5 : Int))))] 14) ?_;refine Run.ret ?_;obtain rfl := Option.some.inj h;exact ⟨(V.bool (x1 == (5 : Int))),(by kernel_rfl),(by kernel_rfl),hp⟩
  · subst h1174; rw [if_neg (by decide)] at h;refine RunO.c1 (by kernel_rfl) (by kernel_rfl) (c92 h1173 _) ?_;refine Ro.t 2 ?_;rcases tf (x0 == (5 : Int)) with h1178 | h1178
    · rw [ite_t h1178] at h; refine Ro.p (bool_of h1178) ?_;refine Ro.t 3 ?_;obtain ⟨y1179,h1180,h⟩ := bind_some h;rcases tf y1179 with h1181 | h1181
      · subst h1181; rw [if_pos rfl] at h;refine RunO.c1 (by kernel_rfl) (by kernel_rfl) (c92 h1180 _) ?_;refine Ro.t 6 ?_;refine Ro.d (mkE [(4,(V.bool true))] 14) ?_;refine Run.ret ?_;obtain rfl := Option.some.inj h;exact ⟨(V.bool true),(by kernel_rfl),(by kernel_rfl),hp⟩
      · subst h1181; rw [if_neg (by decide)] at h;refine RunO.c1 (by kernel_rfl) (by kernel_rfl) (c92 h1180 _) ?_;refine Ro.t 6 ?_;refine Ro.d (mkE [(4,(V.bool (x1 == (5 : Int))))] 14) ?_;refine Run.ret ?_;obtain rfl := Option.some.inj h;exact ⟨(V.bool (x1 == (5 : Int))),(by kernel_rfl),(by kernel_rfl),hp⟩
    · rw [ite_f h1178] at h; refine Ro.p (bool_of h1178) ?_;refine Ro.t 10 ?_;refine Ro.d (mkE [(4,(V.bool false))] 14) ?_;refine Run.ret ?_;obtain rfl := Option.some.inj h;exact ⟨(V.bool false),(by kernel_rfl),(by kernel_rfl),hp⟩
theorem c83 {x0 : Int} {x1 : Int} {r : Bool} (h : F83 x0 x1 = some r) (s : Bool) : Fn T 83 [(V.int .u8 x0),(V.int .u8 x1)] [] (fun v hh => deep s hh deepN v = some (EB.e r)) := by
  refine (w83 h HP.nil).mono ?_;rintro v hh ⟨rfl,hp⟩;exact EB.hd s hh 38 _ (.inr rfl)
abbrev Q84 (L : List Ob) (r : (Int × Bool)) : V → Heap → Prop := fun v h => v = .tup [(EI .u8).e r.1,EB.e r.2] ∧ HP h (L)
def F84_j1 (x1 : Int) (y4587 : Bool) : Option (Int × Bool) :=
  if (!y4587) then
    some ((0 : Int),false)
  else
    some (x1,true)
theorem w84_j1 {x1 : Int} {y4587 : Bool} {r : (Int × Bool)} (h : F84_j1 x1 y4587 = some r) {H : Heap} {L : List Ob} (hp : HP H (L)) :
    Run T i84n98 (mkE [(1,(V.int .u8 x1)),(4,(V.bool y4587))] 41) H (finE none [4,5] (Q84 L r)) := by
  unfold F84_j1 at h;refine Run.seq ?_;refine Rn.g ?_;refine Ro.t 2 ?_;refine Ro.d (mkE [(1,(V.int .u8 x1)),(44,(V.bool (!y4587)))] 1) ?_;rcases tf (!y4587) with h4589 | h4589
  · rw [ite_t h4589] at h; refine Rn.t h4589 ?_;refine Rn.g ?_;refine Ro.t 2 ?_;refine Ro.d (mkE [(4,(V.int .u8 (0 : Int))),(0,(V.bool false))] 42) ?_;refine Run.ret ?_;obtain rfl := Option.some.inj h;exact ⟨(V.tup [(V.int .u8 (0 : Int)),(V.bool false)]),(by kernel_rfl),(by kernel_rfl),hp⟩
  · rw [ite_f h4589] at h; refine Rn.f h4589 ?_;refine Run.skip ?_;refine Rn.c (mkE [(1,(V.int .u8 x1))] 46) ?_;refine Rn.g ?_;refine Ro.t 3 ?_;refine Ro.d (mkE [(4,(V.int .u8 x1)),(0,(V.bool true))] 42) ?_;refine Run.ret ?_;obtain rfl := Option.some.inj h;exact ⟨(V.tup [(V.int .u8 x1),(V.bool true)]),(by kernel_rfl),(by kernel_rfl),hp⟩
def F84_j2 : Option (Int × Bool) :=
  some ((1 : Int),true)
theorem w84_j2 {r : (Int × Bool)} (h : F84_j2 = some r) {H : Heap} {L : List Ob} (hp : HP H (L)) :
    Run T i84n87 (mkE [] 48) H (blk 0 (thn T (.clr [0,4,5,13,14,15,16,17,18,19,20,21,22,23,24,25,26,27,28,29,30,31,32,33,34,35,36,37,38,39,40,41,42,43,44] i84n98) (finE none [4,5] (Q84 L r)))) := by
  unfold F84_j2 at h;refine Run.seq ?_;refine Rn.g ?_;refine Ro.t 2 ?_;refine Ro.d (mkE [(4,(V.int .u8 (1 : Int))),(0,(V.bool true))] 42) ?_;refine Run.ret ?_;obtain rfl := Option.some.inj h;exact ⟨(V.tup [(V.int .u8 (1 : Int)),(V.bool true)]),(by kernel_rfl),(by kernel_rfl),hp⟩
def F84_j3 (x1 : Int) : Option (Int × Bool) :=
  if (x1 == (1 : Int)) then
    F84_j1 x1 (false)
  else
    F84_j2
theorem w84_j3 {x1 : Int} {r : (Int × Bool)} (h : F84_j3 x1 = some r) {H : Heap} {L : List Ob} (hp : HP H (L)) :
    Run T i84n82 (mkE [(1,(V.int .u8 x1)),(4,(V.bool false))] 41) H (blk 5 (thn T (.clr [1,6,13,14,15,16,17,18,19,20,21,22,23,24,25,26,27,28,29,30,31,32,33,34,35,36,37,38,39,40,41,42,43,44] i84n87) (blk 0 (thn T (.clr [0,4,5,13,14,15,16,17,18,19,20,21,22,23,24,25,26,27,28,29,30,31,32,33,34,35,36,37,38,39,40,41,42,43,44] i84n98) (finE none [4,5] (Q84 L r)))))) := by
  unfold F84_j3 at h;refine Rn.g ?_;refine Ro.t 2 ?_;refine Ro.d (mkE [(1,(V.int .u8 x1)),(4,(V.bool false)),(37,(V.bool (x1 == (1 : Int))))] 3) ?_;rcases tf (x1 == (1 : Int)) with h5419 | h5419
  · rw [ite_t h5419] at h; refine Rn.t h5419 ?_;refine Run.exit ?_;refine Rn.c (mkE [(1,(V.int .u8 x1)),(4,(V.bool false))] 41) ?_;exact w84_j1 h hp
  · rw [ite_f h5419] at h; refine Rn.f h5419 ?_;refine Run.skip ?_;refine Rn.c (mkE [] 48) ?_;exact w84_j2 h hp
def F84_j4 (x1 : Int) : Option (Int × Bool) :=
  F84_j1 x1 ((x1 != (5 : Int)))
theorem w84_j4 {x1 : Int} {r : (Int × Bool)} (h : F84_j4 x1 = some r) {H : Heap} {L : List Ob} (hp : HP H (L)) :
    Run T i84n77 (mkE [(1,(V.int .u8 x1))] 46) H (blk 4 (thn T (.clr [13,14,15,16,17,18,19,20,21,22,23,24,25,26,27,28,29,30,31,32,33,34,35,36,37,38,39,40,41,42] i84n82) (blk 5 (thn T (.clr [1,6,13,14,15,16,17,18,19,20,21,22,23,24,25,26,27,28,29,30,31,32,33,34,35,36,37,38,39,40,41,42,43,44] i84n87) (blk 0 (thn T (.clr [0,4,5,13,14,15,16,17,18,19,20,21,22,23,24,25,26,27,28,29,30,31,32,33,34,35,36,37,38,39,40,41,42,43,44] i84n98) (finE none [4,5] (Q84 L r)))))))) := by
  unfold F84_j4 at h;refine Rn.g ?_;refine Ro.t 3 ?_;refine Ro.d (mkE [(1,(V.int .u8 x1)),(4,(V.bool (x1 != (5 : Int))))] 41) ?_;refine Run.exit ?_;refine Rn.c (mkE [(1,(V.int .u8 x1)),(4,(V.bool (x1 != (5 : Int))))] 41) ?_;exact w84_j1 h hp
def F84_j5 (x1 : Int) : Option (Int × Bool) :=
  (F92 x1).bind fun y5626 =>
  F84_j1 x1 (y5626)
theorem w84_j5 {x1 : Int} {r : (Int × Bool)} (h : F84_j5 x1 = some r) {H : Heap} {L : List Ob} (hp : HP H (L)) :
    Run T i84n73 (mkE [(1,(V.int .u8 x1))] 46) H (blk 3 (thn T (.clr [6,13,14,15,16,17,18,19,20,21,22,23,24,25,26,27,28,29,30,31,32,33,34,35,36,37,38,39,40] i84n77) (blk 4 (thn T (.clr [13,14,15,16,17,18,19,20,21,22,23,24,25,26,27,28,29,30,31,32,33,34,35,36,37,38,39,40,41,42] i84n82) (blk 5 (thn T (.clr [1,6,13,14,15,16,17,18,19,20,21,22,23,24,25,26,27,28,29,30,31,32,33,34,35,36,37,38,39,40,41,42,43,44] i84n87) (blk 0 (thn T (.clr [0,4,5,13,14,15,16,17,18,19,20,21,22,23,24,25,26,27,28,29,30,31,32,33,34,35,36,37,38,39,40,41,42,43,44] i84n98) (finE none [4,5] (Q84 L r)))))))))) := by
  unfold F84_j5 at h;refine Rn.g ?_;refine Ro.t 1 ?_;obtain ⟨y5626,h5627,h⟩ := bind_some h;refine RunO.c1 (by kernel_rfl) (by kernel_rfl) (c92 h5627 _) ?_;refine Ro.t 1 ?_;refine Ro.d (mkE [(1,(V.int .u8 x1)),(4,(V.bool y5626))] 41) ?_;refine Run.exit ?_;refine Rn.c (mkE [(1,(V.int .u8 x1)),(4,(V.bool y5626))] 41) ?_;exact w84_j1 h hp
def F84_j6 (x1 : Int) : Option (Int × Bool) :=
  F84_j1 x1 ((x1 != (1 : Int)))
theorem w84_j6 {x1 : Int} {r : (Int × Bool)} (h : F84_j6 x1 = some r) {H : Heap} {L : List Ob} (hp : HP H (L)) :
    Run T i84n69 (mkE [(1,(V.int .u8 x1))] 46) H (blk 2 (thn T (.clr [6,13,14,15,16,17,18,19,20,21,22,23,24,25,26,27,28,29,30,31,32,33,34,35,36,37,38] i84n73) (blk 3 (thn T (.clr [6,13,14,15,16,17,18,19,20,21,22,23,24,25,26,27,28,29,30,31,32,33,34,35,36,37,38,39,40] i84n77) (blk 4 (thn T (.clr [13,14,15,16,17,18,19,20,21,22,23,24,25,26,27,28,29,30,31,32,33,34,35,36,37,38,39,40,41,42] i84n82) (blk 5 (thn T (.clr [1,6,13,14,15,16,17,18,19,20,21,22,23,24,25,26,27,28,29,30,31,32,33,34,35,36,37,38,39,40,41,42,43,44] i84n87) (blk 0 (thn T (.clr [0,4,5,13,14,15,16,17,18,19,20,21,22,23,24,25,26,27,28,29,30,31,32,33,34,35,36,37,38,39,40,41,42,43,44] i84n98) (finE none [4,5] (Q84 L r)))))))))))) := by
  unfold F84_j6 at h;refine Rn.g ?_;refine Ro.t 3 ?_;refine Ro.d (mkE [(1,(V.int .u8 x1)),(4,(V.bool (x1 != (1 : Int))))] 41) ?_;refine Run.exit ?_;refine Rn.c (mkE [(1,(V.int .u8 x1)),(4,(V.bool (x1 != (1 : Int))))] 41) ?_;exact w84_j1 h hp
def F84 (x0 : Int) (x1 : Int) : Option (Int × Bool) :=
  if (decide (x1 < (1 : Int))) then
    some ((0 : Int),false)
  else
    if (decide (x1 > (5 : Int))) then
      some ((0 : Int),false)
    else
      if (x0 == (1 : Int)) then
        F84_j6 x1
      else
        if (x0 == (2 : Int)) then
          F84_j6 x1
        else
          if (x0 == (3 : Int)) then
            F84_j6 x1
          else
            if (x0 == (4 : Int)) then
              F84_j6 x1
            else
              if (x0 == (17 : Int)) then
                F84_j6 x1
              else
                if (x0 == (5 : Int)) then
                  F84_j5 x1
                else
                  if (x0 == (9 : Int)) then
                    F84_j5 x1
                  else
                    if (x0 == (10 : Int)) then
                      F84_j5 x1
                    else
                      if (x0 == (6 : Int)) then
                        F84_j4 x1
                      else
                        if (x0 == (7 : Int)) then
                          F84_j4 x1
                        else
                          if (x0 == (8 : Int)) then
                            F84_j4 x1
                          else
                            if (x0 == (18 : Int)) then
                              F84_j4 x1
                            else
                              if (x0 == (13 : Int)) then
                                F84_j3 x1
                              else
                                if (x0 == (14 : Int)) then
                                  F84_j3 x1
                                else
                                  if (x0 == (15 : Int)) then
                                    F84_j3 x1
                                  else
                                    if (x0 == (16 : Int)) then
                                      F84_j3 x1
                                    else
                                      if (x0 == (11 : Int)) then
                                        F84_j2
                                      else
                                        if (x0 == (12 : Int)) then
                                          F84_j2
                                        else
                                          F84_j1 x1 (false)
theorem w84 {x0 : Int} {x1 : Int} {r : (Int × Bool)} (h : F84 x0 x1 = some r) {H : Heap} {L : List Ob} (hp : HP H (L)) : Fn T 84 [(V.int .u8 x0),(V.int .u8 x1)] H (Q84 L r) := by
  refine Fn.enterE t84 (e0 := (mkE [(0,(V.int .u8 x0)),(0,(V.int .u8 x1))] 46)) (by kernel_rfl) ?_;show Run T (.clr [] i84n102) _ _ (finE none [4,5] (Q84 L r));refine Rn.k (mkE [(0,(V.int .u8 x0)),(0,(V.int .u8 x1))] 46) ?_;unfold F84 at h;refine Rn.g ?_;refine Ro.t 2 ?_;refine Ro.d (mkE [(0,(V.int .u8 x0)),(0,(V.int .u8 x1))] 46) ?_;refine Run.seq ?_;refine Rn.g ?_;refine Ro.t 1 ?_;rcases tf (decide (x1 < (1 : Int))) with h3479 | h3479
  · rw [ite_t h3479] at h; refine Ro.p (bool_of h3479) ?_;refine Ro.t 4 ?_;refine Ro.d (mkE [(0,(V.int .u8 x0)),(0,(V.int .u8 x1)),(10,(V.bool true))] 35) ?_;refine Run.condT (by kernel_rfl) ?_;refine Rn.g ?_;refine Ro.t 2 ?_;refine Ro.d (mkE [(4,(V.int .u8 (0 : Int))),(0,(V.bool false))] 42) ?_;refine Run.ret ?_;obtain rfl := Option.some.inj h;exact ⟨(V.tup [(V.int .u8 (0 : Int)),(V.bool false)]),(by kernel_rfl),(by kernel_rfl),hp⟩
  · rw [ite_f h3479] at h; refine Ro.p (bool_of h3479) ?_;refine Ro.t 4 ?_;refine Ro.d (mkE [(0,(V.int .u8 x0)),(0,(V.int .u8 x1)),(10,(V.bool (decide (x1 > (5 : Int)))))] 35) ?_;rcases tf (decide (x1 > (5 : Int))) with h3480 | h3480
    · rw [ite_t h3480] at h; refine Rn.t h3480 ?_;refine Rn.g ?_;refine Ro.t 2 ?_;refine Ro.d (mkE [(4,(V.int .u8 (0 : Int))),(0,(V.bool false))] 42) ?_;refine Run.ret ?_;obtain rfl := Option.some.inj h;exact ⟨(V.tup [(V.int .u8 (0 : Int)),(V.bool false)]),(by kernel_rfl),(by kernel_rfl),hp⟩
    · rw [ite_f h3480] at h; refine Rn.f h3480 ?_;refine Run.skip ?_;refine Rn.c (mkE [(0,(V.int .u8 x0)),(0,(V.int .u8 x1))] 46) ?_;refine Rn.g ?_;refine Ro.t 1 ?_;refine Ro.d (mkE [(0,(V.int .u8 x0)),(0,(V.int .u8 x1)),(4,(V.bool false))] 41) ?_;refine Run.seq ?_;refine Rn.g ?_;refine Ro.t 1 ?_;refine Ro.d (mkE [(1,(V.int .u8 x1)),(4,(V.bool false)),(6,(V.int .u8 x0))] 34) ?_;refine Run.block ?_;refine Run.seq ?_;refine Run.block ?_;refine Run.seq ?_;refine Run.block ?_;refine Run.seq ?_;refine Run.block ?_;refine Run.seq ?_;refine Run.block ?_;refine Run.seq ?_;refine Run.block ?_;refine Run.seq ?_;refine Run.seq ?_;refine Run.seq ?_;refine Rn.g ?_;refine Ro.t 2 ?_;refine Ro.d (mkE [(1,(V.int .u8 x1)),(4,(V.bool false)),(6,(V.int .u8 x0)),(0,(V.bool (x0 == (1 : Int))))] 33) ?_;rcases tf (x0 == (1 : Int)) with h5667 | h5667
      · rw [ite_t h5667] at h; refine Rn.t h5667 ?_;refine Run.skip ?_;refine Rn.c (mkE [(1,(V.int .u8 x1)),(4,(V.bool false)),(6,(V.int .u8 x0)),(0,(V.bool (x0 == (1 : Int))))] 33) ?_;refine Run.cond (t := true) (by rw [← h5667]; kernel_rfl) ?_;refine Run.exit ?_;refine Rn.c (mkE [(1,(V.int .u8 x1))] 46) ?_;exact w84_j6 h hp
      · rw [ite_f h5667] at h; refine Rn.f h5667 ?_;refine Rn.g ?_;refine Ro.t 2 ?_;refine Ro.d (mkE [(1,(V.int .u8 x1)),(4,(V.bool false)),(6,(V.int .u8 x0)),(0,(V.bool (x0 == (2 : Int))))] 33) ?_;rcases tf (x0 == (2 : Int)) with h5668 | h5668
        · rw [ite_t h5668] at h; refine Rn.t h5668 ?_;refine Run.skip ?_;refine Rn.c (mkE [(1,(V.int .u8 x1)),(4,(V.bool false)),(6,(V.int .u8 x0)),(0,(V.bool (x0 == (2 : Int))))] 33) ?_;refine Run.cond (t := true) (by rw [← h5668]; kernel_rfl) ?_;refine Run.exit ?_;refine Rn.c (mkE [(1,(V.int .u8 x1))] 46) ?_;exact w84_j6 h hp
        · rw [ite_f h5668] at h; refine Rn.f h5668 ?_;refine Rn.g ?_;refine Ro.t 2 ?_;refine Ro.d (mkE [(1,(V.int .u8 x1)),(4,(V.bool false)),(6,(V.int .u8 x0)),(0,(V.bool (x0 == (3 : Int))))] 33) ?_;rcases tf (x0 == (3 : Int)) with h5669 | h5669
          · rw [ite_t h5669] at h; refine Rn.t h5669 ?_;refine Run.skip ?_;refine Rn.c (mkE [(1,(V.int .u8 x1)),(4,(V.bool false)),(6,(V.int .u8 x0)),(0,(V.bool (x0 == (3 : Int))))] 33) ?_;refine Run.cond (t := true) (by rw [← h5669]; kernel_rfl) ?_;refine Run.exit ?_;refine Rn.c (mkE [(1,(V.int .u8 x1))] 46) ?_;exact w84_j6 h hp
          · rw [ite_f h5669] at h; refine Rn.f h5669 ?_;refine Rn.g ?_;refine Ro.t 2 ?_;refine Ro.d (mkE [(1,(V.int .u8 x1)),(4,(V.bool false)),(6,(V.int .u8 x0)),(0,(V.bool (x0 == (4 : Int))))] 33) ?_;rcases tf (x0 == (4 : Int)) with h5670 | h5670
            · rw [ite_t h5670] at h; refine Rn.t h5670 ?_;refine Run.skip ?_;refine Rn.c (mkE [(1,(V.int .u8 x1)),(4,(V.bool false)),(6,(V.int .u8 x0)),(0,(V.bool (x0 == (4 : Int))))] 33) ?_;refine Run.cond (t := true) (by rw [← h5670]; kernel_rfl) ?_;refine Run.exit ?_;refine Rn.c (mkE [(1,(V.int .u8 x1))] 46) ?_;exact w84_j6 h hp
            · rw [ite_f h5670] at h; refine Rn.f h5670 ?_;refine Run.rgn ?_;refine Ro.t 2 ?_;refine Ro.d (mkE [(1,(V.int .u8 x1)),(4,(V.bool false)),(6,(V.int .u8 x0)),(0,(V.bool (x0 == (17 : Int))))] 33) ?_;rcases tf (x0 == (17 : Int)) with h5671 | h5671
              · rw [ite_t h5671] at h; refine Rn.t h5671 ?_;refine Run.exit ?_;refine Rn.c (mkE [(1,(V.int .u8 x1))] 46) ?_;exact w84_j6 h hp
              · rw [ite_f h5671] at h; refine Rn.f h5671 ?_;refine Run.skip ?_;refine Rn.c (mkE [(1,(V.int .u8 x1)),(4,(V.bool false)),(6,(V.int .u8 x0))] 34) ?_;refine Run.seq ?_;refine Run.seq ?_;refine Rn.g ?_;refine Ro.t 2 ?_;refine Ro.d (mkE [(1,(V.int .u8 x1)),(4,(V.bool false)),(6,(V.int .u8 x0)),(6,(V.bool (x0 == (5 : Int))))] 27) ?_;rcases tf (x0 == (5 : Int)) with h5675 | h5675
                · rw [ite_t h5675] at h; refine Rn.t h5675 ?_;refine Run.skip ?_;refine Rn.c (mkE [(1,(V.int .u8 x1)),(4,(V.bool false)),(6,(V.int .u8 x0)),(6,(V.bool (x0 == (5 : Int))))] 27) ?_;refine Run.cond (t := true) (by rw [← h5675]; kernel_rfl) ?_;refine Run.exit ?_;refine Rn.c (mkE [(1,(V.int .u8 x1))] 46) ?_;exact w84_j5 h hp
                · rw [ite_f h5675] at h; refine Rn.f h5675 ?_;refine Rn.g ?_;refine Ro.t 2 ?_;refine Ro.d (mkE [(1,(V.int .u8 x1)),(4,(V.bool false)),(6,(V.int .u8 x0)),(6,(V.bool (x0 == (9 : Int))))] 27) ?_;rcases tf (x0 == (9 : Int)) with h5676 | h5676
                  · rw [ite_t h5676] at h; refine Rn.t h5676 ?_;refine Run.skip ?_;refine Rn.c (mkE [(1,(V.int .u8 x1)),(4,(V.bool false)),(6,(V.int .u8 x0)),(6,(V.bool (x0 == (9 : Int))))] 27) ?_;refine Run.cond (t := true) (by rw [← h5676]; kernel_rfl) ?_;refine Run.exit ?_;refine Rn.c (mkE [(1,(V.int .u8 x1))] 46) ?_;exact w84_j5 h hp
                  · rw [ite_f h5676] at h; refine Rn.f h5676 ?_;refine Run.rgn ?_;refine Ro.t 2 ?_;refine Ro.d (mkE [(1,(V.int .u8 x1)),(4,(V.bool false)),(6,(V.int .u8 x0)),(6,(V.bool (x0 == (10 : Int))))] 27) ?_;rcases tf (x0 == (10 : Int)) with h5677 | h5677
                    · rw [ite_t h5677] at h; refine Rn.t h5677 ?_;refine Run.exit ?_;refine Rn.c (mkE [(1,(V.int .u8 x1))] 46) ?_;exact w84_j5 h hp
                    · rw [ite_f h5677] at h; refine Rn.f h5677 ?_;refine Run.skip ?_;refine Rn.c (mkE [(1,(V.int .u8 x1)),(4,(V.bool false)),(6,(V.int .u8 x0))] 34) ?_;refine Run.seq ?_;refine Run.seq ?_;refine Rn.g ?_;refine Ro.t 2 ?_;refine Ro.d (mkE [(1,(V.int .u8 x1)),(4,(V.bool false)),(6,(V.int .u8 x0)),(10,(V.bool (x0 == (6 : Int))))] 23) ?_;rcases tf (x0 == (6 : Int)) with h5682 | h5682
                      · rw [ite_t h5682] at h; refine Rn.t h5682 ?_;refine Run.skip ?_;refine Rn.c (mkE [(1,(V.int .u8 x1)),(4,(V.bool false)),(6,(V.int .u8 x0)),(10,(V.bool (x0 == (6 : Int))))] 23) ?_;refine Run.cond (t := true) (by rw [← h5682]; kernel_rfl) ?_;refine Run.exit ?_;refine Rn.c (mkE [(1,(V.int .u8 x1))] 46) ?_;exact w84_j4 h hp
                      · rw [ite_f h5682] at h; refine Rn.f h5682 ?_;refine Rn.g ?_;refine Ro.t 2 ?_;refine Ro.d (mkE [(1,(V.int .u8 x1)),(4,(V.bool false)),(6,(V.int .u8 x0)),(10,(V.bool (x0 == (7 : Int))))] 23) ?_;rcases tf (x0 == (7 : Int)) with h5683 | h5683
                        · rw [ite_t h5683] at h; refine Rn.t h5683 ?_;refine Run.skip ?_;refine Rn.c (mkE [(1,(V.int .u8 x1)),(4,(V.bool false)),(6,(V.int .u8 x0)),(10,(V.bool (x0 == (7 : Int))))] 23) ?_;refine Run.cond (t := true) (by rw [← h5683]; kernel_rfl) ?_;refine Run.exit ?_;refine Rn.c (mkE [(1,(V.int .u8 x1))] 46) ?_;exact w84_j4 h hp
                        · rw [ite_f h5683] at h; refine Rn.f h5683 ?_;refine Rn.g ?_;refine Ro.t 2 ?_;refine Ro.d (mkE [(1,(V.int .u8 x1)),(4,(V.bool false)),(6,(V.int .u8 x0)),(10,(V.bool (x0 == (8 : Int))))] 23) ?_;rcases tf (x0 == (8 : Int)) with h5684 | h5684
                          · rw [ite_t h5684] at h; refine Rn.t h5684 ?_;refine Run.skip ?_;refine Rn.c (mkE [(1,(V.int .u8 x1)),(4,(V.bool false)),(6,(V.int .u8 x0)),(10,(V.bool (x0 == (8 : Int))))] 23) ?_;refine Run.cond (t := true) (by rw [← h5684]; kernel_rfl) ?_;refine Run.exit ?_;refine Rn.c (mkE [(1,(V.int .u8 x1))] 46) ?_;exact w84_j4 h hp
                          · rw [ite_f h5684] at h; refine Rn.f h5684 ?_;refine Run.rgn ?_;refine Ro.t 2 ?_;refine Ro.d (mkE [(1,(V.int .u8 x1)),(4,(V.bool false)),(6,(V.int .u8 x0)),(10,(V.bool (x0 == (18 : Int))))] 23) ?_;rcases tf (x0 == (18 : Int)) with h5685 | h5685
                            · rw [ite_t h5685] at h; refine Rn.t h5685 ?_;refine Run.exit ?_;refine Rn.c (mkE [(1,(V.int .u8 x1))] 46) ?_;exact w84_j4 h hp
                            · rw [ite_f h5685] at h; refine Rn.f h5685 ?_;refine Run.skip ?_;refine Rn.c (mkE [(1,(V.int .u8 x1)),(4,(V.bool false)),(6,(V.int .u8 x0))] 34) ?_;refine Run.seq ?_;refine Run.seq ?_;refine Rn.g ?_;refine Ro.t 2 ?_;refine Ro.d (mkE [(1,(V.int .u8 x1)),(4,(V.bool false)),(6,(V.int .u8 x0)),(15,(V.bool (x0 == (13 : Int))))] 18) ?_;rcases tf (x0 == (13 : Int)) with h5690 | h5690
                              · rw [ite_t h5690] at h; refine Rn.t h5690 ?_;refine Run.skip ?_;refine Rn.c (mkE [(1,(V.int .u8 x1)),(4,(V.bool false)),(6,(V.int .u8 x0)),(15,(V.bool (x0 == (13 : Int))))] 18) ?_;refine Run.cond (t := true) (by rw [← h5690]; kernel_rfl) ?_;refine Run.exit ?_;refine Rn.c (mkE [(1,(V.int .u8 x1)),(4,(V.bool false))] 41) ?_;exact w84_j3 h hp
                              · rw [ite_f h5690] at h; refine Rn.f h5690 ?_;refine Rn.g ?_;refine Ro.t 2 ?_;refine Ro.d (mkE [(1,(V.int .u8 x1)),(4,(V.bool false)),(6,(V.int .u8 x0)),(15,(V.bool (x0 == (14 : Int))))] 18) ?_;rcases tf (x0 == (14 : Int)) with h5691 | h5691
                                · rw [ite_t h5691] at h; refine Rn.t h5691 ?_;refine Run.skip ?_;refine Rn.c (mkE [(1,(V.int .u8 x1)),(4,(V.bool false)),(6,(V.int .u8 x0)),(15,(V.bool (x0 == (14 : Int))))] 18) ?_;refine Run.cond (t := true) (by rw [← h5691]; kernel_rfl) ?_;refine Run.exit ?_;refine Rn.c (mkE [(1,(V.int .u8 x1)),(4,(V.bool false))] 41) ?_;exact w84_j3 h hp
                                · rw [ite_f h5691] at h; refine Rn.f h5691 ?_;refine Rn.g ?_;refine Ro.t 2 ?_;refine Ro.d (mkE [(1,(V.int .u8 x1)),(4,(V.bool false)),(6,(V.int .u8 x0)),(15,(V.bool (x0 == (15 : Int))))] 18) ?_;rcases tf (x0 == (15 : Int)) with h5692 | h5692
                                  · rw [ite_t h5692] at h; refine Rn.t h5692 ?_;refine Run.skip ?_;refine Rn.c (mkE [(1,(V.int .u8 x1)),(4,(V.bool false)),(6,(V.int .u8 x0)),(15,(V.bool (x0 == (15 : Int))))] 18) ?_;refine Run.cond (t := true) (by rw [← h5692]; kernel_rfl) ?_;refine Run.exit ?_;refine Rn.c (mkE [(1,(V.int .u8 x1)),(4,(V.bool false))] 41) ?_;exact w84_j3 h hp
                                  · rw [ite_f h5692] at h; refine Rn.f h5692 ?_;refine Run.rgn ?_;refine Ro.t 2 ?_;refine Ro.d (mkE [(1,(V.int .u8 x1)),(4,(V.bool false)),(6,(V.int .u8 x0)),(15,(V.bool (x0 == (16 : Int))))] 18) ?_;rcases tf (x0 == (16 : Int)) with h5693 | h5693
                                    · rw [ite_t h5693] at h; refine Rn.t h5693 ?_;refine Run.exit ?_;refine Rn.c (mkE [(1,(V.int .u8 x1)),(4,(V.bool false))] 41) ?_;exact w84_j3 h hp
                                    · rw [ite_f h5693] at h; refine Rn.f h5693 ?_;refine Run.skip ?_;refine Rn.c (mkE [(1,(V.int .u8 x1)),(4,(V.bool false)),(6,(V.int .u8 x0))] 34) ?_;refine Run.seq ?_;refine Rn.g ?_;refine Ro.t 2 ?_;refine Ro.d (mkE [(1,(V.int .u8 x1)),(4,(V.bool false)),(6,(V.int .u8 x0)),(20,(V.bool (x0 == (11 : Int))))] 13) ?_;rcases tf (x0 == (11 : Int)) with h5694 | h5694
                                      · rw [ite_t h5694] at h; refine Rn.t h5694 ?_;refine Run.skip ?_;refine Rn.c (mkE [(1,(V.int .u8 x1)),(4,(V.bool false)),(27,(V.bool (x0 == (11 : Int))))] 13) ?_;refine Run.cond (t := true) (by rw [← h5694]; kernel_rfl) ?_;refine Run.exit ?_;refine Rn.c (mkE [] 48) ?_;exact w84_j2 h hp
                                      · rw [ite_f h5694] at h; refine Rn.f h5694 ?_;refine Run.rgn ?_;refine Ro.t 2 ?_;refine Ro.d (mkE [(1,(V.int .u8 x1)),(4,(V.bool false)),(27,(V.bool (x0 == (12 : Int))))] 13) ?_;rcases tf (x0 == (12 : Int)) with h5695 | h5695
                                        · rw [ite_t h5695] at h; refine Rn.t h5695 ?_;refine Run.exit ?_;refine Rn.c (mkE [] 48) ?_;exact w84_j2 h hp
                                        · rw [ite_f h5695] at h; refine Rn.f h5695 ?_;refine Run.skip ?_;refine Run.clrE (ts := [13,14,15,16,17,18,19,20,21,22,23,24,25,26,27,28,29,30,31,32,33,34,35,36]) (b := (.exit 0)) (Q := (blk 1 (thn T (.clr [6,13,14,15,16,17,18,19,20,21,22,23,24,25,26,27,28,29,30,31,32,33,34,35,36] i84n69) (blk 2 (thn T (.clr [6,13,14,15,16,17,18,19,20,21,22,23,24,25,26,27,28,29,30,31,32,33,34,35,36,37,38] i84n73) (blk 3 (thn T (.clr [6,13,14,15,16,17,18,19,20,21,22,23,24,25,26,27,28,29,30,31,32,33,34,35,36,37,38,39,40] i84n77) (blk 4 (thn T (.clr [13,14,15,16,17,18,19,20,21,22,23,24,25,26,27,28,29,30,31,32,33,34,35,36,37,38,39,40,41,42] i84n82) (blk 5 (thn T (.clr [1,6,13,14,15,16,17,18,19,20,21,22,23,24,25,26,27,28,29,30,31,32,33,34,35,36,37,38,39,40,41,42,43,44] i84n87) (blk 0 (thn T (.clr [0,4,5,13,14,15,16,17,18,19,20,21,22,23,24,25,26,27,28,29,30,31,32,33,34,35,36,37,38,39,40,41,42,43,44] i84n98) (finE none [4,5] (Q84 L r))))))))))))))) (e' := (mkE [(1,(V.int .u8 x1)),(4,(V.bool false))] 41)) (by kernel_rfl) ?_;refine Run.exit ?_;refine Rn.c (mkE [(1,(V.int .u8 x1)),(4,(V.bool false))] 41) ?_;exact w84_j1 h hp
theorem c84 {x0 : Int} {x1 : Int} {r : (Int × Bool)} (h : F84 x0 x1 = some r) (s : Bool) : Fn T 84 [(V.int .u8 x0),(V.int .u8 x1)] [] (fun v hh => deep s hh deepN v = some (.tup [(EI .u8).e r.1,EB.e r.2])) := by
  refine (w84 h HP.nil).mono ?_;rintro v hh ⟨rfl,hp⟩;exact congrArg (Option.map V.tup) (omapc ((EI .u8).hd s hh 37 _ (.inr rfl)) (omapc (EB.hd s hh 37 _ (.inr rfl)) omapn))
abbrev Q75 (L : List Ob) (r : Bool) : V → Heap → Prop := fun v h => v = EB.e r ∧ HP h (L)
def F75 (x0 : Int) : Option Bool :=
  if (x0 == (17 : Int)) then
    some true
  else
    some (x0 == (18 : Int))
theorem w75 {x0 : Int} {r : Bool} (h : F75 x0 = some r) {H : Heap} {L : List Ob} (hp : HP H (L)) : Fn T 75 [(V.int .u8 x0)] H (Q75 L r) := by
  refine Fn.enterE t75 (e0 := (mkE [(0,(V.int .u8 x0))] 8)) (by kernel_rfl) ?_;show Run T (.clr [] i75n3) _ _ (finE none [2] (Q75 L r));refine Rn.k (mkE [(0,(V.int .u8 x0))] 8) ?_;unfold F75 at h;refine Rn.g ?_;refine Ro.t 1 ?_;refine Ro.d (mkE [(0,(V.int .u8 x0))] 8) ?_;refine Rn.g ?_;refine Ro.t 1 ?_;rcases tf (x0 == (17 : Int)) with h5706 | h5706
  · rw [ite_t h5706] at h; refine Ro.p (bool_of h5706) ?_;refine Ro.t 5 ?_;refine Ro.d (mkE [(2,(V.bool true))] 6) ?_;refine Run.ret ?_;obtain rfl := Option.some.inj h;exact ⟨(V.bool true),(by kernel_rfl),(by kernel_rfl),hp⟩
  · rw [ite_f h5706] at h; refine Ro.p (bool_of h5706) ?_;refine Ro.t 5 ?_;refine Ro.d (mkE [(2,(V.bool (x0 == (18 : Int))))] 6) ?_;refine Run.ret ?_;obtain rfl := Option.some.inj h;exact ⟨(V.bool (x0 == (18 : Int))),(by kernel_rfl),(by kernel_rfl),hp⟩
theorem c75 {x0 : Int} {r : Bool} (h : F75 x0 = some r) (s : Bool) : Fn T 75 [(V.int .u8 x0)] [] (fun v hh => deep s hh deepN v = some (EB.e r)) := by
  refine (w75 h HP.nil).mono ?_;rintro v hh ⟨rfl,hp⟩;exact EB.hd s hh 38 _ (.inr rfl)
abbrev Q93 (L : List Ob) (r : Bool) : V → Heap → Prop := fun v h => v = EB.e r ∧ HP h (L)
def F93 (x0 : Int) (x1 : Int) : Option Bool :=
  if (decide (x1 ≥ (0 : Int))) then
    some (decide (x1 < x0))
  else
    some false
theorem w93 {x0 : Int} {x1 : Int} {r : Bool} (h : F93 x0 x1 = some r) {H : Heap} {L : List Ob} (hp : HP H (L)) : Fn T 93 [(vI x0),(V.fp (vI x1))] H (Q93 L r) := by
  refine Fn.enterE t93 (e0 := (mkE [(0,(vI x0)),(0,(V.fp (vI x1)))] 9)) (by kernel_rfl) ?_;show Run T (.clr [] i93n3) _ _ (finE none [3] (Q93 L r));refine Rn.k (mkE [(0,(vI x0)),(0,(V.fp (vI x1)))] 9) ?_;unfold F93 at h;refine Rn.g ?_;refine Ro.t 1 ?_;refine Ro.d (mkE [(0,(vI x0)),(0,(V.fp (vI x1)))] 9) ?_;refine Rn.g ?_;refine Ro.t 1 ?_;rcases tf (decide (x1 ≥ (0 : Int))) with h5714 | h5714
  · rw [ite_t h5714] at h; refine Ro.p (bool_of h5714) ?_;refine Ro.t 6 ?_;refine Ro.d (mkE [(3,(V.bool (decide (x1 < x0))))] 7) ?_;refine Run.ret ?_;obtain rfl := Option.some.inj h;exact ⟨(V.bool (decide (x1 < x0))),(by kernel_rfl),(by kernel_rfl),hp⟩
  · rw [ite_f h5714] at h; refine Ro.p (bool_of h5714) ?_;refine Ro.t 6 ?_;refine Ro.d (mkE [(3,(V.bool false))] 7) ?_;refine Run.ret ?_;obtain rfl := Option.some.inj h;exact ⟨(V.bool false),(by kernel_rfl),(by kernel_rfl),hp⟩
abbrev Q85 (L : List Ob) (r : Bool) : V → Heap → Prop := fun v h => v = EB.e r ∧ HP h (L)
def F85 (x0 : Int) (x1 : Int) (x2 : T_Code) (x3 : T_Unit) (x4 : Int) : Option Bool :=
  if (x0 == (0 : Int)) then
    some (x1 == (0 : Int))
  else
    if (x0 == (7 : Int)) then
      (F75 x2.fOp).bind fun y5789 =>
      if y5789 then
        some (x1 == (0 : Int))
      else
        (F93 (8 : Int) x1).bind fun y5792 =>
        some y5792
    else
      if (x0 == (1 : Int)) then
        (F93 (8 : Int) x1).bind fun y5795 =>
        some y5795
      else
        if (x0 == (2 : Int)) then
          (F93 x3.fFrame x1).bind fun y5798 =>
          some y5798
        else
          if (x0 == (3 : Int)) then
            (F93 ((List.length x3.fCode : Nat) : Int) x1).bind fun y5801 =>
            some y5801
          else
            if (x0 == (4 : Int)) then
              (F93 ((List.length x3.fParams : Nat) : Int) x1).bind fun y5804 =>
              some y5804
            else
              if (x0 == (5 : Int)) then
                (F93 (8 : Int) x1).bind fun y5807 =>
                some y5807
              else
                (F93 x4 x1).bind fun y5809 =>
                some y5809
theorem w85 {x0 : Int} {x1 : Int} {x2 : T_Code} {x3 : T_Unit} {x4 : Int} {r : Bool} (h : F85 x0 x1 x2 x3 x4 = some r) {H : Heap} {L : List Ob} (hp : HP H (L)) : Fn T 85 [(V.int .u8 x0),(vI x1),(E_Code.e x2),(V.fp (E_Unit.e x3)),(vI x4)] H (Q85 L r) := by
  refine Fn.enterE t85 (e0 := (mkE [(0,(V.int .u8 x0)),(0,(vI x1)),(0,(E_Code.e x2)),(0,(V.fp (E_Unit.e x3))),(0,(vI x4))] 59)) (by kernel_rfl) ?_;show Run T (.clr [] i85n50) _ _ (finE none [10] (Q85 L r));refine Rn.k (mkE [(0,(V.int .u8 x0)),(0,(vI x1)),(0,(E_Code.e x2)),(0,(V.fp (E_Unit.e x3))),(0,(vI x4))] 59) ?_;unfold F85 at h;refine Rn.g ?_;refine Ro.t 3 ?_;refine Ro.d (mkE [(0,(V.int .u8 x0)),(2,(V.fp (E_Unit.e x3))),(0,(vI x4)),(1,(V.fp (vI x1))),(0,(V.fp (E_Code.e x2)))] 56) ?_;refine Rn.g ?_;refine Ro.t 2 ?_;refine Ro.d (mkE [(0,(V.int .u8 x0)),(2,(V.fp (E_Unit.e x3))),(0,(vI x4)),(1,(V.fp (vI x1))),(0,(V.fp (E_Code.e x2))),(3,(V.fn 93 [(V.fp (vI x1))]))] 52) ?_;refine Run.seq ?_;refine Rn.g ?_;refine Ro.t 1 ?_;refine Ro.d (mkE [(3,(V.fp (E_Unit.e x3))),(0,(vI x4)),(1,(V.fp (vI x1))),(0,(V.fp (E_Code.e x2))),(3,(V.fn 93 [(V.fp (vI x1))])),(1,(V.int .u8 x0))] 50) ?_;refine Run.block ?_;refine Rn.g ?_;refine Ro.t 2 ?_;refine Ro.d (mkE [(3,(V.fp (E_Unit.e x3))),(0,(vI x4)),(1,(V.fp (vI x1))),(0,(V.fp (E_Code.e x2))),(3,(V.fn 93 [(V.fp (vI x1))])),(1,(V.int .u8 x0)),(0,(V.bool (x0 == (0 : Int))))] 49) ?_;rcases tf (x0 == (0 : Int)) with h5784 | h5784
  · rw [ite_t h5784] at h; refine Rn.t h5784 ?_;refine Rn.g ?_;refine Ro.t 3 ?_;refine Ro.d (mkE [(10,(V.bool (x1 == (0 : Int))))] 53) ?_;refine Run.ret ?_;obtain rfl := Option.some.inj h;exact ⟨(V.bool (x1 == (0 : Int))),(by kernel_rfl),(by kernel_rfl),hp⟩
  · rw [ite_f h5784] at h; refine Rn.f h5784 ?_;refine Rn.g ?_;refine Ro.t 2 ?_;refine Ro.d (mkE [(3,(V.fp (E_Unit.e x3))),(0,(vI x4)),(1,(V.fp (vI x1))),(0,(V.fp (E_Code.e x2))),(3,(V.fn 93 [(V.fp (vI x1))])),(1,(V.int .u8 x0)),(4,(V.bool (x0 == (7 : Int))))] 45) ?_;rcases tf (x0 == (7 : Int)) with h5785 | h5785
    · rw [ite_t h5785] at h; refine Rn.t h5785 ?_;refine Run.seq ?_;refine Rn.g ?_;refine Ro.t 2 ?_;obtain ⟨y5789,h5790,h⟩ := bind_some h;refine RunO.c1 (by kernel_rfl) (by kernel_rfl) (c75 h5790 _) ?_;refine Ro.d (mkE [(6,(V.fp (vI x1))),(4,(V.fn 93 [(V.fp (vI x1))])),(10,(V.bool y5789))] 41) ?_;rcases tf y5789 with h5791 | h5791
      · rw [ite_t h5791] at h; refine Rn.t h5791 ?_;refine Rn.g ?_;refine Ro.t 3 ?_;refine Ro.d (mkE [(10,(V.bool (x1 == (0 : Int))))] 53) ?_;refine Run.ret ?_;obtain rfl := Option.some.inj h;exact ⟨(V.bool (x1 == (0 : Int))),(by kernel_rfl),(by kernel_rfl),hp⟩
      · rw [ite_f h5791] at h; refine Rn.f h5791 ?_;refine Run.skip ?_;refine Rn.c (mkE [(11,(V.fn 93 [(V.fp (vI x1))]))] 52) ?_;refine Rn.g ?_;refine Ro.t 1 ?_;obtain ⟨y5792,h5793,h⟩ := bind_some h;refine RunO.h1 (n := 93) (caps := [(V.fp (vI x1))]) (us := [(vI (8 : Int)),(V.fp (vI x1))]) (by kernel_rfl) (by kernel_rfl) (by kernel_rfl) ((w93 h5793 hp).mono ?_);rintro _ H ⟨rfl,hp⟩;refine Ro.t 1 ?_;refine Ro.d (mkE [(10,(V.bool y5792))] 53) ?_;refine Run.ret ?_;obtain rfl := Option.some.inj h;exact ⟨(V.bool y5792),(by kernel_rfl),(by kernel_rfl),hp⟩
    · rw [ite_f h5785] at h; refine Rn.f h5785 ?_;refine Rn.g ?_;refine Ro.t 2 ?_;refine Ro.d (mkE [(3,(V.fp (E_Unit.e x3))),(0,(vI x4)),(6,(V.fn 93 [(V.fp (vI x1))])),(1,(V.int .u8 x0)),(13,(V.bool (x0 == (1 : Int))))] 36) ?_;rcases tf (x0 == (1 : Int)) with h5794 | h5794
      · rw [ite_t h5794] at h; refine Rn.t h5794 ?_;refine Rn.g ?_;refine Ro.t 1 ?_;obtain ⟨y5795,h5796,h⟩ := bind_some h;refine RunO.h1 (n := 93) (caps := [(V.fp (vI x1))]) (us := [(vI (8 : Int)),(V.fp (vI x1))]) (by kernel_rfl) (by kernel_rfl) (by kernel_rfl) ((w93 h5796 hp).mono ?_);rintro _ H ⟨rfl,hp⟩;refine Ro.t 1 ?_;refine Ro.d (mkE [(10,(V.bool y5795))] 53) ?_;refine Run.ret ?_;obtain rfl := Option.some.inj h;exact ⟨(V.bool y5795),(by kernel_rfl),(by kernel_rfl),hp⟩
      · rw [ite_f h5794] at h; refine Rn.f h5794 ?_;refine Rn.g ?_;refine Ro.t 2 ?_;refine Ro.d (mkE [(3,(V.fp (E_Unit.e x3))),(0,(vI x4)),(6,(V.fn 93 [(V.fp (vI x1))])),(1,(V.int .u8 x0)),(17,(V.bool (x0 == (2 : Int))))] 32) ?_;rcases tf (x0 == (2 : Int)) with h5797 | h5797
        · rw [ite_t h5797] at h; refine Rn.t h5797 ?_;refine Rn.g ?_;refine Ro.t 5 ?_;obtain ⟨y5798,h5799,h⟩ := bind_some h;refine RunO.h1 (n := 93) (caps := [(V.fp (vI x1))]) (us := [(vI x3.fFrame),(V.fp (vI x1))]) (by kernel_rfl) (by kernel_rfl) (by kernel_rfl) ((w93 h5799 hp).mono ?_);rintro _ H ⟨rfl,hp⟩;refine Ro.t 1 ?_;refine Ro.d (mkE [(10,(V.bool y5798))] 53) ?_;refine Run.ret ?_;obtain rfl := Option.some.inj h;exact ⟨(V.bool y5798),(by kernel_rfl),(by kernel_rfl),hp⟩
        · rw [ite_f h5797] at h; refine Rn.f h5797 ?_;refine Rn.g ?_;refine Ro.t 2 ?_;refine Ro.d (mkE [(3,(V.fp (E_Unit.e x3))),(0,(vI x4)),(6,(V.fn 93 [(V.fp (vI x1))])),(1,(V.int .u8 x0)),(25,(V.bool (x0 == (3 : Int))))] 24) ?_;rcases tf (x0 == (3 : Int)) with h5800 | h5800
          · rw [ite_t h5800] at h; refine Rn.t h5800 ?_;refine Rn.g ?_;refine Ro.t 5 ?_;refine Ro.p (len_fz E_Code x3.fCode) ?_;obtain ⟨y5801,h5802,h⟩ := bind_some h;refine RunO.h1 (n := 93) (caps := [(V.fp (vI x1))]) (us := [(vI (ln x3.fCode)),(V.fp (vI x1))]) (by kernel_rfl) (by kernel_rfl) (by kernel_rfl) ((w93 h5802 hp).mono ?_);rintro _ H ⟨rfl,hp⟩;refine Ro.t 1 ?_;refine Ro.d (mkE [(10,(V.bool y5801))] 53) ?_;refine Run.ret ?_;obtain rfl := Option.some.inj h;exact ⟨(V.bool y5801),(by kernel_rfl),(by kernel_rfl),hp⟩
          · rw [ite_f h5800] at h; refine Rn.f h5800 ?_;refine Rn.g ?_;refine Ro.t 2 ?_;refine Ro.d (mkE [(3,(V.fp (E_Unit.e x3))),(0,(vI x4)),(6,(V.fn 93 [(V.fp (vI x1))])),(1,(V.int .u8 x0)),(34,(V.bool (x0 == (4 : Int))))] 15) ?_;rcases tf (x0 == (4 : Int)) with h5803 | h5803
            · rw [ite_t h5803] at h; refine Rn.t h5803 ?_;refine Rn.g ?_;refine Ro.t 5 ?_;refine Ro.p (len_fz (EI .u8) x3.fParams) ?_;obtain ⟨y5804,h5805,h⟩ := bind_some h;refine RunO.h1 (n := 93) (caps := [(V.fp (vI x1))]) (us := [(vI (ln x3.fParams)),(V.fp (vI x1))]) (by kernel_rfl) (by kernel_rfl) (by kernel_rfl) ((w93 h5805 hp).mono ?_);rintro _ H ⟨rfl,hp⟩;refine Ro.t 1 ?_;refine Ro.d (mkE [(10,(V.bool y5804))] 53) ?_;refine Run.ret ?_;obtain rfl := Option.some.inj h;exact ⟨(V.bool y5804),(by kernel_rfl),(by kernel_rfl),hp⟩
            · rw [ite_f h5803] at h; refine Rn.f h5803 ?_;refine Rn.g ?_;refine Ro.t 2 ?_;refine Ro.d (mkE [(4,(vI x4)),(6,(V.fn 93 [(V.fp (vI x1))])),(45,(V.bool (x0 == (5 : Int))))] 6) ?_;rcases tf (x0 == (5 : Int)) with h5806 | h5806
              · rw [ite_t h5806] at h; refine Rn.t h5806 ?_;refine Rn.g ?_;refine Ro.t 1 ?_;obtain ⟨y5807,h5808,h⟩ := bind_some h;refine RunO.h1 (n := 93) (caps := [(V.fp (vI x1))]) (us := [(vI (8 : Int)),(V.fp (vI x1))]) (by kernel_rfl) (by kernel_rfl) (by kernel_rfl) ((w93 h5808 hp).mono ?_);rintro _ H ⟨rfl,hp⟩;refine Ro.t 1 ?_;refine Ro.d (mkE [(10,(V.bool y5807))] 53) ?_;refine Run.ret ?_;obtain rfl := Option.some.inj h;exact ⟨(V.bool y5807),(by kernel_rfl),(by kernel_rfl),hp⟩
              · rw [ite_f h5806] at h; refine Rn.f h5806 ?_;refine Run.skip ?_;refine Rn.c (mkE [(4,(vI x4)),(6,(V.fn 93 [(V.fp (vI x1))]))] 52) ?_;refine Rn.g ?_;refine Ro.t 2 ?_;obtain ⟨y5809,h5810,h⟩ := bind_some h;refine RunO.h1 (n := 93) (caps := [(V.fp (vI x1))]) (us := [(vI x4),(V.fp (vI x1))]) (by kernel_rfl) (by kernel_rfl) (by kernel_rfl) ((w93 h5810 hp).mono ?_);rintro _ H ⟨rfl,hp⟩;refine Ro.t 1 ?_;refine Ro.d (mkE [(10,(V.bool y5809))] 53) ?_;refine Run.ret ?_;obtain rfl := Option.some.inj h;exact ⟨(V.bool y5809),(by kernel_rfl),(by kernel_rfl),hp⟩
theorem c85 {x0 : Int} {x1 : Int} {x2 : T_Code} {x3 : T_Unit} {x4 : Int} {r : Bool} (h : F85 x0 x1 x2 x3 x4 = some r) (s : Bool) : Fn T 85 [(V.int .u8 x0),(vI x1),(E_Code.e x2),(V.fp (E_Unit.e x3)),(vI x4)] [] (fun v hh => deep s hh deepN v = some (EB.e r)) := by
  refine (w85 h HP.nil).mono ?_;rintro v hh ⟨rfl,hp⟩;exact EB.hd s hh 38 _ (.inr rfl)
abbrev Q69 (L : List Ob) (r : Bool) : V → Heap → Prop := fun v h => v = EB.e r ∧ HP h (L)
def F69_j2 (x0 : T_Code) (x1 : T_Unit) (x2 : Int) (y5842 : T_form) : Option Bool :=
  (F85 y5842.fa x0.fA x0 x1 x2).bind fun y5914 =>
  if y5914 then
    (F85 y5842.fb x0.fB x0 x1 x2).bind fun y5917 =>
    if y5917 then
      if y5842.frow then
        some true
      else
        (F85 y5842.fc x0.fC x0 x1 x2).bind fun y5921 =>
        some y5921
    else
      some false
  else
    some false
theorem w69_j2 {x0 : T_Code} {x1 : T_Unit} {x2 : Int} {y5842 : T_form} {r : Bool} (h : F69_j2 x0 x1 x2 y5842 = some r) {b5844 : Nat} {H : Heap} {L : List Ob} (hp : HP H ((some (b5844,0),[(V.int .u8 y5842.fa),(V.int .u8 y5842.fb),(V.int .u8 y5842.fc),(V.bool y5842.fop),(V.bool y5842.ft),(V.bool y5842.fto),(V.bool y5842.ftrap),(V.bool y5842.fbits),(V.bool y5842.frow)]) :: L)) :
    Run T i69n56 (mkE [(1,(V.fp (E_Unit.e x1))),(0,(vI x2)),(0,(V.fp (E_Code.e x0))),(3,(V.ptr b5844 0 0))] 169) H (finE none [6] (Q69 L r)) := by
  unfold F69_j2 at h;refine Rn.g ?_;refine Ro.t 1 ?_;refine Ro.p (hp.ld 0 (off := 0) (n := none) (v := (V.int .u8 y5842.fa)) rfl (by kernel_rfl)) ?_;refine Ro.t 5 ?_;obtain ⟨y5914,h5915,h⟩ := bind_some h;rcases tf y5914 with h5916 | h5916
  · subst h5916; rw [if_pos rfl] at h;refine RunO.c1 (by kernel_rfl) (by kernel_rfl) (c85 h5915 _) ?_;refine Ro.t 2 ?_;refine Ro.p (hp.ld 0 (off := 1) (n := none) (v := (V.int .u8 y5842.fb)) rfl (by kernel_rfl)) ?_;refine Ro.t 5 ?_;obtain ⟨y5917,h5918,h⟩ := bind_some h;rcases tf y5917 with h5919 | h5919
    · subst h5919; rw [if_pos rfl] at h;refine RunO.c1 (by kernel_rfl) (by kernel_rfl) (c85 h5918 _) ?_;refine Ro.t 3 ?_;rcases tf y5842.frow with h5920 | h5920
      · rw [ite_t h5920] at h; refine Ro.p (Eq.trans (hp.ld 0 (off := 8) (n := none) (v := (V.bool y5842.frow)) rfl (by kernel_rfl)) (bool_of h5920)) ?_;refine Ro.t 12 ?_;refine Ro.d (mkE [(6,(V.bool true))] 170) ?_;refine Run.ret ?_;obtain rfl := Option.some.inj h;have hp := hp.del 0;exact ⟨(V.bool true),(by kernel_rfl),(by kernel_rfl),hp⟩
      · rw [ite_f h5920] at h; refine Ro.p (Eq.trans (hp.ld 0 (off := 8) (n := none) (v := (V.bool y5842.frow)) rfl (by kernel_rfl)) (bool_of h5920)) ?_;refine Ro.t 2 ?_;refine Ro.p (hp.ld 0 (off := 2) (n := none) (v := (V.int .u8 y5842.fc)) rfl (by kernel_rfl)) ?_;refine Ro.t 5 ?_;obtain ⟨y5921,h5922,h⟩ := bind_some h;refine RunO.c1 (by kernel_rfl) (by kernel_rfl) (c85 h5922 _) ?_;refine Ro.t 3 ?_;refine Ro.d (mkE [(6,(V.bool y5921))] 170) ?_;refine Run.ret ?_;obtain rfl := Option.some.inj h;have hp := hp.del 0;exact ⟨(V.bool y5921),(by kernel_rfl),(by kernel_rfl),hp⟩
    · subst h5919; rw [if_neg (by decide)] at h;refine RunO.c1 (by kernel_rfl) (by kernel_rfl) (c85 h5918 _) ?_;refine Ro.t 16 ?_;refine Ro.d (mkE [(6,(V.bool false))] 170) ?_;refine Run.ret ?_;obtain rfl := Option.some.inj h;have hp := hp.del 0;exact ⟨(V.bool false),(by kernel_rfl),(by kernel_rfl),hp⟩
  · subst h5916; rw [if_neg (by decide)] at h;refine RunO.c1 (by kernel_rfl) (by kernel_rfl) (c85 h5915 _) ?_;refine Ro.t 25 ?_;refine Ro.d (mkE [(6,(V.bool false))] 170) ?_;refine Run.ret ?_;obtain rfl := Option.some.inj h;have hp := hp.del 0;exact ⟨(V.bool false),(by kernel_rfl),(by kernel_rfl),hp⟩
end Go.Eng.Cop
