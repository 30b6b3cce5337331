/- Functions of this seat, run on unknown values by the rules of the small machine (no condition beyond those stated). -/
import Derived.Test.YtfkakbipedafiaaDoorEngT
import Derived.Test.YtfkakbipedafiaaDoorGtrIr
import Derived.Test.YtfkakbipedafiaaDoorEngSUp
namespace Go.Eng.Gra
open Go Go.Eng
set_option linter.unusedVariables false
set_option linter.unusedSimpArgs false
structure T_Array where
  fType : Int
  fSize : Int
  deriving DecidableEq
def E_Array : Enc T_Array where
  e := fun x => .ag [(EI .u8).e x.fType,(EI .i64).e x.fSize]
  c := fun x => [(EI .u8).e x.fType,(EI .i64).e x.fSize]
  z := 2
  ag := true
  sf := true
  he := fun _ => rfl
  hz := fun _ => rfl
  hz0 := by decide
  ha := .inl rfl
  hag := fun _ => rfl
  hc := fun _ => rfl
  h1 := fun h => by cases h
  h2 := fun _ _ => rfl
  hd := fun _ _ _ _ _ => rfl
structure T_Ins where
  fKind : Int
  fOp : Int
  fDst : Int
  fArgs : (List Int)
  fBits : Int
  fRef : Int
  deriving DecidableEq
def E_Ins : Enc T_Ins where
  e := fun x => .ag [(EI .u8).e x.fKind,(EI .u8).e x.fOp,(EI .i64).e x.fDst,(EL (EI .i64)).e x.fArgs,(EI .u64).e x.fBits,(EI .i64).e x.fRef]
  c := fun x => [(EI .u8).e x.fKind,(EI .u8).e x.fOp,(EI .i64).e x.fDst,(EL (EI .i64)).e x.fArgs,(EI .u64).e x.fBits,(EI .i64).e x.fRef]
  z := 6
  ag := true
  sf := false
  he := fun _ => rfl
  hz := fun _ => rfl
  hz0 := by decide
  ha := .inl rfl
  hag := fun _ => rfl
  hc := fun _ => rfl
  h1 := fun h => by cases h
  h2 := fun _ _ => rfl
  hd := fun s _ _ _ h => by rcases h with rfl | h <;> first | rfl | cases h
structure T_2int where
  a0 : Int
  a1 : Int
  deriving DecidableEq
def E_2int : Enc T_2int where
  e := fun x => .ag [(EI .i64).e x.a0,(EI .i64).e x.a1]
  c := fun x => [(EI .i64).e x.a0,(EI .i64).e x.a1]
  z := 2
  ag := true
  sf := true
  he := fun _ => rfl
  hz := fun _ => rfl
  hz0 := by decide
  ha := .inl rfl
  hag := fun _ => rfl
  hc := fun _ => rfl
  h1 := fun h => by cases h
  h2 := fun _ _ => rfl
  hd := fun _ _ _ _ _ => rfl
structure T_Term where
  fKind : Int
  fArg : Int
  fTo : T_2int
  fTrap : Int
  deriving DecidableEq
def E_Term : Enc T_Term where
  e := fun x => .ag [(EI .u8).e x.fKind,(EI .i64).e x.fArg,(EI .i64).e x.fTo.a0,(EI .i64).e x.fTo.a1,(EI .u8).e x.fTrap]
  c := fun x => [(EI .u8).e x.fKind,(EI .i64).e x.fArg,(EI .i64).e x.fTo.a0,(EI .i64).e x.fTo.a1,(EI .u8).e x.fTrap]
  z := 5
  ag := true
  sf := true
  he := fun _ => rfl
  hz := fun _ => rfl
  hz0 := by decide
  ha := .inl rfl
  hag := fun _ => rfl
  hc := fun _ => rfl
  h1 := fun h => by cases h
  h2 := fun _ _ => rfl
  hd := fun _ _ _ _ _ => rfl
structure T_Block where
  fIns : (List T_Ins)
  fTerm : T_Term
  deriving DecidableEq
def E_Block : Enc T_Block where
  e := fun x => .ag [(EL E_Ins).e x.fIns,(EI .u8).e x.fTerm.fKind,(EI .i64).e x.fTerm.fArg,(EI .i64).e x.fTerm.fTo.a0,(EI .i64).e x.fTerm.fTo.a1,(EI .u8).e x.fTerm.fTrap]
  c := fun x => [(EL E_Ins).e x.fIns,(EI .u8).e x.fTerm.fKind,(EI .i64).e x.fTerm.fArg,(EI .i64).e x.fTerm.fTo.a0,(EI .i64).e x.fTerm.fTo.a1,(EI .u8).e x.fTerm.fTrap]
  z := 6
  ag := true
  sf := false
  he := fun _ => rfl
  hz := fun _ => rfl
  hz0 := by decide
  ha := .inl rfl
  hag := fun _ => rfl
  hc := fun _ => rfl
  h1 := fun h => by cases h
  h2 := fun _ _ => rfl
  hd := fun s _ _ _ h => by rcases h with rfl | h <;> first | rfl | cases h
structure T_Graph where
  fName : (List UInt8)
  fParams : (List Int)
  fResult : Int
  fVars : (List Int)
  fArrays : (List T_Array)
  fBlocks : (List T_Block)
  deriving DecidableEq
def E_Graph : Enc T_Graph where
  e := fun x => .ag [ES.e x.fName,(EL (EI .i64)).e x.fParams,(EI .u8).e x.fResult,(EL (EI .u8)).e x.fVars,(EL E_Array).e x.fArrays,(EL E_Block).e x.fBlocks]
  c := fun x => [ES.e x.fName,(EL (EI .i64)).e x.fParams,(EI .u8).e x.fResult,(EL (EI .u8)).e x.fVars,(EL E_Array).e x.fArrays,(EL E_Block).e x.fBlocks]
  z := 6
  ag := true
  sf := false
  he := fun _ => rfl
  hz := fun _ => rfl
  hz0 := by decide
  ha := .inl rfl
  hag := fun _ => rfl
  hc := fun _ => rfl
  h1 := fun h => by cases h
  h2 := fun _ _ => rfl
  hd := fun s _ _ _ h => by rcases h with rfl | h <;> first | rfl | cases h
theorem eqs_2int (ne : Bool) (a b : T_2int) : eqsV ne [.int,.int] (E_2int.e a) (E_2int.e b) = some (.bool (if ne then !(decide (a = b)) else decide (a = b))) := by
  have key : eqLeafs [.int,.int] (E_2int.c a) (E_2int.c b) = some (decide (a = b)) := by
    obtain ⟨a1,a2⟩ := a; obtain ⟨b1,b2⟩ := b;simp only [eqLeafs,E_2int,eqLeaf,EI,EB,ES,if_true,list_st,T_2int.mk.injEq,Option.some.injEq];rw [Bool.eq_iff_iff]
    simp [and_assoc]
  rw [E_2int.h2 rfl a,E_2int.h2 rfl b];simp only [eqsV,key]; cases ne <;> rfl
structure T_form where
  fdst : Bool
  fop : Bool
  fbits : Bool
  fref : Bool
  fargs : Int
  deriving DecidableEq
def E_form : Enc T_form where
  e := fun x => .ag [EB.e x.fdst,EB.e x.fop,EB.e x.fbits,EB.e x.fref,(EI .i64).e x.fargs]
  c := fun x => [EB.e x.fdst,EB.e x.fop,EB.e x.fbits,EB.e x.fref,(EI .i64).e x.fargs]
  z := 5
  ag := true
  sf := true
  he := fun _ => rfl
  hz := fun _ => rfl
  hz0 := by decide
  ha := .inl rfl
  hag := fun _ => rfl
  hc := fun _ => rfl
  h1 := fun h => by cases h
  h2 := fun _ _ => rfl
  hd := fun _ _ _ _ _ => rfl
theorem eqs_Array (ne : Bool) (a b : T_Array) : eqsV ne [.int,.int] (E_Array.e a) (E_Array.e b) = some (.bool (if ne then !(decide (a = b)) else decide (a = b))) := by
  have key : eqLeafs [.int,.int] (E_Array.c a) (E_Array.c b) = some (decide (a = b)) := by
    obtain ⟨a1,a2⟩ := a; obtain ⟨b1,b2⟩ := b;simp only [eqLeafs,E_Array,eqLeaf,EI,EB,ES,if_true,list_st,T_Array.mk.injEq,Option.some.injEq];rw [Bool.eq_iff_iff]
    simp [and_assoc]
  rw [E_Array.h2 rfl a,E_Array.h2 rfl b];simp only [eqsV,key]; cases ne <;> rfl
theorem eqs_Term (ne : Bool) (a b : T_Term) : eqsV ne [.int,.int,.int,.int,.int] (E_Term.e a) (E_Term.e b) = some (.bool (if ne then !(decide (a = b)) else decide (a = b))) := by
  have key : eqLeafs [.int,.int,.int,.int,.int] (E_Term.c a) (E_Term.c b) = some (decide (a = b)) := by
    obtain ⟨a1,a2,⟨a3,a4⟩,a5⟩ := a; obtain ⟨b1,b2,⟨b3,b4⟩,b5⟩ := b;simp only [eqLeafs,E_Term,eqLeaf,EI,EB,ES,if_true,list_st,T_2int.mk.injEq,T_Term.mk.injEq,Option.some.injEq];rw [Bool.eq_iff_iff]
    simp [and_assoc]
  rw [E_Term.h2 rfl a,E_Term.h2 rfl b];simp only [eqsV,key]; cases ne <;> rfl
def G0 : List T_form := [(⟨false,false,false,false,(0 : Int)⟩ : T_form),(⟨true,false,false,false,(-1 : Int)⟩ : T_form),(⟨true,false,true,false,(0 : Int)⟩ : T_form),(⟨true,false,false,false,(1 : Int)⟩ : T_form),(⟨true,true,false,false,(-1 : Int)⟩ : T_form),(⟨true,false,false,false,(1 : Int)⟩ : T_form),(⟨true,false,false,true,(1 : Int)⟩ : T_form),(⟨false,false,false,true,(2 : Int)⟩ : T_form),(⟨false,false,false,true,(0 : Int)⟩ : T_form),(⟨true,false,false,true,(-1 : Int)⟩ : T_form),(⟨false,false,false,false,(1 : Int)⟩ : T_form)]
end Go.Eng.Gra
namespace Go.Eng
open Go
set_option linter.unusedSectionVars false
set_option linter.unusedVariables false
set_option linter.unusedSimpArgs false
abbrev Zl {α : Type} (E : Enc α) (l : List α) : V := V.fz (List.map E.e l)
abbrev i6 (n : Int) : V := V.int .i64 n
abbrev ln {α : Type} (l : List α) : Int := ((List.length l : Nat) : Int)
section
variable {T : Nat → Option IFun} {env : List V} {H : Heap}
theorem Ro.t (n : Nat) {ops : List IOp} {Q : List V → Heap → Prop} (hr : RunO T (ops.drop n) (envAfter (ops.take n) env H) H Q) (h : exOps noF (ops.take n) env H = some (envAfter (ops.take n) env H,H) := by kernel_rfl) : RunO T ops env H Q := RunO.tk n h hr
theorem Ro.d (e' : List V) {ts : List Nat} {b : Ir} {Q : X → List V → Heap → Prop} (h : Run T b e' H Q) (he : clrEnv ts env = e' := by kernel_rfl) : RunO T [] env H (fun e h => thn T (.clr ts b) Q .nrm e h) := RunO.done he h
theorem Rn.c (e' : List V) {ts : List Nat} {b : Ir} {Q : X → List V → Heap → Prop} (h : Run T b e' H Q) (he : clrEnv ts env = e' := by kernel_rfl) : thn T (.clr ts b) Q .nrm env H := Run.clr (he ▸ h)
theorem Rn.k (e' : List V) {ts : List Nat} {b : Ir} {Q : X → List V → Heap → Prop} (h : Run T b e' H Q) (he : clrEnv ts env = e' := by kernel_rfl) : Run T (.clr ts b) env H Q := Run.clr (he ▸ h)
theorem Ro.p {d : Option Nat} {g : Option (Nat × Bool)} {lo : Bool} {k : Kind} {r : List IOp} {Q : List V → Heap → Prop} {v : Option V} {u : V} (hv : v = some u) (hr : RunO T r (put env d u) H Q) (hg : gdB env g = true := by kernel_rfl) (hq : k.quiet = true := by rfl) (h : evq noF env (if lo then [] else H) k = v := by kernel_rfl) :
    RunO T (⟨d,g,lo,k⟩ :: r) env H Q := RunO.p1 hg hq h hv hr
theorem Rn.t {c : Opd} {a b : Ir} {Q : X → List V → Heap → Prop} {x : Bool} (hx : x = true) (h : Run T a env H Q) (hc : c.ev env = .bool x := by kernel_rfl) : Run T (.cond c a b) env H Q := Run.condT (hx ▸ hc) h
theorem Rn.f {c : Opd} {a b : Ir} {Q : X → List V → Heap → Prop} {x : Bool} (hx : x = false) (h : Run T b env H Q) (hc : c.ev env = .bool x := by kernel_rfl) : Run T (.cond c a b) env H Q := Run.condF (hx ▸ hc) h
theorem Rn.g {a : List IOp} {b : Ir} {Q : X → List V → Heap → Prop} (h : RunO T a env H (fun e h => thn T b Q .nrm e h)) : Run T (.seq (.rgn a) b) env H Q := Run.seq (Run.rgn h)
end
theorem tf (b : Bool) : b = true ∨ b = false := by cases b <;> simp
end Go.Eng
namespace Go.Eng.Gra
open Go Go.Eng
set_option linter.unusedSectionVars false
set_option linter.unusedVariables false
set_option linter.unusedSimpArgs false
set_option maxRecDepth 20000
abbrev Q18 (L : List Ob) (r : (List Int)) : V → Heap → Prop := fun v h => ∃ u0 : V,v = u0 ∧ (u0 = (EL (EI .i64)).e r ∨ u0 = .nils ∧ r = []) ∧ HP h (L)
abbrev RR18 (L : List Ob) (r : (List Int)) : List V → Heap → Prop := fun e h => endR none [2] (Q18 L r) e h
def F18_j2 (x0 : T_Block) (y39 : Bool) : Option (List Int) :=
  if y39 then
    some ([x0.fTerm.fTo.a0,x0.fTerm.fTo.a1] : List Int)
  else
    if (x0.fTerm.fKind == (2 : Int)) then
      some ([x0.fTerm.fTo.a1,x0.fTerm.fTo.a0] : List Int)
    else
      some ([])
theorem w18_j2 {x0 : T_Block} {y39 : Bool} {r : (List Int)} (h : F18_j2 x0 y39 = some r) {H : Heap} {L : List Ob} (hp : HP H (L)) :
    Run T i18n13 (mkE [(1,(V.fp (E_Block.e x0))),(1,(i6 x0.fTerm.fTo.a0)),(0,(i6 x0.fTerm.fTo.a1)),(26,(V.bool y39))] 20) H (blk 0 (thn T (.clr [1,2,3,4,13,14,15,16,17,18,19,20,21,22,23,24,25,26,27,28,29,30,31,32,33,34,35,36,37,38,39,40,41,42,43,44,45,46,47,48,49,50,51] i18n19) (finE none [2] (Q18 L r)))) := by
  unfold F18_j2 at h;rcases tf y39 with h40 | h40
  · rw [ite_t h40] at h; refine Rn.t h40 ?_;refine Rn.g ?_;refine Ro.t 4 ?_;refine Ro.d (mkE [(2,(V.fz (List.map (EI .i64).e ([x0.fTerm.fTo.a0,x0.fTerm.fTo.a1] : List Int))))] 49) ?_;refine Run.ret ?_;have h := Option.some.inj h; subst h;exact ⟨(V.fz (List.map (EI .i64).e ([x0.fTerm.fTo.a0,x0.fTerm.fTo.a1] : List Int))),(by kernel_rfl),(V.fz (List.map (EI .i64).e ([x0.fTerm.fTo.a0,x0.fTerm.fTo.a1] : List Int))),(by kernel_rfl),(.inl (by kernel_rfl)),hp⟩
  · rw [ite_f h40] at h; refine Rn.f h40 ?_;refine Rn.g ?_;refine Ro.t 5 ?_;refine Ro.d (mkE [(3,(i6 x0.fTerm.fTo.a0)),(0,(i6 x0.fTerm.fTo.a1)),(39,(V.bool (x0.fTerm.fKind == (2 : Int))))] 7) ?_;rcases tf (x0.fTerm.fKind == (2 : Int)) with h41 | h41
    · rw [ite_t h41] at h; refine Rn.t h41 ?_;refine Rn.g ?_;refine Ro.t 4 ?_;refine Ro.d (mkE [(2,(V.fz (List.map (EI .i64).e ([x0.fTerm.fTo.a1,x0.fTerm.fTo.a0] : List Int))))] 49) ?_;refine Run.ret ?_;have h := Option.some.inj h; subst h;exact ⟨(V.fz (List.map (EI .i64).e ([x0.fTerm.fTo.a1,x0.fTerm.fTo.a0] : List Int))),(by kernel_rfl),(V.fz (List.map (EI .i64).e ([x0.fTerm.fTo.a1,x0.fTerm.fTo.a0] : List Int))),(by kernel_rfl),(.inl (by kernel_rfl)),hp⟩
    · rw [ite_f h41] at h; refine Rn.f h41 ?_;refine Run.skip ?_;refine Rn.c (mkE [] 52) ?_;refine Rn.g ?_;refine Ro.t 1 ?_;refine Ro.d (mkE [(2,V.nils)] 49) ?_;refine Run.ret ?_;have h := Option.some.inj h; subst h;exact ⟨V.nils,(by kernel_rfl),V.nils,(by kernel_rfl),(.inr ⟨rfl,rfl⟩),hp⟩
def F18_j1 (x0 : T_Block) (y36 : Bool) : Option (List Int) :=
  if y36 then
    some ([x0.fTerm.fTo.a0] : List Int)
  else
    if (x0.fTerm.fKind == (2 : Int)) then
      F18_j2 x0 ((decide (x0.fTerm.fTo.a0 < x0.fTerm.fTo.a1)))
    else
      F18_j2 x0 (false)
theorem w18_j1 {x0 : T_Block} {y36 : Bool} {r : (List Int)} (h : F18_j1 x0 y36 = some r) {H : Heap} {L : List Ob} (hp : HP H (L)) :
    Run T i18n15 (mkE [(1,(V.fp (E_Block.e x0))),(1,(i6 x0.fTerm.fTo.a0)),(0,(i6 x0.fTerm.fTo.a1)),(8,(V.bool y36))] 38) H (blk 0 (thn T (.clr [1,2,3,4,13,14,15,16,17,18,19,20,21,22,23,24,25,26,27,28,29,30,31,32,33,34,35,36,37,38,39,40,41,42,43,44,45,46,47,48,49,50,51] i18n19) (finE none [2] (Q18 L r)))) := by
  unfold F18_j1 at h;rcases tf y36 with h37 | h37
  · rw [ite_t h37] at h; refine Rn.t h37 ?_;refine Rn.g ?_;refine Ro.t 3 ?_;refine Ro.d (mkE [(2,(V.fz (List.map (EI .i64).e ([x0.fTerm.fTo.a0] : List Int))))] 49) ?_;refine Run.ret ?_;have h := Option.some.inj h; subst h;exact ⟨(V.fz (List.map (EI .i64).e ([x0.fTerm.fTo.a0] : List Int))),(by kernel_rfl),(V.fz (List.map (EI .i64).e ([x0.fTerm.fTo.a0] : List Int))),(by kernel_rfl),(.inl (by kernel_rfl)),hp⟩
  · rw [ite_f h37] at h; refine Rn.f h37 ?_;refine Rn.g ?_;refine Ro.t 3 ?_;rcases tf (x0.fTerm.fKind == (2 : Int)) with h42 | h42
    · rw [ite_t h42] at h; refine Ro.p (bool_of h42) ?_;refine Ro.t 6 ?_;refine Ro.d (mkE [(1,(V.fp (E_Block.e x0))),(1,(i6 x0.fTerm.fTo.a0)),(0,(i6 x0.fTerm.fTo.a1)),(26,(V.bool (decide (x0.fTerm.fTo.a0 < x0.fTerm.fTo.a1))))] 20) ?_;exact w18_j2 h hp
    · rw [ite_f h42] at h; refine Ro.p (bool_of h42) ?_;refine Ro.t 6 ?_;refine Ro.d (mkE [(1,(V.fp (E_Block.e x0))),(1,(i6 x0.fTerm.fTo.a0)),(0,(i6 x0.fTerm.fTo.a1)),(26,(V.bool false))] 20) ?_;exact w18_j2 h hp
def F18 (x0 : T_Block) : Option (List Int) :=
  if (x0.fTerm.fKind == (1 : Int)) then
    F18_j1 x0 (true)
  else
    if (x0.fTerm.fKind == (2 : Int)) then
      F18_j1 x0 ((x0.fTerm.fTo.a0 == x0.fTerm.fTo.a1))
    else
      F18_j1 x0 (false)
theorem w18 {x0 : T_Block} {r : (List Int)} (h : F18 x0 = some r) {H : Heap} {L : List Ob} (hp : HP H (L)) : Fn T 18 [(E_Block.e x0)] H (Q18 L r) := by
  refine Fn.enterE t18 (e0 := (mkE [(0,(E_Block.e x0))] 51)) (by kernel_rfl) ?_;show Run T (.clr [] i18n22) _ _ (finE none [2] (Q18 L r));refine Rn.k (mkE [(0,(E_Block.e x0))] 51) ?_;unfold F18 at h;refine Rn.g ?_;refine Ro.t 2 ?_;refine Ro.d (mkE [(1,(V.fp (E_Block.e x0)))] 50) ?_;refine Rn.g ?_;refine Ro.t 10 ?_;refine Ro.d (mkE [(1,(V.fp (E_Block.e x0))),(1,(i6 x0.fTerm.fTo.a0)),(0,(i6 x0.fTerm.fTo.a1))] 47) ?_;refine Run.seq ?_;refine Run.block ?_;refine Rn.g ?_;refine Ro.t 3 ?_;rcases tf (x0.fTerm.fKind == (1 : Int)) with h43 | h43
  · rw [ite_t h43] at h; refine Ro.p (bool_of h43) ?_;refine Ro.t 12 ?_;refine Ro.d (mkE [(1,(V.fp (E_Block.e x0))),(1,(i6 x0.fTerm.fTo.a0)),(0,(i6 x0.fTerm.fTo.a1)),(8,(V.bool true))] 38) ?_;exact w18_j1 h hp
  · rw [ite_f h43] at h; refine Ro.p (bool_of h43) ?_;refine Ro.t 4 ?_;rcases tf (x0.fTerm.fKind == (2 : Int)) with h44 | h44
    · rw [ite_t h44] at h; refine Ro.p (bool_of h44) ?_;refine Ro.t 7 ?_;refine Ro.d (mkE [(1,(V.fp (E_Block.e x0))),(1,(i6 x0.fTerm.fTo.a0)),(0,(i6 x0.fTerm.fTo.a1)),(8,(V.bool (x0.fTerm.fTo.a0 == x0.fTerm.fTo.a1)))] 38) ?_;exact w18_j1 h hp
    · rw [ite_f h44] at h; refine Ro.p (bool_of h44) ?_;refine Ro.t 7 ?_;refine Ro.d (mkE [(1,(V.fp (E_Block.e x0))),(1,(i6 x0.fTerm.fTo.a0)),(0,(i6 x0.fTerm.fTo.a1)),(8,(V.bool false))] 38) ?_;exact w18_j1 h hp
theorem c18 {x0 : T_Block} {r : (List Int)} (h : F18 x0 = some r)  : Fn T 18 [(E_Block.e x0)] [] (fun v hh => deep false hh deepN v = some ((EL (EI .i64)).e r)) := by
  refine (w18 h HP.nil).mono ?_;rintro v hh ⟨u0,rfl,hu0,hp⟩;exact mix_deep (EI .i64) hu0 39
abbrev Q34 (L : List Ob) (r : Bool) : V → Heap → Prop := fun v h => v = EB.e r ∧ HP h (L)
abbrev RR34 (L : List Ob) (r : Bool) : List V → Heap → Prop := fun e h => endR none [4] (Q34 L r) e h
def F34 (x0 : Int) (x1 : Int) : Option Bool :=
  if (decide (x0 ≥ (0 : Int))) then
    some (decide (x0 < x1))
  else
    some false
theorem w34 {x0 : Int} {x1 : Int} {r : Bool} (h : F34 x0 x1 = some r) {H : Heap} {L : List Ob} (hp : HP H (L)) : Fn T 34 [(i6 x0),(i6 x1)] H (Q34 L r) := by
  refine Fn.enterE t34 (e0 := (mkE [(0,(i6 x0)),(0,(i6 x1))] 10)) (by kernel_rfl) ?_;show Run T (.clr [] i34n3) _ _ (finE none [4] (Q34 L r));refine Rn.k (mkE [(0,(i6 x0)),(0,(i6 x1))] 10) ?_;unfold F34 at h;refine Rn.g ?_;refine Ro.t 1 ?_;refine Ro.d (mkE [(0,(i6 x0)),(0,(i6 x1))] 10) ?_;refine Rn.g ?_;refine Ro.t 1 ?_;rcases tf (decide (x0 ≥ (0 : Int))) with h46 | h46
  · rw [ite_t h46] at h; refine Ro.p (bool_of h46) ?_;refine Ro.t 6 ?_;refine Ro.d (mkE [(4,(V.bool (decide (x0 < x1))))] 7) ?_;refine Run.ret ?_;have h := Option.some.inj h; subst h;exact ⟨(V.bool (decide (x0 < x1))),(by kernel_rfl),(by kernel_rfl),hp⟩
  · rw [ite_f h46] at h; refine Ro.p (bool_of h46) ?_;refine Ro.t 6 ?_;refine Ro.d (mkE [(4,(V.bool false))] 7) ?_;refine Run.ret ?_;have h := Option.some.inj h; subst h;exact ⟨(V.bool false),(by kernel_rfl),(by kernel_rfl),hp⟩
theorem c34 {x0 : Int} {x1 : Int} {r : Bool} (h : F34 x0 x1 = some r) (s : Bool) : Fn T 34 [(i6 x0),(i6 x1)] [] (fun v hh => deep s hh deepN v = some (EB.e r)) := by
  refine (w34 h HP.nil).mono ?_;rintro v hh ⟨rfl,hp⟩;exact EB.hd s hh 38 _ (.inr rfl)
abbrev Q38 (L : List Ob) (r : Bool) : V → Heap → Prop := fun v h => v = EB.e r ∧ HP h (L)
abbrev RR38 (L : List Ob) (r : Bool) : List V → Heap → Prop := fun e h => endR none [4] (Q38 L r) e h
def F38 (x0 : Int) (x1 : Int) : Option Bool :=
  if (decide (x0 ≥ (0 : Int))) then
    some (decide (x0 < x1))
  else
    some false
theorem w38 {x0 : Int} {x1 : Int} {r : Bool} (h : F38 x0 x1 = some r) {H : Heap} {L : List Ob} (hp : HP H (L)) : Fn T 38 [(i6 x0),(i6 x1)] H (Q38 L r) := by
  refine Fn.enterE t38 (e0 := (mkE [(0,(i6 x0)),(0,(i6 x1))] 10)) (by kernel_rfl) ?_;show Run T (.clr [] i38n3) _ _ (finE none [4] (Q38 L r));refine Rn.k (mkE [(0,(i6 x0)),(0,(i6 x1))] 10) ?_;unfold F38 at h;refine Rn.g ?_;refine Ro.t 1 ?_;refine Ro.d (mkE [(0,(i6 x0)),(0,(i6 x1))] 10) ?_;refine Rn.g ?_;refine Ro.t 1 ?_;rcases tf (decide (x0 ≥ (0 : Int))) with h48 | h48
  · rw [ite_t h48] at h; refine Ro.p (bool_of h48) ?_;refine Ro.t 6 ?_;refine Ro.d (mkE [(4,(V.bool (decide (x0 < x1))))] 7) ?_;refine Run.ret ?_;have h := Option.some.inj h; subst h;exact ⟨(V.bool (decide (x0 < x1))),(by kernel_rfl),(by kernel_rfl),hp⟩
  · rw [ite_f h48] at h; refine Ro.p (bool_of h48) ?_;refine Ro.t 6 ?_;refine Ro.d (mkE [(4,(V.bool false))] 7) ?_;refine Run.ret ?_;have h := Option.some.inj h; subst h;exact ⟨(V.bool false),(by kernel_rfl),(by kernel_rfl),hp⟩
theorem c38 {x0 : Int} {x1 : Int} {r : Bool} (h : F38 x0 x1 = some r) (s : Bool) : Fn T 38 [(i6 x0),(i6 x1)] [] (fun v hh => deep s hh deepN v = some (EB.e r)) := by
  refine (w38 h HP.nil).mono ?_;rintro v hh ⟨rfl,hp⟩;exact EB.hd s hh 38 _ (.inr rfl)
end Go.Eng.Gra
namespace Go.Eng
open Go
set_option linter.unusedSectionVars false
set_option linter.unusedVariables false
set_option linter.unusedSimpArgs false
def Ok {σ R A : Type} (I : Nat → σ → Prop) (m : Nat) (P : Out R A → Prop) : Stp σ R A → Prop
  | .next s => ∃ m',m' < m ∧ I m' s
  | .ret r => P (.ret r)
  | .go a => P (.go a)
theorem iter_ok {σ R A : Type} {f : σ → Option (Stp σ R A)} {I : Nat → σ → Prop} {P : Out R A → Prop} (h : ∀ m s,I m s → ∃ t,f s = some t ∧ Ok I m P t) : ∀ (n m : Nat) (s : σ),I m s → m < n → ∃ o,iter f n s = some o ∧ P o
  | 0,m,s,_,hm => by omega
  | n + 1,m,s,hI,hm => by
    obtain ⟨t,ht,hok⟩ := h m s hI;rw [iter_succ,ht];cases t with
    | next s' =>
      obtain ⟨m',hm',hI'⟩ := hok;exact iter_ok h n m' s' hI' (by omega)
    | ret r => exact ⟨_,rfl,hok⟩
    | go a => exact ⟨_,rfl,hok⟩
theorem iter_eq {σ R A : Type} {f : σ → Option (Stp σ R A)} (I : Nat → σ → Prop) (o : Out R A) (h : ∀ m s,I m s → ∃ t,f s = some t ∧ Ok I m (· = o) t) {m : Nat} {s : σ} (hI : I m s) (hm : m < 4611686018427387904) : iter f FUEL s = some o := by
  obtain ⟨o',h1,rfl⟩ := iter_ok h FUEL m s hI (by unfold FUEL; exact hm);exact h1
theorem wsucc' {x : Int} (h0 : 0 ≤ x) (h1 : x ≤ 4611686018427387904) : IntKind.i64.wrap (x + 1) = x + 1 := wrap64_in (by omega) (by omega)
theorem wnat {x : Nat} (h1 : x ≤ 4611686018427387904) : IntKind.i64.wrap ((x : Int) + 1) = ((x + 1 : Nat) : Int) := by rw [wsucc' (by omega) (by omega)]; rfl
theorem idx_nat {α : Type} {l : List α} {i : Nat} : idx l (i : Int) = l[i]? := by
  unfold idx; rw [if_pos (by omega),Int.toNat_natCast]
theorem idx_get {α : Type} {l : List α} {i : Nat} (h : i < l.length) : idx l (i : Int) = some l[i] := by rw [idx_nat,List.getElem?_eq_getElem h]
theorem idx_some {α : Type} {l : List α} {i : Nat} {a : α} (h : l[i]? = some a) : idx l (i : Int) = some a := by rw [idx_nat,h]
theorem part_nat {α : Type} {l : List α} {a b : Nat} (h : a ≤ b) (hb : b ≤ l.length) : part l (a : Int) (b : Int) = some ((l.drop a).take (b - a)) := by
  unfold part;rw [if_pos ⟨by omega,by omega,by omega⟩,Int.toNat_natCast,Int.toNat_natCast,List.drop_take]
theorem more_nat {α : Type} {by_ : Nat} {l r : List α} (h : (l.length + r.length) * by_ ≤ 140737488355328) : more by_ l r = some (l ++ r) := by unfold more; rw [if_pos h]
theorem upd_nat {α : Type} {l : List α} {i : Nat} {a : α} (h : i < l.length) : upd l (i : Int) a = some (l.set i a) := by
  unfold upd; rw [if_pos ⟨by omega,by omega⟩,Int.toNat_natCast]
theorem made_nat {α : Type} {by_ : Nat} {a : α} {n : Nat} (h : n * by_ ≤ 140737488355328) (hn : n < 9223372036854775808) : made by_ a (n : Int) = some (List.replicate n a) := by
  unfold made;have e : (n : Int) * (by_ : Int) = ((n * by_ : Nat) : Int) := by simp
  rw [if_pos ⟨by omega,by rw [e]; omega,by omega⟩,Int.toNat_natCast]
theorem scat_of {a b : List UInt8} (h : a.length + b.length ≤ 4611686018427387904) : scat a b = some (a ++ b) := by unfold scat; rw [if_pos h]
def nums (l : List UInt8) : List Int := l.map fun b => (b.toNat : Int)
theorem nums_len (l : List UInt8) : (nums l).length = l.length := by simp [nums]
theorem bstr_nums : ∀ (l : List UInt8),bstr (nums l) = some l
  | [] => rfl
  | b :: l => by
    have ih := bstr_nums l;unfold bstr at ih ⊢;simp only [nums,List.map_cons,omap] at ih ⊢;have hb := b.toNat_lt;rw [ih,if_pos (by omega)]
    simp
end Go.Eng
namespace Go.Eng.Gra
open Go Go.Eng
set_option linter.unusedSectionVars false
set_option linter.unusedVariables false
set_option linter.unusedSimpArgs false
set_option maxRecDepth 20000
def nextV (b : T_Block) : List Int :=
  if b.fTerm.fKind = 1 then [b.fTerm.fTo.a0]
  else if b.fTerm.fKind = 2 then (if b.fTerm.fTo.a0 = b.fTerm.fTo.a1 then [b.fTerm.fTo.a0] else if b.fTerm.fTo.a0 < b.fTerm.fTo.a1 then [b.fTerm.fTo.a0,b.fTerm.fTo.a1] else [b.fTerm.fTo.a1,b.fTerm.fTo.a0])
  else []
theorem F18_is (b : T_Block) : F18 b = some (nextV b) := by
  simp only [F18,F18_j1,F18_j2,nextV]
  split <;> split <;> split <;> (try split) <;> (try split) <;> (try split) <;> simp_all <;> omega
def F15 (b : T_Block) : Option (List Int) := some (nextV b)
def X.nrm? : X → Bool | .nrm => true | _ => false
def X.ret? : X → Bool | .ret => true | _ => false
theorem Run.nowC {T : Nat → Option IFun} {ir : Ir} {env : List V} {H : Heap} {Q : X → List V → Heap → Prop} {ts : List Nat} {b : Ir} (k : Nat) {e' : List V} {H' : Heap} (hx : (exec noF k ir env H).map (fun r => (X.nrm? r.1,clrEnv ts r.2.1,r.2.2)) = some (true,e',H')) (h : Run T b e' H' Q) : Run T ir env H (thn T (.clr ts b) Q) := by
  cases he : exec noF k ir env H with
  | none => rw [he] at hx; cases hx
  | some r =>
    obtain ⟨x,e,h1⟩ := r;rw [he] at hx; simp only [Option.map_some,Option.some.injEq,Prod.mk.injEq] at hx;obtain ⟨hx,rfl,rfl⟩ := hx;cases x with
    | nrm => exact ⟨k,.nrm,e,h1,exec_mono (F' := exF T k) (noF_le _) k (Nat.le_refl k) he,Run.clr h⟩
    | ret => cases hx
    | ext i => cases hx
theorem Run.nowQ {T : Nat → Option IFun} {ir : Ir} {env : List V} {H : Heap} {Q : X → List V → Heap → Prop} (k : Nat) {e' : List V} (hx : (exec noF k ir env H).map (fun r => (X.nrm? r.1,r.2.1,r.2.2)) = some (true,e',H)) (h : Q .nrm e' H) : Run T ir env H Q := by
  cases he : exec noF k ir env H with
  | none => rw [he] at hx; cases hx
  | some r =>
    obtain ⟨x,e,h1⟩ := r;rw [he] at hx; simp only [Option.map_some,Option.some.injEq,Prod.mk.injEq] at hx;obtain ⟨hx,rfl,rfl⟩ := hx;cases x with
    | nrm => exact ⟨k,.nrm,e,h1,exec_mono (F' := exF T k) (noF_le _) k (Nat.le_refl k) he,h⟩
    | ret => cases hx
    | ext i => cases hx
theorem Run.nowR {T : Nat → Option IFun} {ir : Ir} {env : List V} {H : Heap} {Q : X → List V → Heap → Prop} {cs : Option (List (Option Sh))} {res : List Nat} {QF : V → Heap → Prop} (k : Nat) {v : V} {H' : Heap} (hx : (exec noF k ir env H).map (fun r => (X.ret? r.1,resW cs res r.2.1 r.2.2,r.2.2)) = some (true,some v,H')) (h : QF v H') (hQ : ∀ e h,endR cs res QF e h → Q .ret e h) : Run T ir env H Q := by
  cases he : exec noF k ir env H with
  | none => rw [he] at hx; cases hx
  | some r =>
    obtain ⟨x,e,h1⟩ := r;rw [he] at hx; simp only [Option.map_some,Option.some.injEq,Prod.mk.injEq] at hx;obtain ⟨hx,hv,rfl⟩ := hx;cases x with
    | nrm => cases hx
    | ret => exact ⟨k,.ret,e,h1,exec_mono (F' := exF T k) (noF_le _) k (Nat.le_refl k) he,hQ e h1 ⟨v,hv,h⟩⟩
    | ext i => cases hx
theorem Run.nowK {T : Nat → Option IFun} {ir : Ir} {env : List V} {H : Heap} {Q : X → List V → Heap → Prop} {ts : List Nat} {b : Ir} (k : Nat) {e' : List V} (hx : (exec noF k ir env H).map (fun r => (X.nrm? r.1,clrEnv ts r.2.1,r.2.2)) = some (true,e',H)) (h : Run T b e' H Q) : Run T ir env H (thn T (.clr ts b) Q) := Run.nowC k hx h
abbrev S2 : V := .sl 1 0 0 2 1 false
theorem two_same (p : Int) (o : List V) : Fn T 37 [S2] [(0,o),(0,[.int .i64 p,.int .i64 p])] (fun v h => v = .sl 1 0 0 1 1 false ∧ h = [(0,o),(0,[.int .i64 p,.int .i64 0])]) := by
  refine Fn.enterE t37 (e0 := mkE [(0,S2)] 60) (by kernel_rfl) ?_;show Run T (.clr [] i37n48) _ _ (finE none [2] _);refine Run.clrE (e' := mkE [(0,S2)] 60) (by kernel_rfl) ?_;refine Run.seq (Run.nowK 9 (e' := mkE [(0,S2)] 60) (by kernel_rfl) ?_);refine Run.seq (Run.nowK 9 (e' := mkE [(0,S2)] 60) (by kernel_rfl) ?_);refine Run.seq (Run.seq (Run.nowK 9 (e' := mkE [(0,S2),(2,.int .i64 1)] 57) (by kernel_rfl) ?_));refine Run.block (Run.loop1 (Run.clrE (e' := mkE [(0,S2),(2,.int .i64 1)] 57) (by kernel_rfl) ?_));refine Run.seq (Run.nowK 9 (e' := mkE [(0,S2),(2,.int .i64 1)] 57) (by kernel_rfl) ?_);refine Run.seq (Run.block (Run.seq (Run.nowK 9 (e' := mkE [(0,S2),(2,.int .i64 1),(21,.bool (decide (p = p)))] 35) (by kernel_rfl) ?_)));refine Run.condT (by rw [decide_eq_true (rfl : p = p)]; kernel_rfl) ?_;refine Run.nowR 30 (cs := none) (res := [2]) (v := .sl 1 0 0 1 1 false) (H' := [(0,o),(0,[.int .i64 p,.int .i64 0])]) (by kernel_rfl) ⟨rfl,rfl⟩ (fun e h hh => hh)
theorem two_diff {p q : Int} (hpq : q ≠ p) (o : List V) : Fn T 37 [S2] [(0,o),(0,[.int .i64 p,.int .i64 q])] (fun v h => v = S2 ∧ h = [(0,o),(0,[.int .i64 p,.int .i64 q])]) := by
  refine Fn.enterE t37 (e0 := mkE [(0,S2)] 60) (by kernel_rfl) ?_;show Run T (.clr [] i37n48) _ _ (finE none [2] _);refine Run.clrE (e' := mkE [(0,S2)] 60) (by kernel_rfl) ?_;refine Run.seq (Run.nowK 9 (e' := mkE [(0,S2)] 60) (by kernel_rfl) ?_);refine Run.seq (Run.nowK 9 (e' := mkE [(0,S2)] 60) (by kernel_rfl) ?_);refine Run.seq (Run.seq (Run.nowK 9 (e' := mkE [(0,S2),(2,.int .i64 1)] 57) (by kernel_rfl) ?_));refine Run.block (Run.loop1 (Run.clrE (e' := mkE [(0,S2),(2,.int .i64 1)] 57) (by kernel_rfl) ?_));refine Run.seq (Run.nowK 9 (e' := mkE [(0,S2),(2,.int .i64 1)] 57) (by kernel_rfl) ?_);refine Run.seq (Run.block (Run.seq (Run.nowK 9 (e' := mkE [(0,S2),(2,.int .i64 1),(21,.bool (decide (q = p)))] 35) (by kernel_rfl) ?_)));refine Run.condF (by rw [decide_eq_false hpq]; kernel_rfl) ?_;refine Run.skip ?_;show Run T (.clr _ (.rgn i37r38)) _ _ _;refine Run.clrE (e' := mkE [(0,S2),(2,.int .i64 1)] 57) (by kernel_rfl) ?_;refine Run.nowQ 9 (e' := mkE [(0,S2),(2,.int .i64 2),(10,.int .i64 1),(0,.int .i64 2)] 45) (by kernel_rfl) ?_;show Run T (.loop _) _ _ _;refine Run.loop1 (Run.clrE (e' := mkE [(0,S2),(2,.int .i64 2)] 57) (by kernel_rfl) ?_);refine Run.seq (Run.seq (Run.nowK 9 (e' := mkE [(0,S2),(2,.int .i64 2),(9,.bool false)] 47) (by kernel_rfl) ?_));refine Run.condF (by kernel_rfl) ?_;refine Run.exit ?_;show Run T (.clr _ i37n45) _ _ _;refine Run.clrE (e' := mkE [(0,S2)] 60) (by kernel_rfl) ?_;refine Run.nowR 30 (cs := none) (res := [2]) (v := S2) (H' := [(0,o),(0,[.int .i64 p,.int .i64 q])]) (by kernel_rfl) ⟨rfl,rfl⟩ (fun e h hh => hh)
theorem c15 {x0 : T_Block} {r : List Int} (h : F15 x0 = some r) : Fn T 15 [(E_Block.e x0)] [] (fun v hh => deep false hh deepN v = some ((EL (EI .i64)).e r)) := by
  obtain rfl : nextV x0 = r := Option.some.inj h;refine Fn.enterE t15 (e0 := mkE [(0,E_Block.e x0)] 30) (by kernel_rfl) ?_;show Run T (.clr [] i15n21) _ _ (finE none [2] _);refine Run.clrE (e' := mkE [(0,E_Block.e x0)] 30) (by kernel_rfl) ?_;refine Run.seq (Run.nowK 9 (e' := mkE [(1,.fp (E_Block.e x0))] 29) (by kernel_rfl) ?_);refine Run.seq (Run.nowC 9 (e' := mkE [(1,.fp (E_Block.e x0)),(1,.ptr 0 0 0)] 27) (H' := [(0,[.int .i64 x0.fTerm.fTo.a0,.int .i64 x0.fTerm.fTo.a1])]) (by kernel_rfl) ?_);refine Run.seq (Run.seq (Run.nowK 9 (e' := mkE [(3,.ptr 0 0 0),(6,.int .u8 x0.fTerm.fKind)] 20) (by kernel_rfl) ?_));refine Run.block (Run.seq (Run.nowK 9 (e' := mkE [(3,.ptr 0 0 0),(6,.int .u8 x0.fTerm.fKind),(0,.bool (decide (x0.fTerm.fKind = 1)))] 19) (by kernel_rfl) ?_))
  by_cases h1 : x0.fTerm.fKind = 1
  · refine Run.condT (by rw [decide_eq_true h1]; kernel_rfl) ?_;refine Run.nowR 30 (cs := none) (res := [2]) (v := .fz [.int .i64 x0.fTerm.fTo.a0]) (H' := [(0,[.int .i64 x0.fTerm.fTo.a0,.int .i64 x0.fTerm.fTo.a1])]) (by kernel_rfl) ?_ (fun e h hh => hh);rw [show nextV x0 = [x0.fTerm.fTo.a0] by simp [nextV,h1]]; rfl
  refine Run.condF (by rw [decide_eq_false h1]; kernel_rfl) ?_;refine Run.seq (Run.nowK 9 (e' := mkE [(3,.ptr 0 0 0),(12,.bool (decide (x0.fTerm.fKind = 2)))] 14) (by kernel_rfl) ?_)
  by_cases h2 : x0.fTerm.fKind = 2
  · refine Run.condT (by rw [decide_eq_true h2]; kernel_rfl) ?_
    generalize ha : x0.fTerm.fTo.a0 = a
    generalize hb : x0.fTerm.fTo.a1 = b
    refine Run.seq (Run.nowC 9 (e' := mkE [(4,S2)] 26) (H' := [(0,[.int .i64 a,.int .i64 b]),(0,[.int .i64 (if b < a then b else a),.int .i64 (if a < b then b else a)])]) (by kernel_rfl) ?_);refine Run.seq (Run.rgn (RunO.tk 1 (by kernel_rfl) ?_));refine RunO.h1 (n := 37) (caps := []) (us := [S2]) (by kernel_rfl) (by kernel_rfl) (by kernel_rfl) ?_
    by_cases hab : a = b
    · subst hab;simp only [Int.lt_irrefl,if_false];refine (two_same a _).mono ?_;rintro v hh ⟨rfl,rfl⟩;refine RunO.tk 1 (by kernel_rfl) ?_;refine RunO.nil ?_;refine Run.clrE (e' := mkE [(2,.sl 1 0 0 1 1 false)] 28) (by kernel_rfl) ?_;refine Run.nowR 30 (cs := none) (res := [2]) (v := .sl 1 0 0 1 1 false) (H' := [(0,[.int .i64 a,.int .i64 a]),(0,[.int .i64 a,.int .i64 0])]) (by kernel_rfl) ?_ (fun e h hh => hh);rw [show nextV x0 = [a] by simp [nextV,h2,ha,hb]]; rfl
    · have hne : (if a < b then b else a) ≠ (if b < a then b else a) := by split <;> split <;> omega
      refine (two_diff hne _).mono ?_;rintro v hh ⟨rfl,rfl⟩;refine RunO.tk 1 (by kernel_rfl) ?_;refine RunO.nil ?_;refine Run.clrE (e' := mkE [(2,S2)] 28) (by kernel_rfl) ?_;refine Run.nowR 30 (cs := none) (res := [2]) (v := S2) (H' := [(0,[.int .i64 a,.int .i64 b]),(0,[.int .i64 (if b < a then b else a),.int .i64 (if a < b then b else a)])]) (by kernel_rfl) ?_ (fun e h hh => hh);have he : nextV x0 = [(if b < a then b else a),(if a < b then b else a)] := by
        rcases Int.lt_or_gt_of_ne hab with hl | hl
        · simp [nextV,h2,ha,hb,hab,hl,show ¬ b < a by omega]
        · simp [nextV,h2,ha,hb,hab,show ¬ a < b by omega,show b < a from hl]
      rw [he]; rfl
  · refine Run.condF (by rw [decide_eq_false h2]; kernel_rfl) ?_;refine Run.skip ?_;show Run T (.clr _ i15n18) _ _ _;refine Run.clrE (e' := mkE [] 31) (by kernel_rfl) ?_;refine Run.nowR 30 (cs := none) (res := [2]) (v := .nils) (H' := [(0,[.int .i64 x0.fTerm.fTo.a0,.int .i64 x0.fTerm.fTo.a1])]) (by kernel_rfl) ?_ (fun e h hh => hh);rw [show nextV x0 = [] by simp [nextV,h1,h2]]; rfl
end Go.Eng.Gra
namespace Go.Eng.Gra
open Go Go.Eng
set_option linter.unusedSectionVars false
set_option linter.unusedVariables false
set_option linter.unusedSimpArgs false
set_option maxRecDepth 20000
def addR (n : Nat) (i : Int) (rows : List (List Int)) (k : Int) : List (List Int) := if 0 ≤ k ∧ k < n then rows.set k.toNat (rows.getD k.toNat [] ++ [i]) else rows
def aheadS (bs : List T_Block) : Nat → List (List Int)
  | 0 => List.replicate bs.length []
  | i + 1 => match bs[i]? with
    | some b => (nextV b).foldl (addR bs.length i) (aheadS bs i)
    | none => aheadS bs i
def aheadV (bs : List T_Block) : List (List Int) := aheadS bs bs.length
def F13 (g : T_Graph) : Option (List (List Int)) := if g.fBlocks.length ≤ 1048576 then some (aheadV g.fBlocks) else none
def F20 (g : T_Graph) : Option (List (List Int)) := if g.fBlocks.length ≤ 1048576 then some (aheadV g.fBlocks) else none
theorem addR_len (n : Nat) (i : Int) (rows : List (List Int)) (k : Int) : (addR n i rows k).length = rows.length := by unfold addR; split <;> simp
theorem fold_len (n : Nat) (i : Int) : ∀ (l : List Int) (rows : List (List Int)),(l.foldl (addR n i) rows).length = rows.length
  | [],rows => rfl
  | k :: l,rows => by rw [List.foldl_cons,fold_len n i l,addR_len]
theorem aheadS_len (bs : List T_Block) : ∀ i,(aheadS bs i).length = bs.length
  | 0 => by simp [aheadS]
  | i + 1 => by
    have := aheadS_len bs i;simp only [aheadS]; split
    · rw [fold_len]; exact this
    · exact this
theorem addR_row {n : Nat} {i : Int} {rows : List (List Int)} {k : Int} {c : Nat} (h : ∀ r ∈ rows,r.length ≤ c) : ∀ r ∈ addR n i rows k,r.length ≤ c + 1 := by
  intro r hr;unfold addR at hr
  split at hr
  · rcases List.mem_or_eq_of_mem_set hr with h1 | h1
    · have := h r h1; omega
    · subst h1
      by_cases hl : k.toNat < rows.length
      · have e : rows.getD k.toNat [] = rows[k.toNat] := by simp [List.getD,hl]
        have := h _ (List.getElem_mem hl);rw [e,List.length_append,List.length_singleton]; omega
      · have e : rows.getD k.toNat [] = [] := by simp [List.getD,hl]
        rw [e]; simp
  · have := h r hr; omega
theorem fold_row {n : Nat} {i : Int} : ∀ (l : List Int) {rows : List (List Int)} {c : Nat} (h : ∀ r ∈ rows,r.length ≤ c),∀ r ∈ l.foldl (addR n i) rows,r.length ≤ c + l.length
  | [],rows,c,h => h
  | k :: l,rows,c,h => by
    rw [List.foldl_cons];intro r hr;have := fold_row l (addR_row (n := n) (i := i) (k := k) h) r hr;rw [List.length_cons]; omega
theorem next_le (b : T_Block) : (nextV b).length ≤ 2 := by unfold nextV; split <;> (try split) <;> (try split) <;> (try split) <;> simp
theorem aheadS_row (bs : List T_Block) : ∀ i,∀ r ∈ aheadS bs i,r.length ≤ 2 * i
  | 0 => by intro r hr; simp [aheadS] at hr; rw [hr.2]; simp
  | i + 1 => by
    have ih := aheadS_row bs i;simp only [aheadS]; split
    · rename_i b _
      intro r hr;have := fold_row (nextV b) ih r hr;have := next_le b
      omega
    · intro r hr; have := ih r hr; omega
theorem aheadS_step {bs : List T_Block} {i : Nat} {b : T_Block} (h : bs[i]? = some b) : aheadS bs (i + 1) = (nextV b).foldl (addR bs.length i) (aheadS bs i) := by simp only [aheadS,h]
theorem addR_in {n : Nat} {i k : Int} {rows : List (List Int)} (h : 0 ≤ k ∧ k < n) (hk : k.toNat < rows.length) : addR n i rows k = rows.set k.toNat (rows[k.toNat] ++ [i]) := by
  unfold addR; rw [if_pos h]; simp [List.getD,hk]
theorem addR_out {n : Nat} {i k : Int} {rows : List (List Int)} (h : ¬ (0 ≤ k ∧ k < n)) : addR n i rows k = rows := by unfold addR; rw [if_neg h]
theorem in34 (k n : Int) : F34 k n = some (decide (0 ≤ k ∧ k < n)) := by
  unfold F34
  by_cases h : 0 ≤ k <;> simp [h]
theorem in38 (k n : Int) : F38 k n = some (decide (0 ≤ k ∧ k < n)) := by
  unfold F38
  by_cases h : 0 ≤ k <;> simp [h]
theorem mks_nils (H : Heap) (n : Nat) (hn : n ≤ 1048576) : mksV H 1 false [.nils] 24 (.int .i64 (n : Int)) (.int .i64 (n : Int)) = some (.sl H.length 0 0 n 1 false,H ++ [(0,List.replicate n .nils)]) := by
  have h1 : (n : Int) * ((24 : Nat) : Int) ≤ 140737488355328 := by omega
  have h2 : (n : Int) < 9223372036854775808 := by omega
  have e : (List.replicate n [V.nils]).flatten = List.replicate n V.nils := by
    induction n with
    | zero => rfl
    | succ n ih => rw [List.replicate_succ,List.flatten_cons,ih (by omega) (by omega) (by omega)]; rfl
  simp only [mksV,Int.toNat_natCast,e];rw [if_pos ⟨by omega,by omega,h1,h2⟩]
theorem Grid.grow {base : Nat} {H : Heap} {b : Nat} {rows : List (List Int)} {vs : List V} {loc : Nat → Option (Nat × Nat)} (G : Grid base H b rows vs loc) (x : Nat × List V) : Grid base (H ++ [x]) b rows vs loc := by
  have up : ∀ {c : Nat} {y : Nat × List V},H[c]? = some y → (H ++ [x])[c]? = some y := by
    intro c y h;rw [List.getElem?_append_left (List.getElem?_eq_some_iff.mp h).1]; exact h
  refine ⟨up G.out,G.len,fun k r hk => ?_,G.low,G.inj⟩;obtain ⟨v,h1,h2⟩ := G.row k r hk;refine ⟨v,h1,?_⟩;unfold RowV at h2 ⊢
  split at h2
  · exact h2
  · exact ⟨h2.1,up h2.2⟩
theorem rows_deep {base : Nat} {H : Heap} {b : Nat} {rows : List (List Int)} {vs : List V} {loc : Nat → Option (Nat × Nat)} (G : Grid base H b rows vs loc) (s : Bool) : deep s H deepN (.sl b 0 0 rows.length 1 false) = some ((EL (EL (EI .i64))).e rows) := by
  obtain ⟨ws,h1,h2,h3⟩ := G.deep (strict := s) (.inr trivial);rw [h1];have : ws = rows.map (EL (EI .i64)).e := by
    refine List.ext_getElem? fun k => ?_
    rw [List.getElem?_map];cases hr : rows[k]? with
    | none =>
      rw [List.getElem?_eq_none_iff] at hr;rw [List.getElem?_eq_none (by omega)]; rfl
    | some r =>
      rcases h3 k r hr with h | ⟨rfl,h⟩
      · rw [h]; rfl
      · rw [h]; rfl
  rw [this]; rfl
abbrev Zb : List V := [(.fz []),(.int .u8 0),(.int .i64 0),(.int .i64 0),(.int .i64 0),(.int .u8 0)]
theorem st_last (H : Heap) (b : T_Block) : stV (H ++ [(0,Zb)]) (.ptr H.length 0 0) (E_Block.e b) (some 6) = some (H ++ [(0,E_Block.c b)]) := by
  have h1 : (H ++ [(0,Zb)])[H.length]? = some (0,Zb) := by simp
  simp only [stV,rdB_of h1]
  simp [E_Block,fitsSh,V.isCell,V.cells,Zb,EL,EI,List.set_append]
  rfl
theorem ld_last (H : Heap) (b : T_Block) : ldV (H ++ [(0,E_Block.c b)]) (.ptr H.length 0 0) (some 6) = some (E_Block.e b) := by
  have h1 : (H ++ [(0,E_Block.c b)])[H.length]? = some (0,E_Block.c b) := by simp
  simp only [ldV,rdB_of h1]
  rfl
def e13a (bs : List T_Block) (i : Int) : List V := mkE [(3,.sl 0 0 0 bs.length 1 false),(9,.fz (bs.map E_Block.e)),(0,.int .i64 (bs.length : Int)),(0,.int .i64 i)] 28
def e13b (bs : List T_Block) (l : List Int) (i j : Int) : List V := mkE [(3,.sl 0 0 0 bs.length 1 false),(0,.int .i64 i),(8,.fz (bs.map E_Block.e)),(0,.int .i64 (bs.length : Int)),(0,.int .i64 i),(5,.fz (l.map (EI .i64).e)),(0,.int .i64 (l.length : Int)),(0,.int .i64 j)] 20
theorem c13s {x0 : T_Graph} {r : List (List Int)} (h : F13 x0 = some r) (s : Bool) : Fn T 13 [(E_Graph.e x0)] [] (fun v hh => deep s hh deepN v = some ((EL (EL (EI .i64))).e r)) := by
  unfold F13 at h
  split at h
  case isFalse => cases h
  rename_i hn
  cases h
  generalize hbs : x0.fBlocks = bs at hn
  refine Fn.enterE t13 (e0 := mkE [(0,E_Graph.e x0)] 43) (by kernel_rfl) ?_;show Run T (.clr [] i13n36) _ _ (finE none [2] _);refine Run.clrE (e' := mkE [(0,E_Graph.e x0)] 43) (by kernel_rfl) ?_;refine Run.seq (Run.nowK 9 (e' := mkE [(1,.fp (E_Graph.e x0))] 42) (by kernel_rfl) ?_);refine Run.seq (Run.rgn (RunO.tk 2 (by kernel_rfl) ?_));refine RunO.p1 (by kernel_rfl) rfl (by kernel_rfl) (len_fz E_Block x0.fBlocks) ?_;rw [hbs];refine RunO.w1 (by kernel_rfl) rfl (by kernel_rfl) (mks_nils [] bs.length hn) ?_;refine RunO.tk 1 (by kernel_rfl) ?_;refine RunO.done (e' := mkE [(1,.fp (E_Graph.e x0)),(1,.sl 0 0 0 bs.length 1 false)] 40) (by kernel_rfl) ?_;refine Run.seq (Run.seq (Run.rgn (RunO.tk 2 (by kernel_rfl) ?_)));refine RunO.p1 (by kernel_rfl) rfl (by kernel_rfl) (len_fz E_Block x0.fBlocks) ?_;refine RunO.tk 1 (by kernel_rfl) ?_;rw [hbs];refine RunO.done (e' := e13a bs 0) (by rw [← hbs]; kernel_rfl) ?_;refine Run.block ?_;refine Run.loopc (fun n e h => ∃ (i : Nat) (x : Int) (vs : List V) (loc : Nat → Option (Nat × Nat)),x = (i : Int) ∧ i ≤ bs.length ∧ n = bs.length - i ∧ Grid 0 h 0 (aheadS bs i) vs loc ∧ e = e13a bs x) bs.length ⟨0,0,_,_,rfl,by omega,by omega,Grid.make 0 [] bs.length (by simp),by kernel_rfl⟩ ?_;rintro n e h ⟨i,x,vs,loc,hx,hi,rfl,G,rfl⟩;refine Run.seq (Run.rgn (RunO.tk 1 (by kernel_rfl) ?_));refine RunO.done (e' := mkE [(3,.sl 0 0 0 bs.length 1 false),(9,.fz (bs.map E_Block.e)),(0,.int .i64 (bs.length : Int)),(0,.int .i64 x),(0,.bool (decide (x < (bs.length : Int))))] 27) (by kernel_rfl) ?_;refine Run.seq ?_
  by_cases hlt : i < bs.length
  · refine Run.condT (by rw [decide_eq_true (show x < (bs.length : Int) by omega)]; kernel_rfl) ?_;refine Run.skip ?_;refine Run.clrE (e' := e13a bs x) (by kernel_rfl) ?_;have hbi : bs[i]? = some bs[i] := List.getElem?_eq_getElem hlt
    generalize bs[i] = b at hbi
    refine Run.seq (Run.block (Run.seq (Run.rgn (RunO.tk 1 (by kernel_rfl) ?_))));refine RunO.p1 (by kernel_rfl) rfl (by kernel_rfl) (idx_fz E_Block (l := bs) (i := x) (a := b) .i64 (by rw [hx]; exact idx_some hbi)) ?_;refine RunO.tk 1 (by kernel_rfl) ?_;refine RunO.w1 (u := .ptr h.length 0 0) (H1 := h ++ [(0,Zb)]) (by kernel_rfl) rfl rfl rfl ?_;refine RunO.tk 1 (by kernel_rfl) ?_;refine RunO.w1 (u := .sk) (H1 := h ++ [(0,E_Block.c b)]) (by kernel_rfl) rfl rfl (by show (stV _ (.ptr h.length 0 0) (E_Block.e b) (some 6)).map _ = _; rw [st_last]; rfl) ?_;have G := Grid.grow G (0,E_Block.c b);refine RunO.done (e' := mkE [(3,.sl 0 0 0 bs.length 1 false),(0,.int .i64 x),(0,.ptr h.length 0 0),(7,.fz (bs.map E_Block.e)),(0,.int .i64 (bs.length : Int)),(0,.int .i64 x)] 28) (by kernel_rfl) ?_;refine Run.seq (Run.rgn (RunO.p1 (by kernel_rfl) rfl (by kernel_rfl) (ld_last h b) ?_));refine RunO.c2 (by kernel_rfl) (by kernel_rfl) (by kernel_rfl) (c15 (x0 := b) rfl) ?_;refine RunO.p1 (by kernel_rfl) rfl (by kernel_rfl) (len_fz (EI .i64) (nextV b)) ?_;refine RunO.tk 1 (by kernel_rfl) ?_;refine RunO.done (e' := e13b bs (nextV b) x 0) (by kernel_rfl) ?_;have hst := aheadS_step hbi;have hnl := next_le b
    generalize nextV b = l at hst hnl
    have hrow : ∀ j,j ≤ l.length → ∀ r ∈ (l.take j).foldl (addR bs.length i) (aheadS bs i),r.length ≤ 1099511627776 := by
      intro j hj r hr;have := fold_row (l.take j) (aheadS_row bs i) r hr;rw [List.length_take] at this; omega
    have hlen : ∀ j,((l.take j).foldl (addR bs.length i) (aheadS bs i)).length = bs.length := fun j => by rw [fold_len,aheadS_len]
    refine Run.block ?_;refine Run.loopc (fun n e h => ∃ (j : Nat) (y : Int) (vs : List V) (loc : Nat → Option (Nat × Nat)),y = (j : Int) ∧ j ≤ l.length ∧ n = l.length - j ∧ Grid 0 h 0 ((l.take j).foldl (addR bs.length i) (aheadS bs i)) vs loc ∧ e = e13b bs l x y) l.length ⟨0,0,_,_,rfl,by omega,by omega,G,by kernel_rfl⟩ ?_;rintro n e h ⟨j,y,vs,loc,hy,hj,rfl,G,rfl⟩;refine Run.seq (Run.rgn (RunO.tk 1 (by kernel_rfl) ?_));refine RunO.done (e' := mkE [(3,.sl 0 0 0 bs.length 1 false),(0,.int .i64 x),(8,.fz (bs.map E_Block.e)),(0,.int .i64 (bs.length : Int)),(0,.int .i64 x),(5,.fz (l.map (EI .i64).e)),(0,.int .i64 (l.length : Int)),(0,.int .i64 y),(0,.bool (decide (y < (l.length : Int))))] 19) (by kernel_rfl) ?_;refine Run.seq ?_
    by_cases hjl : j < l.length
    · refine Run.condT (by rw [decide_eq_true (show y < (l.length : Int) by omega)]; kernel_rfl) ?_;refine Run.skip ?_;refine Run.clrE (e' := e13b bs l x y) (by kernel_rfl) ?_;have hlj : l[j]? = some l[j] := List.getElem?_eq_getElem hjl;have hstep : (l.take (j + 1)).foldl (addR bs.length i) (aheadS bs i) = addR bs.length i ((l.take j).foldl (addR bs.length i) (aheadS bs i)) l[j] := by
        rw [List.take_succ_eq_append_getElem hjl,List.foldl_append]; rfl
      generalize l[j] = k at hlj hstep
      have hadd : IntKind.i64.wrap (y + 1) = ((j + 1 : Nat) : Int) := by rw [hy,wrap64_in (by omega) (by omega)]; omega
      refine Run.seq (Run.block (Run.seq (Run.rgn ?_)));refine RunO.p1 (by kernel_rfl) rfl (by kernel_rfl) (idx_fz (EI .i64) (l := l) (i := y) (a := k) .i64 (by rw [hy]; exact idx_some hlj)) ?_;refine RunO.tk 2 (by kernel_rfl) ?_;refine RunO.done (e' := mkE [(3,.sl 0 0 0 bs.length 1 false),(0,.int .i64 x),(2,.int .i64 k),(5,.fz (bs.map E_Block.e)),(0,.int .i64 (bs.length : Int)),(0,.int .i64 x),(5,.fz (l.map (EI .i64).e)),(0,.int .i64 (l.length : Int)),(0,.int .i64 y)] 20) (by kernel_rfl) ?_;refine Run.seq (Run.rgn (RunO.tk 3 (by kernel_rfl) ?_));refine RunO.c1 (by kernel_rfl) (by kernel_rfl) (c34 (in34 k (bs.length : Int)) _) ?_;refine RunO.done (e' := mkE [(3,.sl 0 0 0 bs.length 1 false),(0,.int .i64 x),(2,.int .i64 k),(5,.fz (bs.map E_Block.e)),(0,.int .i64 (bs.length : Int)),(0,.int .i64 x),(5,.fz (l.map (EI .i64).e)),(0,.int .i64 (l.length : Int)),(0,.int .i64 y),(6,.bool (decide (0 ≤ k ∧ k < (bs.length : Int))))] 13) (by kernel_rfl) ?_
      by_cases hk : 0 ≤ k ∧ k < (bs.length : Int)
      · refine Run.condT (by rw [decide_eq_true hk]; kernel_rfl) ?_;have hkl : k.toNat < ((l.take j).foldl (addR bs.length i) (aheadS bs i)).length := by rw [hlen]; omega
        obtain ⟨v,v',H1,H2,loc',g1,g2,g3,g4,g5,g6,g7,g8,_,_⟩ := G.app (List.getElem?_eq_getElem hkl) (hrow j hj _ (List.getElem_mem hkl)) (i : Int);have q1 : idxaV (.sl 0 0 0 bs.length 1 false) (.int .i64 k) 1 false = some (.ptr 0 0 k.toNat) := by simp [idxaV,hk.1,hk.2]
        have q2 : ldV h (.ptr 0 0 k.toNat) none = some v := by simp [ldV,rdB_of G.out,takeSh,g1]
        refine Run.rgn (RunO.tk 4 (by kernel_rfl) ?_);refine RunO.p1 (by kernel_rfl) rfl (by kernel_rfl) q1 ?_;refine RunO.p1 (by kernel_rfl) rfl (by kernel_rfl) q2 ?_;refine RunO.tk 2 (by kernel_rfl) ?_;refine RunO.w1 (u := v') (H1 := H1) (by kernel_rfl) rfl (v := appV h v (.fz [.int .i64 x]) 1 false 8) (by kernel_rfl) (by rw [hx]; exact g3) ?_;refine RunO.p1 (by kernel_rfl) rfl (by kernel_rfl) q1 ?_;refine RunO.w1 (u := .sk) (H1 := H2) (by kernel_rfl) rfl (v := (stV H1 (.ptr 0 0 k.toNat) v' none).map fun H' => (.sk,H')) (by kernel_rfl) (by rw [g7]; rfl) ?_;refine RunO.nil ?_;show Run T (.clr _ (.rgn i13r16)) _ _ _;refine Run.clrE (e' := e13b bs l x y) (by kernel_rfl) ?_;refine Run.rgn (RunO.tk 2 (by kernel_rfl) (RunO.nil ⟨l.length - (j + 1),by omega,j + 1,_,vs.set k.toNat v',loc',hadd,by omega,rfl,?_,by kernel_rfl⟩));rw [hstep,addR_in hk hkl]; exact g8
      · refine Run.condF (by rw [decide_eq_false hk]; kernel_rfl) ?_;refine Run.skip ?_;show Run T (.clr _ (.rgn i13r16)) _ _ _;refine Run.clrE (e' := e13b bs l x y) (by kernel_rfl) ?_;refine Run.rgn (RunO.tk 2 (by kernel_rfl) (RunO.nil ⟨l.length - (j + 1),by omega,j + 1,_,vs,loc,hadd,by omega,rfl,?_,by kernel_rfl⟩));rw [hstep,addR_out hk]; exact G
    · refine Run.condF (by rw [decide_eq_false (show ¬ y < (l.length : Int) by omega)]; kernel_rfl) ?_;refine Run.exit ?_;show Run T (.clr _ (.rgn i13r25)) _ _ _;refine Run.clrE (e' := e13a bs x) (by kernel_rfl) ?_;have hadd : IntKind.i64.wrap (x + 1) = ((i + 1 : Nat) : Int) := by rw [hx,wrap64_in (by omega) (by omega)]; omega
      refine Run.rgn (RunO.tk 2 (by kernel_rfl) (RunO.nil ⟨bs.length - (i + 1),by omega,i + 1,_,vs,loc,hadd,by omega,rfl,?_,by kernel_rfl⟩));rw [List.take_of_length_le (by omega)] at G;rw [hst]; exact G
  · refine Run.condF (by rw [decide_eq_false (show ¬ x < (bs.length : Int) by omega)]; kernel_rfl) ?_;refine Run.exit ?_;show Run T (.clr _ i13n33) _ _ _;refine Run.clrE (e' := mkE [(3,.sl 0 0 0 bs.length 1 false)] 40) (by kernel_rfl) ?_;refine Run.seq (Run.nowK 9 (e' := mkE [(2,.sl 0 0 0 bs.length 1 false)] 41) (by kernel_rfl) ?_);refine Run.ret ⟨.sl 0 0 0 bs.length 1 false,by kernel_rfl,?_⟩;have : i = bs.length := by omega
    subst this;have := rows_deep G s;rw [aheadS_len] at this;exact this
def e20a (g : V) (n : Nat) (i : Int) : List V := mkE [(1,.fp g),(1,.sl 0 0 0 n 1 false),(0,.int .i64 i)] 49
def e20b (g : V) (n : Nat) (l : List Int) (i j : Int) : List V := mkE [(1,.fp g),(1,.sl 0 0 0 n 1 false),(0,.int .i64 i),(0,.fz (l.map (EI .i64).e)),(0,.int .i64 j)] 47
theorem c20s {x0 : T_Graph} {r : List (List Int)} (h : F20 x0 = some r) (s : Bool) : Fn T 20 [(E_Graph.e x0)] [] (fun v hh => deep s hh deepN v = some ((EL (EL (EI .i64))).e r)) := by
  unfold F20 at h
  split at h
  case isFalse => cases h
  rename_i hn
  cases h;refine Fn.enterE t20 (e0 := mkE [(0,E_Graph.e x0)] 53) (by kernel_rfl) ?_;show Run T (.clr [] i20n34) _ _ (finE none [2] _);refine Run.clrE (e' := mkE [(0,E_Graph.e x0)] 53) (by kernel_rfl) ?_;refine Run.seq (Run.nowK 9 (e' := mkE [(1,.fp (E_Graph.e x0))] 52) (by kernel_rfl) ?_);have hlen0 := len_fz E_Block x0.fBlocks;have hix0 : ∀ (i : Nat) (x : Int) (b : T_Block),x = (i : Int) → x0.fBlocks[i]? = some b → idxaV (.fz (x0.fBlocks.map E_Block.e)) (.int .i64 x) 6 true = some (.fp (E_Block.e b)) := fun i x b hx hb => idx_fz E_Block (l := x0.fBlocks) (i := x) (a := b) .i64 (by rw [hx]; exact idx_some hb)
  refine Run.seq (Run.rgn (RunO.tk 2 (by kernel_rfl) ?_));refine RunO.p1 (by kernel_rfl) rfl (by kernel_rfl) hlen0 ?_;refine RunO.w1 (by kernel_rfl) rfl (by kernel_rfl) (mks_nils [] x0.fBlocks.length hn) ?_;refine RunO.tk 1 (by kernel_rfl) ?_;refine RunO.done (e' := mkE [(1,.fp (E_Graph.e x0)),(1,.sl 0 0 0 x0.fBlocks.length 1 false)] 50) (by kernel_rfl) ?_;refine Run.seq (Run.seq (Run.nowK 9 (e' := e20a (E_Graph.e x0) x0.fBlocks.length 0) (by kernel_rfl) ?_));have hld : ∀ H,ldV H (.fp (.fz (x0.fBlocks.map E_Block.e))) none = some (.fz (x0.fBlocks.map E_Block.e)) := fun H => rfl
  generalize hbs : x0.fBlocks = bs at hn hlen0 hix0
  refine Run.block ?_;refine Run.loopc (fun n e h => ∃ (i : Nat) (x : Int) (vs : List V) (loc : Nat → Option (Nat × Nat)),x = (i : Int) ∧ i ≤ bs.length ∧ n = bs.length - i ∧ Grid 0 h 0 (aheadS bs i) vs loc ∧ e = e20a (E_Graph.e x0) bs.length x) bs.length ⟨0,0,_,_,rfl,by omega,by omega,Grid.make 0 [] bs.length (by simp),by kernel_rfl⟩ ?_;rintro n e h ⟨i,x,vs,loc,hx,hi,rfl,G,rfl⟩;refine Run.seq (Run.seq (Run.rgn (RunO.tk 3 (by kernel_rfl) ?_)));refine RunO.p1 (by kernel_rfl) rfl (by rw [← hbs]; kernel_rfl) hlen0 ?_;refine RunO.tk 1 (by kernel_rfl) ?_;refine RunO.done (e' := mkE [(1,.fp (E_Graph.e x0)),(1,.sl 0 0 0 bs.length 1 false),(0,.int .i64 x),(10,.bool (decide (x < (bs.length : Int))))] 38) (by kernel_rfl) ?_
  by_cases hlt : i < bs.length
  · refine Run.condT (by rw [decide_eq_true (show x < (bs.length : Int) by omega)]; kernel_rfl) ?_;refine Run.skip ?_;refine Run.clrE (e' := e20a (E_Graph.e x0) bs.length x) (by kernel_rfl) ?_;have hbi : bs[i]? = some bs[i] := List.getElem?_eq_getElem hlt
    generalize bs[i] = b at hbi
    refine Run.seq (Run.block (Run.seq (Run.rgn (RunO.tk 3 (by kernel_rfl) ?_))));refine RunO.p1 (by kernel_rfl) rfl (by rw [← hbs]; kernel_rfl) (hix0 i x b hx hbi) ?_;refine RunO.tk 1 (by kernel_rfl) ?_;refine RunO.c2 (by kernel_rfl) (by kernel_rfl) (by kernel_rfl) (c18 (x0 := b) (F18_is b)) ?_;refine RunO.tk 1 (by kernel_rfl) ?_;refine RunO.done (e' := mkE [(1,.fp (E_Graph.e x0)),(1,.sl 0 0 0 bs.length 1 false),(0,.int .i64 x),(0,.fz ((nextV b).map (EI .i64).e))] 48) (by kernel_rfl) ?_;refine Run.seq (Run.nowK 9 (e' := e20b (E_Graph.e x0) bs.length (nextV b) x 0) (by kernel_rfl) ?_);have hst := aheadS_step hbi;have hnl := next_le b
    generalize nextV b = l at hst hnl
    have hrow : ∀ j,j ≤ l.length → ∀ r ∈ (l.take j).foldl (addR bs.length i) (aheadS bs i),r.length ≤ 1099511627776 := by
      intro j hj r hr;have := fold_row (l.take j) (aheadS_row bs i) r hr;rw [List.length_take] at this; omega
    have hlen : ∀ j,((l.take j).foldl (addR bs.length i) (aheadS bs i)).length = bs.length := fun j => by rw [fold_len,aheadS_len]
    refine Run.block ?_;refine Run.loopc (fun n e h => ∃ (j : Nat) (y : Int) (vs : List V) (loc : Nat → Option (Nat × Nat)),y = (j : Int) ∧ j ≤ l.length ∧ n = l.length - j ∧ Grid 0 h 0 ((l.take j).foldl (addR bs.length i) (aheadS bs i)) vs loc ∧ e = e20b (E_Graph.e x0) bs.length l x y) l.length ⟨0,0,_,_,rfl,by omega,by omega,G,by kernel_rfl⟩ ?_;rintro n e h ⟨j,y,vs,loc,hy,hj,rfl,G,rfl⟩;refine Run.seq (Run.seq (Run.rgn (RunO.tk 2 (by kernel_rfl) ?_)));refine RunO.p1 (by kernel_rfl) rfl (by kernel_rfl) (len_fz (EI .i64) l) ?_;refine RunO.tk 1 (by kernel_rfl) ?_;refine RunO.done (e' := mkE [(1,.fp (E_Graph.e x0)),(1,.sl 0 0 0 bs.length 1 false),(0,.int .i64 x),(0,.fz (l.map (EI .i64).e)),(0,.int .i64 y),(20,.bool (decide (y < (l.length : Int))))] 26) (by kernel_rfl) ?_
    by_cases hjl : j < l.length
    · refine Run.condT (by rw [decide_eq_true (show y < (l.length : Int) by omega)]; kernel_rfl) ?_;refine Run.skip ?_;refine Run.clrE (e' := e20b (E_Graph.e x0) bs.length l x y) (by kernel_rfl) ?_;have hlj : l[j]? = some l[j] := List.getElem?_eq_getElem hjl;have hstep : (l.take (j + 1)).foldl (addR bs.length i) (aheadS bs i) = addR bs.length i ((l.take j).foldl (addR bs.length i) (aheadS bs i)) l[j] := by
        rw [List.take_succ_eq_append_getElem hjl,List.foldl_append]; rfl
      generalize l[j] = k at hlj hstep
      have hadd : IntKind.i64.wrap (y + 1) = ((j + 1 : Nat) : Int) := by rw [hy,wrap64_in (by omega) (by omega)]; omega
      have hix := idx_fz (EI .i64) (l := l) (i := y) (a := k) .i64 (by rw [hy]; exact idx_some hlj);refine Run.seq (Run.block (Run.seq (Run.rgn (RunO.tk 2 (by kernel_rfl) ?_))));refine RunO.p1 (by kernel_rfl) rfl (by kernel_rfl) hix ?_;refine RunO.tk 3 (by kernel_rfl) ?_;refine RunO.c1 (by kernel_rfl) (by kernel_rfl) (c38 (in38 k (bs.length : Int)) _) ?_;refine RunO.done (e' := mkE [(1,.fp (E_Graph.e x0)),(1,.sl 0 0 0 bs.length 1 false),(0,.int .i64 x),(0,.fz (l.map (EI .i64).e)),(0,.int .i64 y),(29,.bool (decide (0 ≤ k ∧ k < (bs.length : Int))))] 17) (by kernel_rfl) ?_
      by_cases hk : 0 ≤ k ∧ k < (bs.length : Int)
      · refine Run.condT (by rw [decide_eq_true hk]; kernel_rfl) ?_;have hkl : k.toNat < ((l.take j).foldl (addR bs.length i) (aheadS bs i)).length := by rw [hlen]; omega
        obtain ⟨v,v',H1,H2,loc',g1,g2,g3,g4,g5,g6,g7,g8,_,_⟩ := G.app (List.getElem?_eq_getElem hkl) (hrow j hj _ (List.getElem_mem hkl)) (i : Int);have q1 : idxaV (.sl 0 0 0 bs.length 1 false) (.int .i64 k) 1 false = some (.ptr 0 0 k.toNat) := by simp [idxaV,hk.1,hk.2]
        have q2 : ldV h (.ptr 0 0 k.toNat) none = some v := by simp [ldV,rdB_of G.out,takeSh,g1]
        refine Run.rgn (RunO.tk 3 (by kernel_rfl) ?_);refine RunO.p1 (by kernel_rfl) rfl (by kernel_rfl) hix ?_;refine RunO.tk 4 (by kernel_rfl) ?_;refine RunO.p1 (by kernel_rfl) rfl (by kernel_rfl) hix ?_;refine RunO.tk 1 (by kernel_rfl) ?_;refine RunO.p1 (by kernel_rfl) rfl (by kernel_rfl) q1 ?_;refine RunO.p1 (by kernel_rfl) rfl (by kernel_rfl) q2 ?_;refine RunO.tk 2 (by kernel_rfl) ?_;refine RunO.w1 (u := v') (H1 := H1) (by kernel_rfl) rfl (v := appV h v (.fz [.int .i64 x]) 1 false 8) (by kernel_rfl) (by rw [hx]; exact g3) ?_;refine RunO.p1 (by kernel_rfl) rfl (by kernel_rfl) q1 ?_;refine RunO.w1 (u := .sk) (H1 := H2) (by kernel_rfl) rfl (v := (stV H1 (.ptr 0 0 k.toNat) v' none).map fun H' => (.sk,H')) (by kernel_rfl) (by rw [g7]; rfl) ?_;refine RunO.nil ?_;show Run T (.clr _ (.rgn i20r16)) _ _ _;refine Run.clrE (e' := e20b (E_Graph.e x0) bs.length l x y) (by kernel_rfl) ?_;refine Run.rgn (RunO.tk 3 (by kernel_rfl) (RunO.nil ⟨l.length - (j + 1),by omega,j + 1,_,vs.set k.toNat v',loc',hadd,by omega,rfl,?_,by kernel_rfl⟩));rw [hstep,addR_in hk hkl]; exact g8
      · refine Run.condF (by rw [decide_eq_false hk]; kernel_rfl) ?_;refine Run.skip ?_;show Run T (.clr _ (.rgn i20r16)) _ _ _;refine Run.clrE (e' := e20b (E_Graph.e x0) bs.length l x y) (by kernel_rfl) ?_;refine Run.rgn (RunO.tk 3 (by kernel_rfl) (RunO.nil ⟨l.length - (j + 1),by omega,j + 1,_,vs,loc,hadd,by omega,rfl,?_,by kernel_rfl⟩));rw [hstep,addR_out hk]; exact G
    · refine Run.condF (by rw [decide_eq_false (show ¬ y < (l.length : Int) by omega)]; kernel_rfl) ?_;refine Run.exit ?_;show Run T (.clr _ (.rgn i20r24)) _ _ _;refine Run.clrE (e' := e20a (E_Graph.e x0) bs.length x) (by kernel_rfl) ?_;have hadd : IntKind.i64.wrap (x + 1) = ((i + 1 : Nat) : Int) := by rw [hx,wrap64_in (by omega) (by omega)]; omega
      refine Run.rgn (RunO.tk 3 (by kernel_rfl) (RunO.nil ⟨bs.length - (i + 1),by omega,i + 1,_,vs,loc,hadd,by omega,rfl,?_,by kernel_rfl⟩));rw [List.take_of_length_le (by omega)] at G;rw [hst]; exact G
  · refine Run.condF (by rw [decide_eq_false (show ¬ x < (bs.length : Int) by omega)]; kernel_rfl) ?_;refine Run.exit ?_;show Run T (.clr _ i20n31) _ _ _;refine Run.clrE (e' := mkE [(3,.sl 0 0 0 bs.length 1 false)] 50) (by kernel_rfl) ?_;refine Run.seq (Run.nowK 9 (e' := mkE [(2,.sl 0 0 0 bs.length 1 false)] 51) (by kernel_rfl) ?_);refine Run.ret ⟨.sl 0 0 0 bs.length 1 false,by kernel_rfl,?_⟩;have : i = bs.length := by omega
    subst this;have := rows_deep G s;rw [aheadS_len] at this;exact this
theorem c13 {x0 : T_Graph} {r : List (List Int)} (h : F13 x0 = some r) : Fn T 13 [(E_Graph.e x0)] [] (fun v hh => deep false hh deepN v = some ((EL (EL (EI .i64))).e r)) := c13s h false
theorem c20 {x0 : T_Graph} {r : List (List Int)} (h : F20 x0 = some r) : Fn T 20 [(E_Graph.e x0)] [] (fun v hh => deep false hh deepN v = some ((EL (EL (EI .i64))).e r)) := c20s h false
end Go.Eng.Gra
