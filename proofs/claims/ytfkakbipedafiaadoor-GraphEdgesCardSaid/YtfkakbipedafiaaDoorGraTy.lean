/- Plain types of a layer, and how they stand in the small machine (lines written by a program of this session's). -/
import Derived.Test.YtfkakbipedafiaaDoorEngT
namespace Go.Eng.Gra
open Go Go.Eng
set_option linter.unusedVariables false
set_option linter.unusedSimpArgs false
structure T_Array where
  fType : Int
  fSize : Int
  deriving DecidableEq
def E_Array : Enc T_Array where
  e := fun x => .ag [(EI .u8).e x.fType, (EI .i64).e x.fSize]
  c := fun x => [(EI .u8).e x.fType, (EI .i64).e x.fSize]
  z := 2
  ag := true
  sf := true
  he := fun _ => rfl
  hz := fun _ => rfl
  hz0 := by decide
  ha := .inl rfl
  hag := fun _ => rfl
  hc := fun _ => rfl
  h1 := fun h => by cases h
  h2 := fun _ _ => rfl
  hd := fun _ _ _ _ _ => rfl

structure T_Ins where
  fKind : Int
  fOp : Int
  fDst : Int
  fArgs : (List Int)
  fBits : Int
  fRef : Int
  deriving DecidableEq
def E_Ins : Enc T_Ins where
  e := fun x => .ag [(EI .u8).e x.fKind, (EI .u8).e x.fOp, (EI .i64).e x.fDst, (EL (EI .i64)).e x.fArgs, (EI .u64).e x.fBits, (EI .i64).e x.fRef]
  c := fun x => [(EI .u8).e x.fKind, (EI .u8).e x.fOp, (EI .i64).e x.fDst, (EL (EI .i64)).e x.fArgs, (EI .u64).e x.fBits, (EI .i64).e x.fRef]
  z := 6
  ag := true
  sf := false
  he := fun _ => rfl
  hz := fun _ => rfl
  hz0 := by decide
  ha := .inl rfl
  hag := fun _ => rfl
  hc := fun _ => rfl
  h1 := fun h => by cases h
  h2 := fun _ _ => rfl
  hd := fun s _ _ _ h => by rcases h with rfl | h <;> first | rfl | cases h

structure T_2int where
  a0 : Int
  a1 : Int
  deriving DecidableEq
def E_2int : Enc T_2int where
  e := fun x => .ag [(EI .i64).e x.a0, (EI .i64).e x.a1]
  c := fun x => [(EI .i64).e x.a0, (EI .i64).e x.a1]
  z := 2
  ag := true
  sf := true
  he := fun _ => rfl
  hz := fun _ => rfl
  hz0 := by decide
  ha := .inl rfl
  hag := fun _ => rfl
  hc := fun _ => rfl
  h1 := fun h => by cases h
  h2 := fun _ _ => rfl
  hd := fun _ _ _ _ _ => rfl

structure T_Term where
  fKind : Int
  fArg : Int
  fTo : T_2int
  fTrap : Int
  deriving DecidableEq
def E_Term : Enc T_Term where
  e := fun x => .ag [(EI .u8).e x.fKind, (EI .i64).e x.fArg, (EI .i64).e x.fTo.a0, (EI .i64).e x.fTo.a1, (EI .u8).e x.fTrap]
  c := fun x => [(EI .u8).e x.fKind, (EI .i64).e x.fArg, (EI .i64).e x.fTo.a0, (EI .i64).e x.fTo.a1, (EI .u8).e x.fTrap]
  z := 5
  ag := true
  sf := true
  he := fun _ => rfl
  hz := fun _ => rfl
  hz0 := by decide
  ha := .inl rfl
  hag := fun _ => rfl
  hc := fun _ => rfl
  h1 := fun h => by cases h
  h2 := fun _ _ => rfl
  hd := fun _ _ _ _ _ => rfl

structure T_Block where
  fIns : (List T_Ins)
  fTerm : T_Term
  deriving DecidableEq
def E_Block : Enc T_Block where
  e := fun x => .ag [(EL E_Ins).e x.fIns, (EI .u8).e x.fTerm.fKind, (EI .i64).e x.fTerm.fArg, (EI .i64).e x.fTerm.fTo.a0, (EI .i64).e x.fTerm.fTo.a1, (EI .u8).e x.fTerm.fTrap]
  c := fun x => [(EL E_Ins).e x.fIns, (EI .u8).e x.fTerm.fKind, (EI .i64).e x.fTerm.fArg, (EI .i64).e x.fTerm.fTo.a0, (EI .i64).e x.fTerm.fTo.a1, (EI .u8).e x.fTerm.fTrap]
  z := 6
  ag := true
  sf := false
  he := fun _ => rfl
  hz := fun _ => rfl
  hz0 := by decide
  ha := .inl rfl
  hag := fun _ => rfl
  hc := fun _ => rfl
  h1 := fun h => by cases h
  h2 := fun _ _ => rfl
  hd := fun s _ _ _ h => by rcases h with rfl | h <;> first | rfl | cases h

structure T_Graph where
  fName : (List UInt8)
  fParams : (List Int)
  fResult : Int
  fVars : (List Int)
  fArrays : (List T_Array)
  fBlocks : (List T_Block)
  deriving DecidableEq
def E_Graph : Enc T_Graph where
  e := fun x => .ag [ES.e x.fName, (EL (EI .i64)).e x.fParams, (EI .u8).e x.fResult, (EL (EI .u8)).e x.fVars, (EL E_Array).e x.fArrays, (EL E_Block).e x.fBlocks]
  c := fun x => [ES.e x.fName, (EL (EI .i64)).e x.fParams, (EI .u8).e x.fResult, (EL (EI .u8)).e x.fVars, (EL E_Array).e x.fArrays, (EL E_Block).e x.fBlocks]
  z := 6
  ag := true
  sf := false
  he := fun _ => rfl
  hz := fun _ => rfl
  hz0 := by decide
  ha := .inl rfl
  hag := fun _ => rfl
  hc := fun _ => rfl
  h1 := fun h => by cases h
  h2 := fun _ _ => rfl
  hd := fun s _ _ _ h => by rcases h with rfl | h <;> first | rfl | cases h

theorem eqs_2int (ne : Bool) (a b : T_2int) : eqsV ne [.int, .int] (E_2int.e a) (E_2int.e b) = some (.bool (if ne then !(decide (a = b)) else decide (a = b))) := by
  have key : eqLeafs [.int, .int] (E_2int.c a) (E_2int.c b) = some (decide (a = b)) := by
    obtain ⟨a1, a2⟩ := a; obtain ⟨b1, b2⟩ := b
    simp only [eqLeafs, E_2int, eqLeaf, EI, EB, ES, if_true, list_st, T_2int.mk.injEq, Option.some.injEq]
    rw [Bool.eq_iff_iff]
    simp [and_assoc]
  rw [E_2int.h2 rfl a, E_2int.h2 rfl b]
  simp only [eqsV, key]; cases ne <;> rfl

structure T_form where
  fdst : Bool
  fop : Bool
  fbits : Bool
  fref : Bool
  fargs : Int
  deriving DecidableEq
def E_form : Enc T_form where
  e := fun x => .ag [EB.e x.fdst, EB.e x.fop, EB.e x.fbits, EB.e x.fref, (EI .i64).e x.fargs]
  c := fun x => [EB.e x.fdst, EB.e x.fop, EB.e x.fbits, EB.e x.fref, (EI .i64).e x.fargs]
  z := 5
  ag := true
  sf := true
  he := fun _ => rfl
  hz := fun _ => rfl
  hz0 := by decide
  ha := .inl rfl
  hag := fun _ => rfl
  hc := fun _ => rfl
  h1 := fun h => by cases h
  h2 := fun _ _ => rfl
  hd := fun _ _ _ _ _ => rfl

theorem eqs_Term (ne : Bool) (a b : T_Term) : eqsV ne [.int, .int, .int, .int, .int] (E_Term.e a) (E_Term.e b) = some (.bool (if ne then !(decide (a = b)) else decide (a = b))) := by
  have key : eqLeafs [.int, .int, .int, .int, .int] (E_Term.c a) (E_Term.c b) = some (decide (a = b)) := by
    obtain ⟨a1, a2, ⟨a3, a4⟩, a5⟩ := a; obtain ⟨b1, b2, ⟨b3, b4⟩, b5⟩ := b
    simp only [eqLeafs, E_Term, eqLeaf, EI, EB, ES, if_true, list_st, T_2int.mk.injEq, T_Term.mk.injEq, Option.some.injEq]
    rw [Bool.eq_iff_iff]
    simp [and_assoc]
  rw [E_Term.h2 rfl a, E_Term.h2 rfl b]
  simp only [eqsV, key]; cases ne <;> rfl
def G0 : List T_form := [(⟨false, false, false, false, (0 : Int)⟩ : T_form), (⟨true, false, false, false, (-1 : Int)⟩ : T_form), (⟨true, false, true, false, (0 : Int)⟩ : T_form), (⟨true, false, false, false, (1 : Int)⟩ : T_form), (⟨true, true, false, false, (-1 : Int)⟩ : T_form), (⟨true, false, false, false, (1 : Int)⟩ : T_form), (⟨true, false, false, true, (1 : Int)⟩ : T_form), (⟨false, false, false, true, (2 : Int)⟩ : T_form), (⟨false, false, false, true, (0 : Int)⟩ : T_form), (⟨true, false, false, true, (-1 : Int)⟩ : T_form), (⟨false, false, false, false, (1 : Int)⟩ : T_form)]

end Go.Eng.Gra
