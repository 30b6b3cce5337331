/- Plain types of a layer, and how they stand in the small machine (lines written by a program of this session's). -/
import Derived.Test.YtimnlnkjogbjfaaEngT
namespace Go.Eng.Tok
open Go Go.Eng
set_option linter.unusedVariables false
set_option linter.unusedSimpArgs false
structure T_Token where
  fKind : Int
  fAt : Int
  fEnd : Int
  deriving DecidableEq
def E_Token : Enc T_Token where
  e := fun x => .ag [(EI .u8).e x.fKind, (EI .i64).e x.fAt, (EI .i64).e x.fEnd]
  c := fun x => [(EI .u8).e x.fKind, (EI .i64).e x.fAt, (EI .i64).e x.fEnd]
  z := 3
  ag := true
  sf := true
  he := fun _ => rfl
  hz := fun _ => rfl
  hz0 := by decide
  ha := .inl rfl
  hag := fun _ => rfl
  hc := fun _ => rfl
  h1 := fun h => by cases h
  h2 := fun _ _ => rfl
  hd := fun _ _ _ _ _ => rfl

theorem eqs_Token (ne : Bool) (a b : T_Token) : eqsV ne [.int, .int, .int] (E_Token.e a) (E_Token.e b) = some (.bool (if ne then !(decide (a = b)) else decide (a = b))) := by
  have key : eqLeafs [.int, .int, .int] (E_Token.c a) (E_Token.c b) = some (decide (a = b)) := by
    cases a; cases b
    simp only [eqLeafs, E_Token, eqLeaf, EI, EB, ES, if_true, list_st, T_Token.mk.injEq, Option.some.injEq]
    rw [Bool.eq_iff_iff]
    simp
  rw [E_Token.h2 rfl a, E_Token.h2 rfl b]
  simp only [eqsV, key]; cases ne <;> rfl

structure T_Fault where
  fErr : Int
  fAt : Int
  deriving DecidableEq
def E_Fault : Enc T_Fault where
  e := fun x => .ag [(EI .i64).e x.fErr, (EI .i64).e x.fAt]
  c := fun x => [(EI .i64).e x.fErr, (EI .i64).e x.fAt]
  z := 2
  ag := true
  sf := true
  he := fun _ => rfl
  hz := fun _ => rfl
  hz0 := by decide
  ha := .inl rfl
  hag := fun _ => rfl
  hc := fun _ => rfl
  h1 := fun h => by cases h
  h2 := fun _ _ => rfl
  hd := fun _ _ _ _ _ => rfl

theorem eqs_Fault (ne : Bool) (a b : T_Fault) : eqsV ne [.int, .int] (E_Fault.e a) (E_Fault.e b) = some (.bool (if ne then !(decide (a = b)) else decide (a = b))) := by
  have key : eqLeafs [.int, .int] (E_Fault.c a) (E_Fault.c b) = some (decide (a = b)) := by
    cases a; cases b
    simp only [eqLeafs, E_Fault, eqLeaf, EI, EB, ES, if_true, list_st, T_Fault.mk.injEq, Option.some.injEq]
    rw [Bool.eq_iff_iff]
    simp
  rw [E_Fault.h2 rfl a, E_Fault.h2 rfl b]
  simp only [eqsV, key]; cases ne <;> rfl

end Go.Eng.Tok
