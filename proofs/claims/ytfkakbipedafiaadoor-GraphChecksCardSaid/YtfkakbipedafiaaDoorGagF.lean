/- Plain functions with the answers of the layer's functions, and the proofs (lines written by a program of this session's; no condition beyond those stated). -/
import Derived.Test.YtfkakbipedafiaaDoorGraIr
import Derived.Test.YtfkakbipedafiaaDoorGraTy
import Derived.Test.YtfkakbipedafiaaDoorEngZ
import Derived.Test.YtfkakbipedafiaaDoorGraF
import Derived.Test.YtfkakbipedafiaaDoorGraS
namespace Go.Eng.Gra
open Go Go.Eng
set_option linter.unusedSectionVars false
set_option linter.unusedVariables false
set_option linter.unusedSimpArgs false
set_option maxRecDepth 20000
/- smithy/smithylaw07.awake -/
abbrev Q9 (L : List Ob) (r : Bool) : V → Heap → Prop := fun v h => v = EB.e r ∧ HP h (L)
abbrev RR9 (L : List Ob) (r : Bool) : List V → Heap → Prop := fun e h => endR none [0] (Q9 L r) e h

def F9 : Option Bool :=
  (F28 true).bind fun y32 =>
  (F28 false).bind fun y34 =>
  (F10 ([y32, y34] : List T_Graph)).bind fun y36 =>
  (F28 true).bind fun y38 =>
  (F10 ([y38] : List T_Graph)).bind fun y40 =>
  (F28 true).bind fun y42 =>
  (F31 [] y42 (⟨(4 : Int), (13 : Int), (1 : Int), ([(0 : Int), (2 : Int)] : List Int), (0 : Int), (0 : Int)⟩ : T_Ins)).bind fun y44 =>
  if (y36.1 == (4 : Int)) then
    if (y36.2 == (1 : Int)) then
      if (y40.1 == (0 : Int)) then
        if (y40.2 == (0 : Int)) then
          if (y44.1 == (1 : Int)) then
            if y44.2 then
              (F28 false).bind fun y52 =>
              (F14 y52).bind fun y54 =>
              (F17 y54 ([(0 : Int), (1 : Int), (2 : Int), (3 : Int)] : List Int)).bind fun y56 =>
              if y56 then
                (F28 false).bind fun y59 =>
                (F22 y59).bind fun y61 =>
                some (y61 == (9 : Int))
              else
                some false
            else
              some false
          else
            some false
        else
          some false
      else
        some false
    else
      some false
  else
    some false

theorem w9 {r : Bool} (h : F9 = some r) {H : Heap} {L : List Ob} (hp : HP H (L)) : Fn T 9 [] H (Q9 L r) := by
  refine Fn.enterE t9 (e0 := (mkE [] 59)) (by kernel_rfl) ?_
  show Run T (.clr [] i9n9) _ _ (finE none [0] (Q9 L r))
  refine Rn.k (mkE [] 59) ?_
  unfold F9 at h
  refine Rn.g ?_
  refine Ro.t 1 ?_
  refine Ro.d (mkE [] 59) ?_
  refine Rn.g ?_
  obtain ⟨y32, h33, h⟩ := bind_some h
  refine RunO.c2 (by kernel_rfl) (by kernel_rfl) (by kernel_rfl) (c28 h33) ?_
  obtain ⟨y34, h35, h⟩ := bind_some h
  refine RunO.c2 (by kernel_rfl) (by kernel_rfl) (by kernel_rfl) (c28 h35) ?_
  refine Ro.t 1 ?_
  obtain ⟨y36, h37, h⟩ := bind_some h
  refine RunO.c1 (by kernel_rfl) (by kernel_rfl) (c10 h37 _) ?_
  refine Ro.t 5 ?_
  refine Ro.d (mkE [(1, (i6 y36.1)), (0, (i6 y36.2))] 56) ?_
  refine Rn.g ?_
  obtain ⟨y38, h39, h⟩ := bind_some h
  refine RunO.c2 (by kernel_rfl) (by kernel_rfl) (by kernel_rfl) (c28 h39) ?_
  refine Ro.t 1 ?_
  obtain ⟨y40, h41, h⟩ := bind_some h
  refine RunO.c1 (by kernel_rfl) (by kernel_rfl) (c10 h41 _) ?_
  refine Ro.t 5 ?_
  refine Ro.d (mkE [(1, (i6 y36.1)), (0, (i6 y36.2)), (0, (i6 y40.1)), (0, (i6 y40.2))] 54) ?_
  refine Rn.g ?_
  obtain ⟨y42, h43, h⟩ := bind_some h
  refine RunO.c2 (by kernel_rfl) (by kernel_rfl) (by kernel_rfl) (c28 h43) ?_
  refine Ro.t 2 ?_
  obtain ⟨y44, h45, h⟩ := bind_some h
  refine RunO.c1 (by kernel_rfl) (by kernel_rfl) (c31 h45 _) ?_
  refine Ro.t 5 ?_
  refine Ro.d (mkE [(1, (i6 y36.1)), (0, (i6 y36.2)), (0, (i6 y40.1)), (0, (i6 y40.2)), (0, (V.int .u8 y44.1)), (0, (V.bool y44.2))] 52) ?_
  refine Rn.g ?_
  refine Ro.t 1 ?_
  rcases tf (y36.1 == (4 : Int)) with h46 | h46
  · rw [ite_t h46] at h; refine Ro.p (bool_of h46) ?_
    refine Ro.t 2 ?_
    rcases tf (y36.2 == (1 : Int)) with h47 | h47
    · rw [ite_t h47] at h; refine Ro.p (bool_of h47) ?_
      refine Ro.t 3 ?_
      rcases tf (y40.1 == (0 : Int)) with h48 | h48
      · rw [ite_t h48] at h; refine Ro.p (bool_of h48) ?_
        refine Ro.t 3 ?_
        rcases tf (y40.2 == (0 : Int)) with h49 | h49
        · rw [ite_t h49] at h; refine Ro.p (bool_of h49) ?_
          refine Ro.t 3 ?_
          rcases tf (y44.1 == (1 : Int)) with h50 | h50
          · rw [ite_t h50] at h; refine Ro.p (bool_of h50) ?_
            refine Ro.t 2 ?_
            rcases tf y44.2 with h51 | h51
            · rw [ite_t h51] at h; refine Ro.p (bool_of h51) ?_
              refine Ro.t 2 ?_
              obtain ⟨y52, h53, h⟩ := bind_some h
              refine RunO.c2 (by kernel_rfl) (by kernel_rfl) (by kernel_rfl) (c28 h53) ?_
              obtain ⟨y54, h55, h⟩ := bind_some h
              refine RunO.c2 (by kernel_rfl) (by kernel_rfl) (by kernel_rfl) (c14 h55) ?_
              refine Ro.t 1 ?_
              obtain ⟨y56, h57, h⟩ := bind_some h
              rcases tf y56 with h58 | h58
              · subst h58; rw [if_pos rfl] at h
                refine RunO.c1 (by kernel_rfl) (by kernel_rfl) (c17 h57 _) ?_
                refine Ro.t 2 ?_
                obtain ⟨y59, h60, h⟩ := bind_some h
                refine RunO.c2 (by kernel_rfl) (by kernel_rfl) (by kernel_rfl) (c28 h60) ?_
                obtain ⟨y61, h62, h⟩ := bind_some h
                refine RunO.c1 (by kernel_rfl) (by kernel_rfl) (c22 h62 _) ?_
                refine Ro.t 3 ?_
                refine Ro.d (mkE [(0, (V.bool (y61 == (9 : Int))))] 58) ?_
                refine Run.ret ?_
                have h := Option.some.inj h; subst h
                exact ⟨(V.bool (y61 == (9 : Int))), (by kernel_rfl), (by kernel_rfl), hp⟩
              · subst h58; rw [if_neg (by decide)] at h
                refine RunO.c1 (by kernel_rfl) (by kernel_rfl) (c17 h57 _) ?_
                refine Ro.t 7 ?_
                refine Ro.d (mkE [(0, (V.bool false))] 58) ?_
                refine Run.ret ?_
                have h := Option.some.inj h; subst h
                exact ⟨(V.bool false), (by kernel_rfl), (by kernel_rfl), hp⟩
            · rw [ite_f h51] at h; refine Ro.p (bool_of h51) ?_
              refine Ro.t 13 ?_
              refine Ro.d (mkE [(0, (V.bool false))] 58) ?_
              refine Run.ret ?_
              have h := Option.some.inj h; subst h
              exact ⟨(V.bool false), (by kernel_rfl), (by kernel_rfl), hp⟩
          · rw [ite_f h50] at h; refine Ro.p (bool_of h50) ?_
            refine Ro.t 16 ?_
            refine Ro.d (mkE [(0, (V.bool false))] 58) ?_
            refine Run.ret ?_
            have h := Option.some.inj h; subst h
            exact ⟨(V.bool false), (by kernel_rfl), (by kernel_rfl), hp⟩
        · rw [ite_f h49] at h; refine Ro.p (bool_of h49) ?_
          refine Ro.t 20 ?_
          refine Ro.d (mkE [(0, (V.bool false))] 58) ?_
          refine Run.ret ?_
          have h := Option.some.inj h; subst h
          exact ⟨(V.bool false), (by kernel_rfl), (by kernel_rfl), hp⟩
      · rw [ite_f h48] at h; refine Ro.p (bool_of h48) ?_
        refine Ro.t 24 ?_
        refine Ro.d (mkE [(0, (V.bool false))] 58) ?_
        refine Run.ret ?_
        have h := Option.some.inj h; subst h
        exact ⟨(V.bool false), (by kernel_rfl), (by kernel_rfl), hp⟩
    · rw [ite_f h47] at h; refine Ro.p (bool_of h47) ?_
      refine Ro.t 28 ?_
      refine Ro.d (mkE [(0, (V.bool false))] 58) ?_
      refine Run.ret ?_
      have h := Option.some.inj h; subst h
      exact ⟨(V.bool false), (by kernel_rfl), (by kernel_rfl), hp⟩
  · rw [ite_f h46] at h; refine Ro.p (bool_of h46) ?_
    refine Ro.t 31 ?_
    refine Ro.d (mkE [(0, (V.bool false))] 58) ?_
    refine Run.ret ?_
    have h := Option.some.inj h; subst h
    exact ⟨(V.bool false), (by kernel_rfl), (by kernel_rfl), hp⟩

theorem c9 {r : Bool} (h : F9 = some r) (s : Bool) : Fn T 9 [] [] (fun v hh => deep s hh deepN v = some (EB.e r)) := by
  refine (w9 h HP.nil).mono ?_
  rintro v hh ⟨rfl, hp⟩
  exact EB.hd s hh 38 _ (.inr rfl)
end Go.Eng.Gra
