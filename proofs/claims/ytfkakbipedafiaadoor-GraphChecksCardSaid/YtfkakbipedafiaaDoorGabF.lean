/- Plain functions with the answers of the layer's functions, and the proofs (lines written by a program of this session's; no condition beyond those stated). -/
import Derived.Test.YtfkakbipedafiaaDoorGraIr
import Derived.Test.YtfkakbipedafiaaDoorGraTy
import Derived.Test.YtfkakbipedafiaaDoorEngZ
import Derived.Test.YtfkakbipedafiaaDoorGraF
import Derived.Test.YtfkakbipedafiaaDoorGraAw
namespace Go.Eng.Gra
open Go Go.Eng
set_option linter.unusedSectionVars false
set_option linter.unusedVariables false
set_option linter.unusedSimpArgs false
set_option maxRecDepth 20000
/- smithy/smithylaw07.GraphChecks -/
abbrev Q3 (L : List Ob) (r : Bool) : V → Heap → Prop := fun v h => v = EB.e r ∧ HP h (L)
abbrev RR3 (L : List Ob) (r : Bool) : List V → Heap → Prop := fun e h => endR none [2] (Q3 L r) e h

def F3 (x0 : (List T_Graph)) : Option Bool :=
  (F8 x0).bind fun y24 =>
  if y24 then
    (F9).bind fun y27 =>
    some y27
  else
    (F10 x0).bind fun y29 =>
    (F11 x0).bind fun y31 =>
    if (y29.1 == y31.1) then
      if (y29.2 == y31.2) then
        (F9).bind fun y35 =>
        some y35
      else
        some false
    else
      some false

theorem w3 {x0 : (List T_Graph)} {r : Bool} (h : F3 x0 = some r) {H : Heap} {L : List Ob} (hp : HP H (L)) : Fn T 3 [(Zl E_Graph x0)] H (Q3 L r) := by
  refine Fn.enterE t3 (e0 := (mkE [(0, (Zl E_Graph x0))] 30)) (by kernel_rfl) ?_
  show Run T (.clr [] i3n13) _ _ (finE none [2] (Q3 L r))
  refine Rn.k (mkE [(0, (Zl E_Graph x0))] 30) ?_
  unfold F3 at h
  refine Rn.g ?_
  refine Ro.t 1 ?_
  refine Ro.d (mkE [(0, (Zl E_Graph x0))] 30) ?_
  refine Run.seq ?_
  refine Rn.g ?_
  refine Ro.t 1 ?_
  obtain ⟨y24, h25, h⟩ := bind_some h
  refine RunO.c1 (by kernel_rfl) (by kernel_rfl) (c8 h25 _) ?_
  refine Ro.d (mkE [(0, (Zl E_Graph x0)), (7, (V.bool y24))] 22) ?_
  rcases tf y24 with h26 | h26
  · rw [ite_t h26] at h; refine Rn.t h26 ?_
    refine Rn.g ?_
    obtain ⟨y27, h28, h⟩ := bind_some h
    refine RunO.c1 (by kernel_rfl) (by kernel_rfl) (c9 h28 _) ?_
    refine Ro.t 1 ?_
    refine Ro.d (mkE [(2, (V.bool y27))] 28) ?_
    refine Run.ret ?_
    have h := Option.some.inj h; subst h
    exact ⟨(V.bool y27), (by kernel_rfl), (by kernel_rfl), hp⟩
  · rw [ite_f h26] at h; refine Rn.f h26 ?_
    refine Run.skip ?_
    refine Rn.c (mkE [(0, (Zl E_Graph x0))] 30) ?_
    refine Rn.g ?_
    refine Ro.t 1 ?_
    obtain ⟨y29, h30, h⟩ := bind_some h
    refine RunO.c1 (by kernel_rfl) (by kernel_rfl) (c10 h30 _) ?_
    refine Ro.t 5 ?_
    refine Ro.d (mkE [(0, (Zl E_Graph x0)), (2, (i6 y29.1)), (0, (i6 y29.2))] 26) ?_
    refine Rn.g ?_
    refine Ro.t 1 ?_
    obtain ⟨y31, h32, h⟩ := bind_some h
    refine RunO.c1 (by kernel_rfl) (by kernel_rfl) (c11 h32 _) ?_
    refine Ro.t 5 ?_
    refine Ro.d (mkE [(3, (i6 y29.1)), (0, (i6 y29.2)), (0, (i6 y31.1)), (0, (i6 y31.2))] 24) ?_
    refine Rn.g ?_
    refine Ro.t 2 ?_
    rcases tf (y29.1 == y31.1) with h33 | h33
    · rw [ite_t h33] at h; refine Ro.p (bool_of h33) ?_
      refine Ro.t 3 ?_
      rcases tf (y29.2 == y31.2) with h34 | h34
      · rw [ite_t h34] at h; refine Ro.p (bool_of h34) ?_
        refine Ro.t 2 ?_
        obtain ⟨y35, h36, h⟩ := bind_some h
        refine RunO.c1 (by kernel_rfl) (by kernel_rfl) (c9 h36 _) ?_
        refine Ro.t 2 ?_
        refine Ro.d (mkE [(2, (V.bool y35))] 28) ?_
        refine Run.ret ?_
        have h := Option.some.inj h; subst h
        exact ⟨(V.bool y35), (by kernel_rfl), (by kernel_rfl), hp⟩
      · rw [ite_f h34] at h; refine Ro.p (bool_of h34) ?_
        refine Ro.t 5 ?_
        refine Ro.d (mkE [(2, (V.bool false))] 28) ?_
        refine Run.ret ?_
        have h := Option.some.inj h; subst h
        exact ⟨(V.bool false), (by kernel_rfl), (by kernel_rfl), hp⟩
    · rw [ite_f h33] at h; refine Ro.p (bool_of h33) ?_
      refine Ro.t 9 ?_
      refine Ro.d (mkE [(2, (V.bool false))] 28) ?_
      refine Run.ret ?_
      have h := Option.some.inj h; subst h
      exact ⟨(V.bool false), (by kernel_rfl), (by kernel_rfl), hp⟩

theorem c3 {x0 : (List T_Graph)} {r : Bool} (h : F3 x0 = some r) (s : Bool) : Fn T 3 [(Zl E_Graph x0)] [] (fun v hh => deep s hh deepN v = some (EB.e r)) := by
  refine (w3 h HP.nil).mono ?_
  rintro v hh ⟨rfl, hp⟩
  exact EB.hd s hh 38 _ (.inr rfl)
end Go.Eng.Gra
