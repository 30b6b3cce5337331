/- Plain functions with the answers of the layer's functions, and the proofs (lines written by a program of this session's; no condition beyond those stated). -/
import Derived.Test.YtfkakbipedafiaaDoorGreIr
import Derived.Test.YtfkakbipedafiaaDoorGraTy
import Derived.Test.YtfkakbipedafiaaDoorEngZ
namespace Go.Eng.Gra
open Go Go.Eng
set_option linter.unusedSectionVars false
set_option linter.unusedVariables false
set_option linter.unusedSimpArgs false
set_option maxRecDepth 20000
/- smithy/smithyref07.Next -/
abbrev Q18 (L : List Ob) (r : (List Int)) : V → Heap → Prop := fun v h => ∃ u0 : V, v = u0 ∧ (u0 = (EL (EI .i64)).e r ∨ u0 = .nils ∧ r = []) ∧ HP h (L)
abbrev RR18 (L : List Ob) (r : (List Int)) : List V → Heap → Prop := fun e h => endR none [2] (Q18 L r) e h

def F18_j2 (x0 : T_Block) (y39 : Bool) : Option (List Int) :=
  if y39 then
    some ([x0.fTerm.fTo.a0, x0.fTerm.fTo.a1] : List Int)
  else
    if (x0.fTerm.fKind == (2 : Int)) then
      some ([x0.fTerm.fTo.a1, x0.fTerm.fTo.a0] : List Int)
    else
      some ([])

theorem w18_j2 {x0 : T_Block} {y39 : Bool} {r : (List Int)} (h : F18_j2 x0 y39 = some r) {H : Heap} {L : List Ob} (hp : HP H (L)) :
    Run T i18n13 (mkE [(1, (V.fp (E_Block.e x0))), (1, (i6 x0.fTerm.fTo.a0)), (0, (i6 x0.fTerm.fTo.a1)), (26, (V.bool y39))] 20) H (blk 0 (thn T (.clr [1, 2, 3, 4, 13, 14, 15, 16, 17, 18, 19, 20, 21, 22, 23, 24, 25, 26, 27, 28, 29, 30, 31, 32, 33, 34, 35, 36, 37, 38, 39, 40, 41, 42, 43, 44, 45, 46, 47, 48, 49, 50, 51] i18n19) (finE none [2] (Q18 L r)))) := by
  unfold F18_j2 at h
  rcases tf y39 with h40 | h40
  · rw [ite_t h40] at h; refine Rn.t h40 ?_
    refine Rn.g ?_
    refine Ro.t 4 ?_
    refine Ro.d (mkE [(2, (V.fz (List.map (EI .i64).e ([x0.fTerm.fTo.a0, x0.fTerm.fTo.a1] : List Int))))] 49) ?_
    refine Run.ret ?_
    have h := Option.some.inj h; subst h
    exact ⟨(V.fz (List.map (EI .i64).e ([x0.fTerm.fTo.a0, x0.fTerm.fTo.a1] : List Int))), (by kernel_rfl), (V.fz (List.map (EI .i64).e ([x0.fTerm.fTo.a0, x0.fTerm.fTo.a1] : List Int))), (by kernel_rfl), (.inl (by kernel_rfl)), hp⟩
  · rw [ite_f h40] at h; refine Rn.f h40 ?_
    refine Rn.g ?_
    refine Ro.t 5 ?_
    refine Ro.d (mkE [(3, (i6 x0.fTerm.fTo.a0)), (0, (i6 x0.fTerm.fTo.a1)), (39, (V.bool (x0.fTerm.fKind == (2 : Int))))] 7) ?_
    rcases tf (x0.fTerm.fKind == (2 : Int)) with h41 | h41
    · rw [ite_t h41] at h; refine Rn.t h41 ?_
      refine Rn.g ?_
      refine Ro.t 4 ?_
      refine Ro.d (mkE [(2, (V.fz (List.map (EI .i64).e ([x0.fTerm.fTo.a1, x0.fTerm.fTo.a0] : List Int))))] 49) ?_
      refine Run.ret ?_
      have h := Option.some.inj h; subst h
      exact ⟨(V.fz (List.map (EI .i64).e ([x0.fTerm.fTo.a1, x0.fTerm.fTo.a0] : List Int))), (by kernel_rfl), (V.fz (List.map (EI .i64).e ([x0.fTerm.fTo.a1, x0.fTerm.fTo.a0] : List Int))), (by kernel_rfl), (.inl (by kernel_rfl)), hp⟩
    · rw [ite_f h41] at h; refine Rn.f h41 ?_
      refine Run.skip ?_
      refine Rn.c (mkE [] 52) ?_
      refine Rn.g ?_
      refine Ro.t 1 ?_
      refine Ro.d (mkE [(2, V.nils)] 49) ?_
      refine Run.ret ?_
      have h := Option.some.inj h; subst h
      exact ⟨V.nils, (by kernel_rfl), V.nils, (by kernel_rfl), (.inr ⟨rfl, rfl⟩), hp⟩

def F18_j1 (x0 : T_Block) (y36 : Bool) : Option (List Int) :=
  if y36 then
    some ([x0.fTerm.fTo.a0] : List Int)
  else
    if (x0.fTerm.fKind == (2 : Int)) then
      F18_j2 x0 ((decide (x0.fTerm.fTo.a0 < x0.fTerm.fTo.a1)))
    else
      F18_j2 x0 (false)

theorem w18_j1 {x0 : T_Block} {y36 : Bool} {r : (List Int)} (h : F18_j1 x0 y36 = some r) {H : Heap} {L : List Ob} (hp : HP H (L)) :
    Run T i18n15 (mkE [(1, (V.fp (E_Block.e x0))), (1, (i6 x0.fTerm.fTo.a0)), (0, (i6 x0.fTerm.fTo.a1)), (8, (V.bool y36))] 38) H (blk 0 (thn T (.clr [1, 2, 3, 4, 13, 14, 15, 16, 17, 18, 19, 20, 21, 22, 23, 24, 25, 26, 27, 28, 29, 30, 31, 32, 33, 34, 35, 36, 37, 38, 39, 40, 41, 42, 43, 44, 45, 46, 47, 48, 49, 50, 51] i18n19) (finE none [2] (Q18 L r)))) := by
  unfold F18_j1 at h
  rcases tf y36 with h37 | h37
  · rw [ite_t h37] at h; refine Rn.t h37 ?_
    refine Rn.g ?_
    refine Ro.t 3 ?_
    refine Ro.d (mkE [(2, (V.fz (List.map (EI .i64).e ([x0.fTerm.fTo.a0] : List Int))))] 49) ?_
    refine Run.ret ?_
    have h := Option.some.inj h; subst h
    exact ⟨(V.fz (List.map (EI .i64).e ([x0.fTerm.fTo.a0] : List Int))), (by kernel_rfl), (V.fz (List.map (EI .i64).e ([x0.fTerm.fTo.a0] : List Int))), (by kernel_rfl), (.inl (by kernel_rfl)), hp⟩
  · rw [ite_f h37] at h; refine Rn.f h37 ?_
    refine Rn.g ?_
    refine Ro.t 3 ?_
    rcases tf (x0.fTerm.fKind == (2 : Int)) with h42 | h42
    · rw [ite_t h42] at h; refine Ro.p (bool_of h42) ?_
      refine Ro.t 6 ?_
      refine Ro.d (mkE [(1, (V.fp (E_Block.e x0))), (1, (i6 x0.fTerm.fTo.a0)), (0, (i6 x0.fTerm.fTo.a1)), (26, (V.bool (decide (x0.fTerm.fTo.a0 < x0.fTerm.fTo.a1))))] 20) ?_
      exact w18_j2 h hp
    · rw [ite_f h42] at h; refine Ro.p (bool_of h42) ?_
      refine Ro.t 6 ?_
      refine Ro.d (mkE [(1, (V.fp (E_Block.e x0))), (1, (i6 x0.fTerm.fTo.a0)), (0, (i6 x0.fTerm.fTo.a1)), (26, (V.bool false))] 20) ?_
      exact w18_j2 h hp

def F18 (x0 : T_Block) : Option (List Int) :=
  if (x0.fTerm.fKind == (1 : Int)) then
    F18_j1 x0 (true)
  else
    if (x0.fTerm.fKind == (2 : Int)) then
      F18_j1 x0 ((x0.fTerm.fTo.a0 == x0.fTerm.fTo.a1))
    else
      F18_j1 x0 (false)

theorem w18 {x0 : T_Block} {r : (List Int)} (h : F18 x0 = some r) {H : Heap} {L : List Ob} (hp : HP H (L)) : Fn T 18 [(E_Block.e x0)] H (Q18 L r) := by
  refine Fn.enterE t18 (e0 := (mkE [(0, (E_Block.e x0))] 51)) (by kernel_rfl) ?_
  show Run T (.clr [] i18n22) _ _ (finE none [2] (Q18 L r))
  refine Rn.k (mkE [(0, (E_Block.e x0))] 51) ?_
  unfold F18 at h
  refine Rn.g ?_
  refine Ro.t 2 ?_
  refine Ro.d (mkE [(1, (V.fp (E_Block.e x0)))] 50) ?_
  refine Rn.g ?_
  refine Ro.t 10 ?_
  refine Ro.d (mkE [(1, (V.fp (E_Block.e x0))), (1, (i6 x0.fTerm.fTo.a0)), (0, (i6 x0.fTerm.fTo.a1))] 47) ?_
  refine Run.seq ?_
  refine Run.block ?_
  refine Rn.g ?_
  refine Ro.t 3 ?_
  rcases tf (x0.fTerm.fKind == (1 : Int)) with h43 | h43
  · rw [ite_t h43] at h; refine Ro.p (bool_of h43) ?_
    refine Ro.t 12 ?_
    refine Ro.d (mkE [(1, (V.fp (E_Block.e x0))), (1, (i6 x0.fTerm.fTo.a0)), (0, (i6 x0.fTerm.fTo.a1)), (8, (V.bool true))] 38) ?_
    exact w18_j1 h hp
  · rw [ite_f h43] at h; refine Ro.p (bool_of h43) ?_
    refine Ro.t 4 ?_
    rcases tf (x0.fTerm.fKind == (2 : Int)) with h44 | h44
    · rw [ite_t h44] at h; refine Ro.p (bool_of h44) ?_
      refine Ro.t 7 ?_
      refine Ro.d (mkE [(1, (V.fp (E_Block.e x0))), (1, (i6 x0.fTerm.fTo.a0)), (0, (i6 x0.fTerm.fTo.a1)), (8, (V.bool (x0.fTerm.fTo.a0 == x0.fTerm.fTo.a1)))] 38) ?_
      exact w18_j1 h hp
    · rw [ite_f h44] at h; refine Ro.p (bool_of h44) ?_
      refine Ro.t 7 ?_
      refine Ro.d (mkE [(1, (V.fp (E_Block.e x0))), (1, (i6 x0.fTerm.fTo.a0)), (0, (i6 x0.fTerm.fTo.a1)), (8, (V.bool false))] 38) ?_
      exact w18_j1 h hp

theorem c18 {x0 : T_Block} {r : (List Int)} (h : F18 x0 = some r)  : Fn T 18 [(E_Block.e x0)] [] (fun v hh => deep false hh deepN v = some ((EL (EI .i64)).e r)) := by
  refine (w18 h HP.nil).mono ?_
  rintro v hh ⟨u0, rfl, hu0, hp⟩
  exact mix_deep (EI .i64) hu0 39

/- smithy/graph.in -/
abbrev Q34 (L : List Ob) (r : Bool) : V → Heap → Prop := fun v h => v = EB.e r ∧ HP h (L)
abbrev RR34 (L : List Ob) (r : Bool) : List V → Heap → Prop := fun e h => endR none [4] (Q34 L r) e h

def F34 (x0 : Int) (x1 : Int) : Option Bool :=
  if (decide (x0 ≥ (0 : Int))) then
    some (decide (x0 < x1))
  else
    some false

theorem w34 {x0 : Int} {x1 : Int} {r : Bool} (h : F34 x0 x1 = some r) {H : Heap} {L : List Ob} (hp : HP H (L)) : Fn T 34 [(i6 x0), (i6 x1)] H (Q34 L r) := by
  refine Fn.enterE t34 (e0 := (mkE [(0, (i6 x0)), (0, (i6 x1))] 10)) (by kernel_rfl) ?_
  show Run T (.clr [] i34n3) _ _ (finE none [4] (Q34 L r))
  refine Rn.k (mkE [(0, (i6 x0)), (0, (i6 x1))] 10) ?_
  unfold F34 at h
  refine Rn.g ?_
  refine Ro.t 1 ?_
  refine Ro.d (mkE [(0, (i6 x0)), (0, (i6 x1))] 10) ?_
  refine Rn.g ?_
  refine Ro.t 1 ?_
  rcases tf (decide (x0 ≥ (0 : Int))) with h46 | h46
  · rw [ite_t h46] at h; refine Ro.p (bool_of h46) ?_
    refine Ro.t 6 ?_
    refine Ro.d (mkE [(4, (V.bool (decide (x0 < x1))))] 7) ?_
    refine Run.ret ?_
    have h := Option.some.inj h; subst h
    exact ⟨(V.bool (decide (x0 < x1))), (by kernel_rfl), (by kernel_rfl), hp⟩
  · rw [ite_f h46] at h; refine Ro.p (bool_of h46) ?_
    refine Ro.t 6 ?_
    refine Ro.d (mkE [(4, (V.bool false))] 7) ?_
    refine Run.ret ?_
    have h := Option.some.inj h; subst h
    exact ⟨(V.bool false), (by kernel_rfl), (by kernel_rfl), hp⟩

theorem c34 {x0 : Int} {x1 : Int} {r : Bool} (h : F34 x0 x1 = some r) (s : Bool) : Fn T 34 [(i6 x0), (i6 x1)] [] (fun v hh => deep s hh deepN v = some (EB.e r)) := by
  refine (w34 h HP.nil).mono ?_
  rintro v hh ⟨rfl, hp⟩
  exact EB.hd s hh 38 _ (.inr rfl)

/- smithy/smithyref07.in -/
abbrev Q38 (L : List Ob) (r : Bool) : V → Heap → Prop := fun v h => v = EB.e r ∧ HP h (L)
abbrev RR38 (L : List Ob) (r : Bool) : List V → Heap → Prop := fun e h => endR none [4] (Q38 L r) e h

def F38 (x0 : Int) (x1 : Int) : Option Bool :=
  if (decide (x0 ≥ (0 : Int))) then
    some (decide (x0 < x1))
  else
    some false

theorem w38 {x0 : Int} {x1 : Int} {r : Bool} (h : F38 x0 x1 = some r) {H : Heap} {L : List Ob} (hp : HP H (L)) : Fn T 38 [(i6 x0), (i6 x1)] H (Q38 L r) := by
  refine Fn.enterE t38 (e0 := (mkE [(0, (i6 x0)), (0, (i6 x1))] 10)) (by kernel_rfl) ?_
  show Run T (.clr [] i38n3) _ _ (finE none [4] (Q38 L r))
  refine Rn.k (mkE [(0, (i6 x0)), (0, (i6 x1))] 10) ?_
  unfold F38 at h
  refine Rn.g ?_
  refine Ro.t 1 ?_
  refine Ro.d (mkE [(0, (i6 x0)), (0, (i6 x1))] 10) ?_
  refine Rn.g ?_
  refine Ro.t 1 ?_
  rcases tf (decide (x0 ≥ (0 : Int))) with h48 | h48
  · rw [ite_t h48] at h; refine Ro.p (bool_of h48) ?_
    refine Ro.t 6 ?_
    refine Ro.d (mkE [(4, (V.bool (decide (x0 < x1))))] 7) ?_
    refine Run.ret ?_
    have h := Option.some.inj h; subst h
    exact ⟨(V.bool (decide (x0 < x1))), (by kernel_rfl), (by kernel_rfl), hp⟩
  · rw [ite_f h48] at h; refine Ro.p (bool_of h48) ?_
    refine Ro.t 6 ?_
    refine Ro.d (mkE [(4, (V.bool false))] 7) ?_
    refine Run.ret ?_
    have h := Option.some.inj h; subst h
    exact ⟨(V.bool false), (by kernel_rfl), (by kernel_rfl), hp⟩

theorem c38 {x0 : Int} {x1 : Int} {r : Bool} (h : F38 x0 x1 = some r) (s : Bool) : Fn T 38 [(i6 x0), (i6 x1)] [] (fun v hh => deep s hh deepN v = some (EB.e r)) := by
  refine (w38 h HP.nil).mono ?_
  rintro v hh ⟨rfl, hp⟩
  exact EB.hd s hh 38 _ (.inr rfl)
end Go.Eng.Gra
