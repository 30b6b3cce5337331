/- Plain functions with the answers of the layer's functions, and the proofs (lines written by a program of this session's; no condition beyond those stated). -/
import Derived.Test.YtfkakbipedafiaaDoorGraFb
namespace Go.Eng.Gra
open Go Go.Eng
set_option linter.unusedSectionVars false
set_option linter.unusedVariables false
set_option linter.unusedSimpArgs false
set_option maxRecDepth 20000
/- smithy/smithyref01.isNaN -/
abbrev Q102 (L : List Ob) (r : Bool) : V → Heap → Prop := fun v h => v = EB.e r ∧ HP h (L)
abbrev RR102 (L : List Ob) (r : Bool) : List V → Heap → Prop := fun e h => endR none [2] (Q102 L r) e h

def F102 (x0 : Int) : Option Bool :=
  some (flO (some (Int.toNat x0)) (some (Int.toNat x0)) != some Ordering.eq)

theorem w102 {x0 : Int} {r : Bool} (h : F102 x0 = some r) {H : Heap} {L : List Ob} (hp : HP H (L)) : Fn T 102 [(V.int .u64 x0)] H (Q102 L r) := by
  refine Fn.enterE t102 (e0 := (mkE [(0, (V.int .u64 x0))] 8)) (by kernel_rfl) ?_
  show Run T (.clr [] i102n5) _ _ (finE none [2] (Q102 L r))
  refine Rn.k (mkE [(0, (V.int .u64 x0))] 8) ?_
  unfold F102 at h
  refine Rn.g ?_
  refine Ro.t 1 ?_
  refine Ro.d (mkE [(0, (V.int .u64 x0))] 8) ?_
  refine Rn.g ?_
  refine Ro.t 3 ?_
  refine Ro.d (mkE [(3, (V.fl (some (Int.toNat x0))))] 5) ?_
  refine Rn.g ?_
  refine Ro.t 4 ?_
  refine Ro.d (mkE [(2, (V.bool (flO (some (Int.toNat x0)) (some (Int.toNat x0)) != some Ordering.eq)))] 6) ?_
  refine Run.ret ?_
  have h := Option.some.inj h; subst h
  exact ⟨(V.bool (flO (some (Int.toNat x0)) (some (Int.toNat x0)) != some Ordering.eq)), (by kernel_rfl), (by kernel_rfl), hp⟩

theorem c102 {x0 : Int} {r : Bool} (h : F102 x0 = some r) (s : Bool) : Fn T 102 [(V.int .u64 x0)] [] (fun v hh => deep s hh deepN v = some (EB.e r)) := by
  refine (w102 h HP.nil).mono ?_
  rintro v hh ⟨rfl, hp⟩
  exact EB.hd s hh 38 _ (.inr rfl)

/- smithy/smithyref01.Cut -/
abbrev Q99 (L : List Ob) (r : Int) : V → Heap → Prop := fun v h => v = (EI .u64).e r ∧ HP h (L)
abbrev RR99 (L : List Ob) (r : Int) : List V → Heap → Prop := fun e h => endR none [4] (Q99 L r) e h

def F99_j1 (y9042 : Int) : Option Int :=
  some y9042

theorem w99_j1 {y9042 : Int} {r : Int} (h : F99_j1 y9042 = some r) {H : Heap} {L : List Ob} (hp : HP H (L)) :
    Run T i99n15 (mkE [(1, (V.int .u64 y9042))] 29) H (blk 0 (thn T (.clr [0, 1, 4, 5, 6, 7, 8, 9, 10, 11, 12, 13, 14, 15, 16, 17, 18, 19, 20, 21, 22, 23, 24, 25, 26, 27, 28, 29, 30] i99n43) (finE none [4] (Q99 L r)))) := by
  unfold F99_j1 at h
  refine Rn.g ?_
  refine Ro.t 2 ?_
  refine Ro.d (mkE [(4, (V.int .u64 y9042))] 26) ?_
  refine Run.ret ?_
  have h := Option.some.inj h; subst h
  exact ⟨(V.int .u64 y9042), (by kernel_rfl), (by kernel_rfl), hp⟩

def F99 (x0 : Int) (x1 : Int) : Option Int :=
  if (x0 == (1 : Int)) then
    some (Int.tmod x1 (2 : Int))
  else
    if (x0 == (2 : Int)) then
      some (Int.tmod x1 (256 : Int))
    else
      if (x0 == (3 : Int)) then
        if (decide ((Int.tmod x1 (4294967296 : Int)) ≥ (2147483648 : Int))) then
          F99_j1 ((IntKind.u64.wrap ((Int.tmod x1 (4294967296 : Int)) + (18446744069414584320 : Int))))
        else
          F99_j1 ((Int.tmod x1 (4294967296 : Int)))
      else
        if (x0 == (4 : Int)) then
          some x1
        else
          if (x0 == (5 : Int)) then
            (F102 x1).bind fun y9049 =>
            if y9049 then
              some (9221120237041090560 : Int)
            else
              some x1
          else
            some (0 : Int)

theorem w99 {x0 : Int} {x1 : Int} {r : Int} (h : F99 x0 x1 = some r) {H : Heap} {L : List Ob} (hp : HP H (L)) : Fn T 99 [(V.int .u8 x0), (V.int .u64 x1)] H (Q99 L r) := by
  refine Fn.enterE t99 (e0 := (mkE [(0, (V.int .u8 x0)), (0, (V.int .u64 x1))] 29)) (by kernel_rfl) ?_
  show Run T (.clr [] i99n45) _ _ (finE none [4] (Q99 L r))
  refine Rn.k (mkE [(0, (V.int .u8 x0)), (0, (V.int .u64 x1))] 29) ?_
  unfold F99 at h
  refine Rn.g ?_
  refine Ro.t 1 ?_
  refine Ro.d (mkE [(0, (V.int .u8 x0)), (0, (V.int .u64 x1))] 29) ?_
  refine Run.seq ?_
  refine Rn.g ?_
  refine Ro.t 1 ?_
  refine Ro.d (mkE [(1, (V.int .u64 x1)), (3, (V.int .u8 x0))] 25) ?_
  refine Run.block ?_
  refine Rn.g ?_
  refine Ro.t 2 ?_
  refine Ro.d (mkE [(1, (V.int .u64 x1)), (3, (V.int .u8 x0)), (0, (V.bool (x0 == (1 : Int))))] 24) ?_
  rcases tf (x0 == (1 : Int)) with h9038 | h9038
  · rw [ite_t h9038] at h; refine Rn.t h9038 ?_
    refine Rn.g ?_
    refine Ro.t 3 ?_
    refine Ro.d (mkE [(4, (V.int .u64 (Int.tmod x1 (2 : Int))))] 26) ?_
    refine Run.ret ?_
    have h := Option.some.inj h; subst h
    exact ⟨(V.int .u64 (Int.tmod x1 (2 : Int))), (by kernel_rfl), (by kernel_rfl), hp⟩
  · rw [ite_f h9038] at h; refine Rn.f h9038 ?_
    refine Rn.g ?_
    refine Ro.t 2 ?_
    refine Ro.d (mkE [(1, (V.int .u64 x1)), (3, (V.int .u8 x0)), (4, (V.bool (x0 == (2 : Int))))] 20) ?_
    rcases tf (x0 == (2 : Int)) with h9039 | h9039
    · rw [ite_t h9039] at h; refine Rn.t h9039 ?_
      refine Rn.g ?_
      refine Ro.t 3 ?_
      refine Ro.d (mkE [(4, (V.int .u64 (Int.tmod x1 (256 : Int))))] 26) ?_
      refine Run.ret ?_
      have h := Option.some.inj h; subst h
      exact ⟨(V.int .u64 (Int.tmod x1 (256 : Int))), (by kernel_rfl), (by kernel_rfl), hp⟩
    · rw [ite_f h9039] at h; refine Rn.f h9039 ?_
      refine Rn.g ?_
      refine Ro.t 2 ?_
      refine Ro.d (mkE [(1, (V.int .u64 x1)), (3, (V.int .u8 x0)), (8, (V.bool (x0 == (3 : Int))))] 16) ?_
      rcases tf (x0 == (3 : Int)) with h9040 | h9040
      · rw [ite_t h9040] at h; refine Rn.t h9040 ?_
        refine Rn.g ?_
        refine Ro.t 3 ?_
        refine Ro.d (mkE [(1, (V.int .u64 (Int.tmod x1 (4294967296 : Int))))] 29) ?_
        refine Run.seq ?_
        refine Rn.g ?_
        refine Ro.t 2 ?_
        refine Ro.d (mkE [(1, (V.int .u64 (Int.tmod x1 (4294967296 : Int)))), (17, (V.bool (decide ((Int.tmod x1 (4294967296 : Int)) ≥ (2147483648 : Int)))))] 11) ?_
        rcases tf (decide ((Int.tmod x1 (4294967296 : Int)) ≥ (2147483648 : Int))) with h9043 | h9043
        · rw [ite_t h9043] at h; refine Rn.t h9043 ?_
          refine Run.rgn ?_
          refine Ro.t 3 ?_
          refine Ro.d (mkE [(1, (V.int .u64 (IntKind.u64.wrap ((Int.tmod x1 (4294967296 : Int)) + (18446744069414584320 : Int)))))] 29) ?_
          exact w99_j1 h hp
        · rw [ite_f h9043] at h; refine Rn.f h9043 ?_
          refine Run.skip ?_
          refine Rn.c (mkE [(1, (V.int .u64 (Int.tmod x1 (4294967296 : Int))))] 29) ?_
          exact w99_j1 h hp
      · rw [ite_f h9040] at h; refine Rn.f h9040 ?_
        refine Rn.g ?_
        refine Ro.t 2 ?_
        refine Ro.d (mkE [(1, (V.int .u64 x1)), (3, (V.int .u8 x0)), (17, (V.bool (x0 == (4 : Int))))] 7) ?_
        rcases tf (x0 == (4 : Int)) with h9044 | h9044
        · rw [ite_t h9044] at h; refine Rn.t h9044 ?_
          refine Rn.g ?_
          refine Ro.t 2 ?_
          refine Ro.d (mkE [(4, (V.int .u64 x1))] 26) ?_
          refine Run.ret ?_
          have h := Option.some.inj h; subst h
          exact ⟨(V.int .u64 x1), (by kernel_rfl), (by kernel_rfl), hp⟩
        · rw [ite_f h9044] at h; refine Rn.f h9044 ?_
          refine Rn.g ?_
          refine Ro.t 2 ?_
          refine Ro.d (mkE [(1, (V.int .u64 x1)), (24, (V.bool (x0 == (5 : Int))))] 4) ?_
          rcases tf (x0 == (5 : Int)) with h9045 | h9045
          · rw [ite_t h9045] at h; refine Rn.t h9045 ?_
            refine Run.seq ?_
            refine Rn.g ?_
            refine Ro.t 1 ?_
            obtain ⟨y9049, h9050, h⟩ := bind_some h
            refine RunO.c1 (by kernel_rfl) (by kernel_rfl) (c102 h9050 _) ?_
            refine Ro.d (mkE [(1, (V.int .u64 x1)), (27, (V.bool y9049))] 1) ?_
            rcases tf y9049 with h9051 | h9051
            · rw [ite_t h9051] at h; refine Rn.t h9051 ?_
              refine Rn.g ?_
              refine Ro.t 1 ?_
              refine Ro.d (mkE [(4, (V.int .u64 (9221120237041090560 : Int)))] 26) ?_
              refine Run.ret ?_
              have h := Option.some.inj h; subst h
              exact ⟨(V.int .u64 (9221120237041090560 : Int)), (by kernel_rfl), (by kernel_rfl), hp⟩
            · rw [ite_f h9051] at h; refine Rn.f h9051 ?_
              refine Run.skip ?_
              refine Rn.c (mkE [(1, (V.int .u64 x1))] 29) ?_
              refine Rn.g ?_
              refine Ro.t 2 ?_
              refine Ro.d (mkE [(4, (V.int .u64 x1))] 26) ?_
              refine Run.ret ?_
              have h := Option.some.inj h; subst h
              exact ⟨(V.int .u64 x1), (by kernel_rfl), (by kernel_rfl), hp⟩
          · rw [ite_f h9045] at h; refine Rn.f h9045 ?_
            refine Run.skip ?_
            refine Rn.c (mkE [] 31) ?_
            refine Rn.g ?_
            refine Ro.t 1 ?_
            refine Ro.d (mkE [(4, (V.int .u64 (0 : Int)))] 26) ?_
            refine Run.ret ?_
            have h := Option.some.inj h; subst h
            exact ⟨(V.int .u64 (0 : Int)), (by kernel_rfl), (by kernel_rfl), hp⟩

theorem c99 {x0 : Int} {x1 : Int} {r : Int} (h : F99 x0 x1 = some r) (s : Bool) : Fn T 99 [(V.int .u8 x0), (V.int .u64 x1)] [] (fun v hh => deep s hh deepN v = some ((EI .u64).e r)) := by
  refine (w99 h HP.nil).mono ?_
  rintro v hh ⟨rfl, hp⟩
  exact (EI .u64).hd s hh 38 _ (.inr rfl)

/- smithy/smithyref01.Right -/
abbrev Q94 (L : List Ob) (r : Bool) : V → Heap → Prop := fun v h => v = EB.e r ∧ HP h (L)
abbrev RR94 (L : List Ob) (r : Bool) : List V → Heap → Prop := fun e h => endR none [4] (Q94 L r) e h

def F94 (x0 : Int) (x1 : Int) : Option Bool :=
  if (decide (x0 ≥ (1 : Int))) then
    if (decide (x0 ≤ (5 : Int))) then
      (F99 x0 x1).bind fun y9056 =>
      some (y9056 == x1)
    else
      some false
  else
    some false

theorem w94 {x0 : Int} {x1 : Int} {r : Bool} (h : F94 x0 x1 = some r) {H : Heap} {L : List Ob} (hp : HP H (L)) : Fn T 94 [(V.int .u8 x0), (V.int .u64 x1)] H (Q94 L r) := by
  refine Fn.enterE t94 (e0 := (mkE [(0, (V.int .u8 x0)), (0, (V.int .u64 x1))] 16)) (by kernel_rfl) ?_
  show Run T (.clr [] i94n3) _ _ (finE none [4] (Q94 L r))
  refine Rn.k (mkE [(0, (V.int .u8 x0)), (0, (V.int .u64 x1))] 16) ?_
  unfold F94 at h
  refine Rn.g ?_
  refine Ro.t 1 ?_
  refine Ro.d (mkE [(0, (V.int .u8 x0)), (0, (V.int .u64 x1))] 16) ?_
  refine Rn.g ?_
  refine Ro.t 1 ?_
  rcases tf (decide (x0 ≥ (1 : Int))) with h9054 | h9054
  · rw [ite_t h9054] at h; refine Ro.p (bool_of h9054) ?_
    refine Ro.t 2 ?_
    rcases tf (decide (x0 ≤ (5 : Int))) with h9055 | h9055
    · rw [ite_t h9055] at h; refine Ro.p (bool_of h9055) ?_
      refine Ro.t 4 ?_
      obtain ⟨y9056, h9057, h⟩ := bind_some h
      refine RunO.c1 (by kernel_rfl) (by kernel_rfl) (c99 h9057 _) ?_
      refine Ro.t 4 ?_
      refine Ro.d (mkE [(4, (V.bool (y9056 == x1)))] 13) ?_
      refine Run.ret ?_
      have h := Option.some.inj h; subst h
      exact ⟨(V.bool (y9056 == x1)), (by kernel_rfl), (by kernel_rfl), hp⟩
    · rw [ite_f h9055] at h; refine Ro.p (bool_of h9055) ?_
      refine Ro.t 9 ?_
      refine Ro.d (mkE [(4, (V.bool false))] 13) ?_
      refine Run.ret ?_
      have h := Option.some.inj h; subst h
      exact ⟨(V.bool false), (by kernel_rfl), (by kernel_rfl), hp⟩
  · rw [ite_f h9054] at h; refine Ro.p (bool_of h9054) ?_
    refine Ro.t 12 ?_
    refine Ro.d (mkE [(4, (V.bool false))] 13) ?_
    refine Run.ret ?_
    have h := Option.some.inj h; subst h
    exact ⟨(V.bool false), (by kernel_rfl), (by kernel_rfl), hp⟩

theorem c94 {x0 : Int} {x1 : Int} {r : Bool} (h : F94 x0 x1 = some r) (s : Bool) : Fn T 94 [(V.int .u8 x0), (V.int .u64 x1)] [] (fun v hh => deep s hh deepN v = some (EB.e r)) := by
  refine (w94 h HP.nil).mono ?_
  rintro v hh ⟨rfl, hp⟩
  exact EB.hd s hh 38 _ (.inr rfl)

/- smithy/smithyref01.Whole -/
abbrev Q103 (L : List Ob) (r : Bool) : V → Heap → Prop := fun v h => v = EB.e r ∧ HP h (L)
abbrev RR103 (L : List Ob) (r : Bool) : List V → Heap → Prop := fun e h => endR none [2] (Q103 L r) e h

def F103 (x0 : Int) : Option Bool :=
  if (x0 == (2 : Int)) then
    some true
  else
    if (x0 == (3 : Int)) then
      some true
    else
      some (x0 == (4 : Int))

theorem w103 {x0 : Int} {r : Bool} (h : F103 x0 = some r) {H : Heap} {L : List Ob} (hp : HP H (L)) : Fn T 103 [(V.int .u8 x0)] H (Q103 L r) := by
  refine Fn.enterE t103 (e0 := (mkE [(0, (V.int .u8 x0))] 12)) (by kernel_rfl) ?_
  show Run T (.clr [] i103n3) _ _ (finE none [2] (Q103 L r))
  refine Rn.k (mkE [(0, (V.int .u8 x0))] 12) ?_
  unfold F103 at h
  refine Rn.g ?_
  refine Ro.t 1 ?_
  refine Ro.d (mkE [(0, (V.int .u8 x0))] 12) ?_
  refine Rn.g ?_
  refine Ro.t 1 ?_
  rcases tf (x0 == (2 : Int)) with h9102 | h9102
  · rw [ite_t h9102] at h; refine Ro.p (bool_of h9102) ?_
    refine Ro.t 9 ?_
    refine Ro.d (mkE [(2, (V.bool true))] 10) ?_
    refine Run.ret ?_
    have h := Option.some.inj h; subst h
    exact ⟨(V.bool true), (by kernel_rfl), (by kernel_rfl), hp⟩
  · rw [ite_f h9102] at h; refine Ro.p (bool_of h9102) ?_
    refine Ro.t 2 ?_
    rcases tf (x0 == (3 : Int)) with h9103 | h9103
    · rw [ite_t h9103] at h; refine Ro.p (bool_of h9103) ?_
      refine Ro.t 6 ?_
      refine Ro.d (mkE [(2, (V.bool true))] 10) ?_
      refine Run.ret ?_
      have h := Option.some.inj h; subst h
      exact ⟨(V.bool true), (by kernel_rfl), (by kernel_rfl), hp⟩
    · rw [ite_f h9103] at h; refine Ro.p (bool_of h9103) ?_
      refine Ro.t 6 ?_
      refine Ro.d (mkE [(2, (V.bool (x0 == (4 : Int))))] 10) ?_
      refine Run.ret ?_
      have h := Option.some.inj h; subst h
      exact ⟨(V.bool (x0 == (4 : Int))), (by kernel_rfl), (by kernel_rfl), hp⟩

theorem c103 {x0 : Int} {r : Bool} (h : F103 x0 = some r) (s : Bool) : Fn T 103 [(V.int .u8 x0)] [] (fun v hh => deep s hh deepN v = some (EB.e r)) := by
  refine (w103 h HP.nil).mono ?_
  rintro v hh ⟨rfl, hp⟩
  exact EB.hd s hh 38 _ (.inr rfl)

/- smithy/smithyref01.Of -/
abbrev Q100 (L : List Ob) (r : (Int × Bool)) : V → Heap → Prop := fun v h => v = .tup [(EI .u8).e r.1, EB.e r.2] ∧ HP h (L)
abbrev RR100 (L : List Ob) (r : (Int × Bool)) : List V → Heap → Prop := fun e h => endR none [4, 5] (Q100 L r) e h

def F100_j1 : Option (Int × Bool) :=
  some ((0 : Int), false)

theorem w100_j1 {r : (Int × Bool)} (h : F100_j1 = some r) {H : Heap} {L : List Ob} (hp : HP H (L)) :
    Run T i100n86 (mkE [] 47) H (finE none [4, 5] (Q100 L r)) := by
  unfold F100_j1 at h
  refine Rn.g ?_
  refine Ro.t 2 ?_
  refine Ro.d (mkE [(4, (V.int .u8 (0 : Int))), (0, (V.bool false))] 41) ?_
  refine Run.ret ?_
  have h := Option.some.inj h; subst h
  exact ⟨(V.tup [(V.int .u8 (0 : Int)), (V.bool false)]), (by kernel_rfl), (by kernel_rfl), hp⟩

def F100_j6 (x1 : Int) (y9247 : Bool) : Option (Int × Bool) :=
  if y9247 then
    if (x1 != (1 : Int)) then
      some ((1 : Int), true)
    else
      F100_j1
  else
    F100_j1

theorem w100_j6 {x1 : Int} {y9247 : Bool} {r : (Int × Bool)} (h : F100_j6 x1 y9247 = some r) {H : Heap} {L : List Ob} (hp : HP H (L)) :
    Run T i100n73 (mkE [(1, (V.int .u8 x1)), (38, (V.bool y9247))] 6) H (blk 0 (thn T (.clr [0, 1, 4, 5, 12, 13, 14, 15, 16, 17, 18, 19, 20, 21, 22, 23, 24, 25, 26, 27, 28, 29, 30, 31, 32, 33, 34, 35, 36, 37, 38, 39, 40, 41, 42, 43, 44, 45, 46] i100n86) (finE none [4, 5] (Q100 L r)))) := by
  unfold F100_j6 at h
  rcases tf y9247 with h9248 | h9248
  · rw [ite_t h9248] at h; refine Rn.t h9248 ?_
    refine Rn.g ?_
    refine Ro.t 2 ?_
    refine Ro.d (mkE [(46, (V.bool (x1 != (1 : Int))))] 0) ?_
    rcases tf (x1 != (1 : Int)) with h9249 | h9249
    · rw [ite_t h9249] at h; refine Rn.t h9249 ?_
      refine Rn.g ?_
      refine Ro.t 2 ?_
      refine Ro.d (mkE [(4, (V.int .u8 (1 : Int))), (0, (V.bool true))] 41) ?_
      refine Run.ret ?_
      have h := Option.some.inj h; subst h
      exact ⟨(V.tup [(V.int .u8 (1 : Int)), (V.bool true)]), (by kernel_rfl), (by kernel_rfl), hp⟩
    · rw [ite_f h9249] at h; refine Rn.f h9249 ?_
      refine Run.skip ?_
      refine Rn.c (mkE [] 47) ?_
      exact w100_j1 h hp
  · rw [ite_f h9248] at h; refine Rn.f h9248 ?_
    refine Run.skip ?_
    refine Rn.c (mkE [] 47) ?_
    exact w100_j1 h hp

def F100_j5 (x0 : Int) (x1 : Int) (y9242 : Bool) : Option (Int × Bool) :=
  if y9242 then
    some ((1 : Int), true)
  else
    if (x0 == (13 : Int)) then
      F100_j6 x1 ((x0 == (13 : Int)))
    else
      if (x0 == (14 : Int)) then
        F100_j6 x1 ((x0 == (14 : Int)))
      else
        if (x0 == (15 : Int)) then
          F100_j6 x1 ((x0 == (15 : Int)))
        else
          F100_j6 x1 ((x0 == (16 : Int)))

theorem w100_j5 {x0 : Int} {x1 : Int} {y9242 : Bool} {r : (Int × Bool)} (h : F100_j5 x0 x1 y9242 = some r) {H : Heap} {L : List Ob} (hp : HP H (L)) :
    Run T i100n75 (mkE [(1, (V.int .u8 x1)), (10, (V.int .u8 x0)), (24, (V.bool y9242))] 9) H (blk 0 (thn T (.clr [0, 1, 4, 5, 12, 13, 14, 15, 16, 17, 18, 19, 20, 21, 22, 23, 24, 25, 26, 27, 28, 29, 30, 31, 32, 33, 34, 35, 36, 37, 38, 39, 40, 41, 42, 43, 44, 45, 46] i100n86) (finE none [4, 5] (Q100 L r)))) := by
  unfold F100_j5 at h
  rcases tf y9242 with h9243 | h9243
  · rw [ite_t h9243] at h; refine Rn.t h9243 ?_
    refine Rn.g ?_
    refine Ro.t 2 ?_
    refine Ro.d (mkE [(4, (V.int .u8 (1 : Int))), (0, (V.bool true))] 41) ?_
    refine Run.ret ?_
    have h := Option.some.inj h; subst h
    exact ⟨(V.tup [(V.int .u8 (1 : Int)), (V.bool true)]), (by kernel_rfl), (by kernel_rfl), hp⟩
  · rw [ite_f h9243] at h; refine Rn.f h9243 ?_
    refine Run.seq ?_
    refine Rn.g ?_
    refine Ro.t 2 ?_
    refine Ro.d (mkE [(1, (V.int .u8 x1)), (10, (V.int .u8 x0)), (27, (V.bool (x0 == (13 : Int))))] 6) ?_
    rcases tf (x0 == (13 : Int)) with h9250 | h9250
    · rw [ite_t h9250] at h; refine Rn.t h9250 ?_
      refine Run.skip ?_
      refine Rn.c (mkE [(1, (V.int .u8 x1)), (38, (V.bool (x0 == (13 : Int))))] 6) ?_
      exact w100_j6 h hp
    · rw [ite_f h9250] at h; refine Rn.f h9250 ?_
      refine Rn.g ?_
      refine Ro.t 2 ?_
      refine Ro.d (mkE [(1, (V.int .u8 x1)), (10, (V.int .u8 x0)), (27, (V.bool (x0 == (14 : Int))))] 6) ?_
      rcases tf (x0 == (14 : Int)) with h9251 | h9251
      · rw [ite_t h9251] at h; refine Rn.t h9251 ?_
        refine Run.skip ?_
        refine Rn.c (mkE [(1, (V.int .u8 x1)), (38, (V.bool (x0 == (14 : Int))))] 6) ?_
        exact w100_j6 h hp
      · rw [ite_f h9251] at h; refine Rn.f h9251 ?_
        refine Rn.g ?_
        refine Ro.t 2 ?_
        refine Ro.d (mkE [(1, (V.int .u8 x1)), (10, (V.int .u8 x0)), (27, (V.bool (x0 == (15 : Int))))] 6) ?_
        rcases tf (x0 == (15 : Int)) with h9252 | h9252
        · rw [ite_t h9252] at h; refine Rn.t h9252 ?_
          refine Run.skip ?_
          refine Rn.c (mkE [(1, (V.int .u8 x1)), (38, (V.bool (x0 == (15 : Int))))] 6) ?_
          exact w100_j6 h hp
        · rw [ite_f h9252] at h; refine Rn.f h9252 ?_
          refine Run.rgn ?_
          refine Ro.t 2 ?_
          refine Ro.d (mkE [(1, (V.int .u8 x1)), (38, (V.bool (x0 == (16 : Int))))] 6) ?_
          exact w100_j6 h hp

def F100_j4 (x0 : Int) (x1 : Int) (y9238 : Bool) : Option (Int × Bool) :=
  if y9238 then
    if (x1 != (5 : Int)) then
      some (x1, true)
    else
      F100_j1
  else
    if (x0 == (11 : Int)) then
      F100_j5 x0 x1 ((x0 == (11 : Int)))
    else
      F100_j5 x0 x1 ((x0 == (12 : Int)))

theorem w100_j4 {x0 : Int} {x1 : Int} {y9238 : Bool} {r : (Int × Bool)} (h : F100_j4 x0 x1 y9238 = some r) {H : Heap} {L : List Ob} (hp : HP H (L)) :
    Run T i100n77 (mkE [(1, (V.int .u8 x1)), (10, (V.int .u8 x0)), (16, (V.bool y9238))] 17) H (blk 0 (thn T (.clr [0, 1, 4, 5, 12, 13, 14, 15, 16, 17, 18, 19, 20, 21, 22, 23, 24, 25, 26, 27, 28, 29, 30, 31, 32, 33, 34, 35, 36, 37, 38, 39, 40, 41, 42, 43, 44, 45, 46] i100n86) (finE none [4, 5] (Q100 L r)))) := by
  unfold F100_j4 at h
  rcases tf y9238 with h9239 | h9239
  · rw [ite_t h9239] at h; refine Rn.t h9239 ?_
    refine Rn.g ?_
    refine Ro.t 2 ?_
    refine Ro.d (mkE [(1, (V.int .u8 x1)), (33, (V.bool (x1 != (5 : Int))))] 11) ?_
    rcases tf (x1 != (5 : Int)) with h9240 | h9240
    · rw [ite_t h9240] at h; refine Rn.t h9240 ?_
      refine Rn.g ?_
      refine Ro.t 3 ?_
      refine Ro.d (mkE [(4, (V.int .u8 x1)), (0, (V.bool true))] 41) ?_
      refine Run.ret ?_
      have h := Option.some.inj h; subst h
      exact ⟨(V.tup [(V.int .u8 x1), (V.bool true)]), (by kernel_rfl), (by kernel_rfl), hp⟩
    · rw [ite_f h9240] at h; refine Rn.f h9240 ?_
      refine Run.skip ?_
      refine Rn.c (mkE [] 47) ?_
      exact w100_j1 h hp
  · rw [ite_f h9239] at h; refine Rn.f h9239 ?_
    refine Run.seq ?_
    refine Rn.g ?_
    refine Ro.t 2 ?_
    refine Ro.d (mkE [(1, (V.int .u8 x1)), (10, (V.int .u8 x0)), (24, (V.bool (x0 == (11 : Int))))] 9) ?_
    rcases tf (x0 == (11 : Int)) with h9253 | h9253
    · rw [ite_t h9253] at h; refine Rn.t h9253 ?_
      refine Run.skip ?_
      refine Rn.c (mkE [(1, (V.int .u8 x1)), (10, (V.int .u8 x0)), (24, (V.bool (x0 == (11 : Int))))] 9) ?_
      exact w100_j5 h hp
    · rw [ite_f h9253] at h; refine Rn.f h9253 ?_
      refine Run.rgn ?_
      refine Ro.t 2 ?_
      refine Ro.d (mkE [(1, (V.int .u8 x1)), (10, (V.int .u8 x0)), (24, (V.bool (x0 == (12 : Int))))] 9) ?_
      exact w100_j5 h hp

def F100_j3 (x0 : Int) (x1 : Int) (y9230 : Bool) : Option (Int × Bool) :=
  if y9230 then
    (F103 x1).bind fun y9232 =>
    if y9232 then
      some (x1, true)
    else
      F100_j1
  else
    if (x0 == (6 : Int)) then
      F100_j4 x0 x1 ((x0 == (6 : Int)))
    else
      if (x0 == (7 : Int)) then
        F100_j4 x0 x1 ((x0 == (7 : Int)))
      else
        if (x0 == (8 : Int)) then
          F100_j4 x0 x1 ((x0 == (8 : Int)))
        else
          F100_j4 x0 x1 ((x0 == (18 : Int)))

theorem w100_j3 {x0 : Int} {x1 : Int} {y9230 : Bool} {r : (Int × Bool)} (h : F100_j3 x0 x1 y9230 = some r) {H : Heap} {L : List Ob} (hp : HP H (L)) :
    Run T i100n79 (mkE [(1, (V.int .u8 x1)), (10, (V.int .u8 x0)), (9, (V.bool y9230))] 24) H (blk 0 (thn T (.clr [0, 1, 4, 5, 12, 13, 14, 15, 16, 17, 18, 19, 20, 21, 22, 23, 24, 25, 26, 27, 28, 29, 30, 31, 32, 33, 34, 35, 36, 37, 38, 39, 40, 41, 42, 43, 44, 45, 46] i100n86) (finE none [4, 5] (Q100 L r)))) := by
  unfold F100_j3 at h
  rcases tf y9230 with h9231 | h9231
  · rw [ite_t h9231] at h; refine Rn.t h9231 ?_
    refine Rn.g ?_
    refine Ro.t 1 ?_
    obtain ⟨y9232, h9233, h⟩ := bind_some h
    refine RunO.c1 (by kernel_rfl) (by kernel_rfl) (c103 h9233 _) ?_
    refine Ro.d (mkE [(1, (V.int .u8 x1)), (25, (V.bool y9232))] 19) ?_
    rcases tf y9232 with h9234 | h9234
    · rw [ite_t h9234] at h; refine Rn.t h9234 ?_
      refine Rn.g ?_
      refine Ro.t 3 ?_
      refine Ro.d (mkE [(4, (V.int .u8 x1)), (0, (V.bool true))] 41) ?_
      refine Run.ret ?_
      have h := Option.some.inj h; subst h
      exact ⟨(V.tup [(V.int .u8 x1), (V.bool true)]), (by kernel_rfl), (by kernel_rfl), hp⟩
    · rw [ite_f h9234] at h; refine Rn.f h9234 ?_
      refine Run.skip ?_
      refine Rn.c (mkE [] 47) ?_
      exact w100_j1 h hp
  · rw [ite_f h9231] at h; refine Rn.f h9231 ?_
    refine Run.seq ?_
    refine Rn.g ?_
    refine Ro.t 2 ?_
    refine Ro.d (mkE [(1, (V.int .u8 x1)), (10, (V.int .u8 x0)), (16, (V.bool (x0 == (6 : Int))))] 17) ?_
    rcases tf (x0 == (6 : Int)) with h9254 | h9254
    · rw [ite_t h9254] at h; refine Rn.t h9254 ?_
      refine Run.skip ?_
      refine Rn.c (mkE [(1, (V.int .u8 x1)), (10, (V.int .u8 x0)), (16, (V.bool (x0 == (6 : Int))))] 17) ?_
      exact w100_j4 h hp
    · rw [ite_f h9254] at h; refine Rn.f h9254 ?_
      refine Rn.g ?_
      refine Ro.t 2 ?_
      refine Ro.d (mkE [(1, (V.int .u8 x1)), (10, (V.int .u8 x0)), (16, (V.bool (x0 == (7 : Int))))] 17) ?_
      rcases tf (x0 == (7 : Int)) with h9255 | h9255
      · rw [ite_t h9255] at h; refine Rn.t h9255 ?_
        refine Run.skip ?_
        refine Rn.c (mkE [(1, (V.int .u8 x1)), (10, (V.int .u8 x0)), (16, (V.bool (x0 == (7 : Int))))] 17) ?_
        exact w100_j4 h hp
      · rw [ite_f h9255] at h; refine Rn.f h9255 ?_
        refine Rn.g ?_
        refine Ro.t 2 ?_
        refine Ro.d (mkE [(1, (V.int .u8 x1)), (10, (V.int .u8 x0)), (16, (V.bool (x0 == (8 : Int))))] 17) ?_
        rcases tf (x0 == (8 : Int)) with h9256 | h9256
        · rw [ite_t h9256] at h; refine Rn.t h9256 ?_
          refine Run.skip ?_
          refine Rn.c (mkE [(1, (V.int .u8 x1)), (10, (V.int .u8 x0)), (16, (V.bool (x0 == (8 : Int))))] 17) ?_
          exact w100_j4 h hp
        · rw [ite_f h9256] at h; refine Rn.f h9256 ?_
          refine Run.rgn ?_
          refine Ro.t 2 ?_
          refine Ro.d (mkE [(1, (V.int .u8 x1)), (10, (V.int .u8 x0)), (16, (V.bool (x0 == (18 : Int))))] 17) ?_
          exact w100_j4 h hp

def F100_j2 (x0 : Int) (x1 : Int) (y9225 : Bool) : Option (Int × Bool) :=
  if y9225 then
    if (x1 != (1 : Int)) then
      some (x1, true)
    else
      F100_j1
  else
    if (x0 == (5 : Int)) then
      F100_j3 x0 x1 ((x0 == (5 : Int)))
    else
      if (x0 == (9 : Int)) then
        F100_j3 x0 x1 ((x0 == (9 : Int)))
      else
        F100_j3 x0 x1 ((x0 == (10 : Int)))

theorem w100_j2 {x0 : Int} {x1 : Int} {y9225 : Bool} {r : (Int × Bool)} (h : F100_j2 x0 x1 y9225 = some r) {H : Heap} {L : List Ob} (hp : HP H (L)) :
    Run T i100n81 (mkE [(1, (V.int .u8 x1)), (10, (V.int .u8 x0)), (0, (V.bool y9225))] 33) H (blk 0 (thn T (.clr [0, 1, 4, 5, 12, 13, 14, 15, 16, 17, 18, 19, 20, 21, 22, 23, 24, 25, 26, 27, 28, 29, 30, 31, 32, 33, 34, 35, 36, 37, 38, 39, 40, 41, 42, 43, 44, 45, 46] i100n86) (finE none [4, 5] (Q100 L r)))) := by
  unfold F100_j2 at h
  rcases tf y9225 with h9226 | h9226
  · rw [ite_t h9226] at h; refine Rn.t h9226 ?_
    refine Rn.g ?_
    refine Ro.t 2 ?_
    refine Ro.d (mkE [(1, (V.int .u8 x1)), (18, (V.bool (x1 != (1 : Int))))] 26) ?_
    rcases tf (x1 != (1 : Int)) with h9227 | h9227
    · rw [ite_t h9227] at h; refine Rn.t h9227 ?_
      refine Rn.g ?_
      refine Ro.t 3 ?_
      refine Ro.d (mkE [(4, (V.int .u8 x1)), (0, (V.bool true))] 41) ?_
      refine Run.ret ?_
      have h := Option.some.inj h; subst h
      exact ⟨(V.tup [(V.int .u8 x1), (V.bool true)]), (by kernel_rfl), (by kernel_rfl), hp⟩
    · rw [ite_f h9227] at h; refine Rn.f h9227 ?_
      refine Run.skip ?_
      refine Rn.c (mkE [] 47) ?_
      exact w100_j1 h hp
  · rw [ite_f h9226] at h; refine Rn.f h9226 ?_
    refine Run.seq ?_
    refine Rn.g ?_
    refine Ro.t 2 ?_
    refine Ro.d (mkE [(1, (V.int .u8 x1)), (10, (V.int .u8 x0)), (9, (V.bool (x0 == (5 : Int))))] 24) ?_
    rcases tf (x0 == (5 : Int)) with h9257 | h9257
    · rw [ite_t h9257] at h; refine Rn.t h9257 ?_
      refine Run.skip ?_
      refine Rn.c (mkE [(1, (V.int .u8 x1)), (10, (V.int .u8 x0)), (9, (V.bool (x0 == (5 : Int))))] 24) ?_
      exact w100_j3 h hp
    · rw [ite_f h9257] at h; refine Rn.f h9257 ?_
      refine Rn.g ?_
      refine Ro.t 2 ?_
      refine Ro.d (mkE [(1, (V.int .u8 x1)), (10, (V.int .u8 x0)), (9, (V.bool (x0 == (9 : Int))))] 24) ?_
      rcases tf (x0 == (9 : Int)) with h9258 | h9258
      · rw [ite_t h9258] at h; refine Rn.t h9258 ?_
        refine Run.skip ?_
        refine Rn.c (mkE [(1, (V.int .u8 x1)), (10, (V.int .u8 x0)), (9, (V.bool (x0 == (9 : Int))))] 24) ?_
        exact w100_j3 h hp
      · rw [ite_f h9258] at h; refine Rn.f h9258 ?_
        refine Run.rgn ?_
        refine Ro.t 2 ?_
        refine Ro.d (mkE [(1, (V.int .u8 x1)), (10, (V.int .u8 x0)), (9, (V.bool (x0 == (10 : Int))))] 24) ?_
        exact w100_j3 h hp

def F100 (x0 : Int) (x1 : Int) : Option (Int × Bool) :=
  if (decide (x1 < (1 : Int))) then
    some ((0 : Int), false)
  else
    if (decide (x1 > (5 : Int))) then
      some ((0 : Int), false)
    else
      if (x0 == (1 : Int)) then
        F100_j2 x0 x1 ((x0 == (1 : Int)))
      else
        if (x0 == (2 : Int)) then
          F100_j2 x0 x1 ((x0 == (2 : Int)))
        else
          if (x0 == (3 : Int)) then
            F100_j2 x0 x1 ((x0 == (3 : Int)))
          else
            if (x0 == (4 : Int)) then
              F100_j2 x0 x1 ((x0 == (4 : Int)))
            else
              F100_j2 x0 x1 ((x0 == (17 : Int)))

theorem w100 {x0 : Int} {x1 : Int} {r : (Int × Bool)} (h : F100 x0 x1 = some r) {H : Heap} {L : List Ob} (hp : HP H (L)) : Fn T 100 [(V.int .u8 x0), (V.int .u8 x1)] H (Q100 L r) := by
  refine Fn.enterE t100 (e0 := (mkE [(0, (V.int .u8 x0)), (0, (V.int .u8 x1))] 45)) (by kernel_rfl) ?_
  show Run T (.clr [] i100n89) _ _ (finE none [4, 5] (Q100 L r))
  refine Rn.k (mkE [(0, (V.int .u8 x0)), (0, (V.int .u8 x1))] 45) ?_
  unfold F100 at h
  refine Rn.g ?_
  refine Ro.t 2 ?_
  refine Ro.d (mkE [(0, (V.int .u8 x0)), (0, (V.int .u8 x1))] 45) ?_
  refine Run.seq ?_
  refine Rn.g ?_
  refine Ro.t 1 ?_
  rcases tf (decide (x1 < (1 : Int))) with h9177 | h9177
  · rw [ite_t h9177] at h; refine Ro.p (bool_of h9177) ?_
    refine Ro.t 4 ?_
    refine Ro.d (mkE [(0, (V.int .u8 x0)), (0, (V.int .u8 x1)), (9, (V.bool true))] 35) ?_
    refine Run.condT (by kernel_rfl) ?_
    refine Rn.g ?_
    refine Ro.t 2 ?_
    refine Ro.d (mkE [(4, (V.int .u8 (0 : Int))), (0, (V.bool false))] 41) ?_
    refine Run.ret ?_
    have h := Option.some.inj h; subst h
    exact ⟨(V.tup [(V.int .u8 (0 : Int)), (V.bool false)]), (by kernel_rfl), (by kernel_rfl), hp⟩
  · rw [ite_f h9177] at h; refine Ro.p (bool_of h9177) ?_
    refine Ro.t 4 ?_
    refine Ro.d (mkE [(0, (V.int .u8 x0)), (0, (V.int .u8 x1)), (9, (V.bool (decide (x1 > (5 : Int)))))] 35) ?_
    rcases tf (decide (x1 > (5 : Int))) with h9178 | h9178
    · rw [ite_t h9178] at h; refine Rn.t h9178 ?_
      refine Rn.g ?_
      refine Ro.t 2 ?_
      refine Ro.d (mkE [(4, (V.int .u8 (0 : Int))), (0, (V.bool false))] 41) ?_
      refine Run.ret ?_
      have h := Option.some.inj h; subst h
      exact ⟨(V.tup [(V.int .u8 (0 : Int)), (V.bool false)]), (by kernel_rfl), (by kernel_rfl), hp⟩
    · rw [ite_f h9178] at h; refine Rn.f h9178 ?_
      refine Run.skip ?_
      refine Rn.c (mkE [(0, (V.int .u8 x0)), (0, (V.int .u8 x1))] 45) ?_
      refine Run.seq ?_
      refine Rn.g ?_
      refine Ro.t 1 ?_
      refine Ro.d (mkE [(1, (V.int .u8 x1)), (10, (V.int .u8 x0))] 34) ?_
      refine Run.block ?_
      refine Run.seq ?_
      refine Rn.g ?_
      refine Ro.t 2 ?_
      refine Ro.d (mkE [(1, (V.int .u8 x1)), (10, (V.int .u8 x0)), (0, (V.bool (x0 == (1 : Int))))] 33) ?_
      rcases tf (x0 == (1 : Int)) with h9259 | h9259
      · rw [ite_t h9259] at h; refine Rn.t h9259 ?_
        refine Run.skip ?_
        refine Rn.c (mkE [(1, (V.int .u8 x1)), (10, (V.int .u8 x0)), (0, (V.bool (x0 == (1 : Int))))] 33) ?_
        exact w100_j2 h hp
      · rw [ite_f h9259] at h; refine Rn.f h9259 ?_
        refine Rn.g ?_
        refine Ro.t 2 ?_
        refine Ro.d (mkE [(1, (V.int .u8 x1)), (10, (V.int .u8 x0)), (0, (V.bool (x0 == (2 : Int))))] 33) ?_
        rcases tf (x0 == (2 : Int)) with h9260 | h9260
        · rw [ite_t h9260] at h; refine Rn.t h9260 ?_
          refine Run.skip ?_
          refine Rn.c (mkE [(1, (V.int .u8 x1)), (10, (V.int .u8 x0)), (0, (V.bool (x0 == (2 : Int))))] 33) ?_
          exact w100_j2 h hp
        · rw [ite_f h9260] at h; refine Rn.f h9260 ?_
          refine Rn.g ?_
          refine Ro.t 2 ?_
          refine Ro.d (mkE [(1, (V.int .u8 x1)), (10, (V.int .u8 x0)), (0, (V.bool (x0 == (3 : Int))))] 33) ?_
          rcases tf (x0 == (3 : Int)) with h9261 | h9261
          · rw [ite_t h9261] at h; refine Rn.t h9261 ?_
            refine Run.skip ?_
            refine Rn.c (mkE [(1, (V.int .u8 x1)), (10, (V.int .u8 x0)), (0, (V.bool (x0 == (3 : Int))))] 33) ?_
            exact w100_j2 h hp
          · rw [ite_f h9261] at h; refine Rn.f h9261 ?_
            refine Rn.g ?_
            refine Ro.t 2 ?_
            refine Ro.d (mkE [(1, (V.int .u8 x1)), (10, (V.int .u8 x0)), (0, (V.bool (x0 == (4 : Int))))] 33) ?_
            rcases tf (x0 == (4 : Int)) with h9262 | h9262
            · rw [ite_t h9262] at h; refine Rn.t h9262 ?_
              refine Run.skip ?_
              refine Rn.c (mkE [(1, (V.int .u8 x1)), (10, (V.int .u8 x0)), (0, (V.bool (x0 == (4 : Int))))] 33) ?_
              exact w100_j2 h hp
            · rw [ite_f h9262] at h; refine Rn.f h9262 ?_
              refine Run.rgn ?_
              refine Ro.t 2 ?_
              refine Ro.d (mkE [(1, (V.int .u8 x1)), (10, (V.int .u8 x0)), (0, (V.bool (x0 == (17 : Int))))] 33) ?_
              exact w100_j2 h hp

theorem c100 {x0 : Int} {x1 : Int} {r : (Int × Bool)} (h : F100 x0 x1 = some r) (s : Bool) : Fn T 100 [(V.int .u8 x0), (V.int .u8 x1)] [] (fun v hh => deep s hh deepN v = some (.tup [(EI .u8).e r.1, EB.e r.2])) := by
  refine (w100 h HP.nil).mono ?_
  rintro v hh ⟨rfl, hp⟩
  exact congrArg (Option.map V.tup) (omapc ((EI .u8).hd s hh 37 _ (.inr rfl)) (omapc (EB.hd s hh 37 _ (.inr rfl)) omapn))

/- smithy/smithyref07.op -/
abbrev Q95 (L : List Ob) (r : Bool) : V → Heap → Prop := fun v h => v = EB.e r ∧ HP h (L)
abbrev RR95 (L : List Ob) (r : Bool) : List V → Heap → Prop := fun e h => endR none [4] (Q95 L r) e h

def F95_j1 (x0 : T_Graph) (x1 : T_Ins) (y9276 : Int) : Option Bool :=
  if (((List.length x1.fArgs : Nat) : Int) != y9276) then
    some false
  else
    if (decide (x1.fOp < (1 : Int))) then
      some false
    else
      if (decide (x1.fOp > (18 : Int))) then
        some false
      else
        (idx x1.fArgs (0 : Int)).bind fun y9283 =>
        (idx x0.fVars y9283).bind fun y9285 =>
        (F100 x1.fOp y9285).bind fun y9287 =>
        if y9287.2 then
          (idx x1.fArgs (IntKind.i64.wrap (y9276 - (1 : Int)))).bind fun y9290 =>
          (idx x0.fVars y9290).bind fun y9292 =>
          if (y9292 == y9285) then
            (idx x0.fVars x1.fDst).bind fun y9295 =>
            some (y9295 == y9287.1)
          else
            some false
        else
          some false

theorem w95_j1 {x0 : T_Graph} {x1 : T_Ins} {y9276 : Int} {r : Bool} (h : F95_j1 x0 x1 y9276 = some r) {H : Heap} {L : List Ob} (hp : HP H (L)) :
    Run T i95n17 (mkE [(2, (V.fp (E_Graph.e x0))), (0, (V.fp (E_Ins.e x1))), (1, (i6 y9276))] 66) H (finE none [4] (Q95 L r)) := by
  unfold F95_j1 at h
  refine Run.seq ?_
  refine Rn.g ?_
  refine Ro.t 2 ?_
  refine Ro.p (len_fz (EI .i64) x1.fArgs) ?_
  refine Ro.t 1 ?_
  rcases tf ((ln x1.fArgs) != y9276) with h9280 | h9280
  · rw [ite_t h9280] at h; refine Ro.p (bool_of h9280) ?_
    refine Ro.t 10 ?_
    refine Ro.d (mkE [(2, (V.fp (E_Graph.e x0))), (0, (V.fp (E_Ins.e x1))), (1, (i6 y9276)), (25, (V.bool true))] 40) ?_
    refine Run.condT (by kernel_rfl) ?_
    refine Rn.g ?_
    refine Ro.t 1 ?_
    refine Ro.d (mkE [(4, (V.bool false))] 67) ?_
    refine Run.ret ?_
    have h := Option.some.inj h; subst h
    exact ⟨(V.bool false), (by kernel_rfl), (by kernel_rfl), hp⟩
  · rw [ite_f h9280] at h; refine Ro.p (bool_of h9280) ?_
    refine Ro.t 3 ?_
    rcases tf (decide (x1.fOp < (1 : Int))) with h9281 | h9281
    · rw [ite_t h9281] at h; refine Ro.p (bool_of h9281) ?_
      refine Ro.t 6 ?_
      refine Ro.d (mkE [(2, (V.fp (E_Graph.e x0))), (0, (V.fp (E_Ins.e x1))), (1, (i6 y9276)), (25, (V.bool true))] 40) ?_
      refine Run.condT (by kernel_rfl) ?_
      refine Rn.g ?_
      refine Ro.t 1 ?_
      refine Ro.d (mkE [(4, (V.bool false))] 67) ?_
      refine Run.ret ?_
      have h := Option.some.inj h; subst h
      exact ⟨(V.bool false), (by kernel_rfl), (by kernel_rfl), hp⟩
    · rw [ite_f h9281] at h; refine Ro.p (bool_of h9281) ?_
      refine Ro.t 6 ?_
      refine Ro.d (mkE [(2, (V.fp (E_Graph.e x0))), (0, (V.fp (E_Ins.e x1))), (1, (i6 y9276)), (25, (V.bool (decide (x1.fOp > (18 : Int)))))] 40) ?_
      rcases tf (decide (x1.fOp > (18 : Int))) with h9282 | h9282
      · rw [ite_t h9282] at h; refine Rn.t h9282 ?_
        refine Rn.g ?_
        refine Ro.t 1 ?_
        refine Ro.d (mkE [(4, (V.bool false))] 67) ?_
        refine Run.ret ?_
        have h := Option.some.inj h; subst h
        exact ⟨(V.bool false), (by kernel_rfl), (by kernel_rfl), hp⟩
      · rw [ite_f h9282] at h; refine Rn.f h9282 ?_
        refine Run.skip ?_
        refine Rn.c (mkE [(2, (V.fp (E_Graph.e x0))), (0, (V.fp (E_Ins.e x1))), (1, (i6 y9276))] 66) ?_
        refine Rn.g ?_
        refine Ro.t 4 ?_
        obtain ⟨y9283, h9284, h⟩ := bind_some h
        refine Ro.p (idx_fz (EI .i64) .i64 h9284) ?_
        refine Ro.t 1 ?_
        obtain ⟨y9285, h9286, h⟩ := bind_some h
        refine Ro.p (idx_fz (EI .u8) .i64 h9286) ?_
        refine Ro.t 2 ?_
        refine Ro.d (mkE [(2, (V.fp (E_Graph.e x0))), (0, (V.fp (E_Ins.e x1))), (1, (i6 y9276)), (0, (V.int .u8 y9285))] 65) ?_
        refine Rn.g ?_
        refine Ro.t 3 ?_
        obtain ⟨y9287, h9288, h⟩ := bind_some h
        refine RunO.c1 (by kernel_rfl) (by kernel_rfl) (c100 h9288 _) ?_
        refine Ro.t 5 ?_
        refine Ro.d (mkE [(2, (V.fp (E_Graph.e x0))), (0, (V.fp (E_Ins.e x1))), (1, (i6 y9276)), (0, (V.int .u8 y9285)), (0, (V.int .u8 y9287.1)), (0, (V.bool y9287.2))] 63) ?_
        refine Rn.g ?_
        rcases tf y9287.2 with h9289 | h9289
        · rw [ite_t h9289] at h; refine Ro.p (bool_of h9289) ?_
          refine Ro.t 7 ?_
          obtain ⟨y9290, h9291, h⟩ := bind_some h
          refine Ro.p (idx_fz (EI .i64) .i64 h9291) ?_
          refine Ro.t 1 ?_
          obtain ⟨y9292, h9293, h⟩ := bind_some h
          refine Ro.p (idx_fz (EI .u8) .i64 h9293) ?_
          refine Ro.t 2 ?_
          rcases tf (y9292 == y9285) with h9294 | h9294
          · rw [ite_t h9294] at h; refine Ro.p (bool_of h9294) ?_
            refine Ro.t 6 ?_
            obtain ⟨y9295, h9296, h⟩ := bind_some h
            refine Ro.p (idx_fz (EI .u8) .i64 h9296) ?_
            refine Ro.t 5 ?_
            refine Ro.d (mkE [(4, (V.bool (y9295 == y9287.1)))] 67) ?_
            refine Run.ret ?_
            have h := Option.some.inj h; subst h
            exact ⟨(V.bool (y9295 == y9287.1)), (by kernel_rfl), (by kernel_rfl), hp⟩
          · rw [ite_f h9294] at h; refine Ro.p (bool_of h9294) ?_
            refine Ro.t 12 ?_
            refine Ro.d (mkE [(4, (V.bool false))] 67) ?_
            refine Run.ret ?_
            have h := Option.some.inj h; subst h
            exact ⟨(V.bool false), (by kernel_rfl), (by kernel_rfl), hp⟩
        · rw [ite_f h9289] at h; refine Ro.p (bool_of h9289) ?_
          refine Ro.t 25 ?_
          refine Ro.d (mkE [(4, (V.bool false))] 67) ?_
          refine Run.ret ?_
          have h := Option.some.inj h; subst h
          exact ⟨(V.bool false), (by kernel_rfl), (by kernel_rfl), hp⟩

def F95 (x0 : T_Graph) (x1 : T_Ins) : Option Bool :=
  if (x1.fOp == (17 : Int)) then
    F95_j1 x0 x1 ((1 : Int))
  else
    if (x1.fOp == (18 : Int)) then
      F95_j1 x0 x1 ((1 : Int))
    else
      F95_j1 x0 x1 ((2 : Int))

theorem w95 {x0 : T_Graph} {x1 : T_Ins} {r : Bool} (h : F95 x0 x1 = some r) {H : Heap} {L : List Ob} (hp : HP H (L)) : Fn T 95 [(E_Graph.e x0), (E_Ins.e x1)] H (Q95 L r) := by
  refine Fn.enterE t95 (e0 := (mkE [(0, (E_Graph.e x0)), (0, (E_Ins.e x1))] 70)) (by kernel_rfl) ?_
  show Run T (.clr [] i95n20) _ _ (finE none [4] (Q95 L r))
  refine Rn.k (mkE [(0, (E_Graph.e x0)), (0, (E_Ins.e x1))] 70) ?_
  unfold F95 at h
  refine Rn.g ?_
  refine Ro.t 3 ?_
  refine Ro.d (mkE [(2, (V.fp (E_Graph.e x0))), (0, (V.fp (E_Ins.e x1)))] 68) ?_
  refine Rn.g ?_
  refine Ro.t 1 ?_
  refine Ro.d (mkE [(2, (V.fp (E_Graph.e x0))), (0, (V.fp (E_Ins.e x1))), (1, (i6 (2 : Int)))] 66) ?_
  refine Run.seq ?_
  refine Rn.g ?_
  refine Ro.t 2 ?_
  rcases tf (x1.fOp == (17 : Int)) with h9297 | h9297
  · rw [ite_t h9297] at h; refine Ro.p (bool_of h9297) ?_
    refine Ro.t 5 ?_
    refine Ro.d (mkE [(2, (V.fp (E_Graph.e x0))), (0, (V.fp (E_Ins.e x1))), (1, (i6 (2 : Int))), (10, (V.bool true))] 55) ?_
    refine Run.condT (by kernel_rfl) ?_
    refine Run.rgn ?_
    refine Ro.t 1 ?_
    refine Ro.d (mkE [(2, (V.fp (E_Graph.e x0))), (0, (V.fp (E_Ins.e x1))), (1, (i6 (1 : Int)))] 66) ?_
    exact w95_j1 h hp
  · rw [ite_f h9297] at h; refine Ro.p (bool_of h9297) ?_
    refine Ro.t 5 ?_
    refine Ro.d (mkE [(2, (V.fp (E_Graph.e x0))), (0, (V.fp (E_Ins.e x1))), (1, (i6 (2 : Int))), (10, (V.bool (x1.fOp == (18 : Int))))] 55) ?_
    rcases tf (x1.fOp == (18 : Int)) with h9298 | h9298
    · rw [ite_t h9298] at h; refine Rn.t h9298 ?_
      refine Run.rgn ?_
      refine Ro.t 1 ?_
      refine Ro.d (mkE [(2, (V.fp (E_Graph.e x0))), (0, (V.fp (E_Ins.e x1))), (1, (i6 (1 : Int)))] 66) ?_
      exact w95_j1 h hp
    · rw [ite_f h9298] at h; refine Rn.f h9298 ?_
      refine Run.skip ?_
      refine Rn.c (mkE [(2, (V.fp (E_Graph.e x0))), (0, (V.fp (E_Ins.e x1))), (1, (i6 (2 : Int)))] 66) ?_
      exact w95_j1 h hp

theorem c95 {x0 : T_Graph} {x1 : T_Ins} {r : Bool} (h : F95 x0 x1 = some r) (s : Bool) : Fn T 95 [(E_Graph.e x0), (E_Ins.e x1)] [] (fun v hh => deep s hh deepN v = some (EB.e r)) := by
  refine (w95 h HP.nil).mono ?_
  rintro v hh ⟨rfl, hp⟩
  exact EB.hd s hh 38 _ (.inr rfl)

/- smithy/smithyref01.Turns -/
abbrev Q96 (L : List Ob) (r : Bool) : V → Heap → Prop := fun v h => v = EB.e r ∧ HP h (L)
abbrev RR96 (L : List Ob) (r : Bool) : List V → Heap → Prop := fun e h => endR none [4] (Q96 L r) e h

def F96 (x0 : Int) (x1 : Int) : Option Bool :=
  if (decide (x0 ≥ (2 : Int))) then
    if (decide (x0 ≤ (5 : Int))) then
      if (decide (x1 ≥ (2 : Int))) then
        some (decide (x1 ≤ (5 : Int)))
      else
        some false
    else
      some false
  else
    some false

theorem w96 {x0 : Int} {x1 : Int} {r : Bool} (h : F96 x0 x1 = some r) {H : Heap} {L : List Ob} (hp : HP H (L)) : Fn T 96 [(V.int .u8 x0), (V.int .u8 x1)] H (Q96 L r) := by
  refine Fn.enterE t96 (e0 := (mkE [(0, (V.int .u8 x0)), (0, (V.int .u8 x1))] 17)) (by kernel_rfl) ?_
  show Run T (.clr [] i96n3) _ _ (finE none [4] (Q96 L r))
  refine Rn.k (mkE [(0, (V.int .u8 x0)), (0, (V.int .u8 x1))] 17) ?_
  unfold F96 at h
  refine Rn.g ?_
  refine Ro.t 1 ?_
  refine Ro.d (mkE [(0, (V.int .u8 x0)), (0, (V.int .u8 x1))] 17) ?_
  refine Rn.g ?_
  refine Ro.t 1 ?_
  rcases tf (decide (x0 ≥ (2 : Int))) with h9312 | h9312
  · rw [ite_t h9312] at h; refine Ro.p (bool_of h9312) ?_
    refine Ro.t 2 ?_
    rcases tf (decide (x0 ≤ (5 : Int))) with h9313 | h9313
    · rw [ite_t h9313] at h; refine Ro.p (bool_of h9313) ?_
      refine Ro.t 3 ?_
      rcases tf (decide (x1 ≥ (2 : Int))) with h9314 | h9314
      · rw [ite_t h9314] at h; refine Ro.p (bool_of h9314) ?_
        refine Ro.t 6 ?_
        refine Ro.d (mkE [(4, (V.bool (decide (x1 ≤ (5 : Int)))))] 14) ?_
        refine Run.ret ?_
        have h := Option.some.inj h; subst h
        exact ⟨(V.bool (decide (x1 ≤ (5 : Int)))), (by kernel_rfl), (by kernel_rfl), hp⟩
      · rw [ite_f h9314] at h; refine Ro.p (bool_of h9314) ?_
        refine Ro.t 6 ?_
        refine Ro.d (mkE [(4, (V.bool false))] 14) ?_
        refine Run.ret ?_
        have h := Option.some.inj h; subst h
        exact ⟨(V.bool false), (by kernel_rfl), (by kernel_rfl), hp⟩
    · rw [ite_f h9313] at h; refine Ro.p (bool_of h9313) ?_
      refine Ro.t 10 ?_
      refine Ro.d (mkE [(4, (V.bool false))] 14) ?_
      refine Run.ret ?_
      have h := Option.some.inj h; subst h
      exact ⟨(V.bool false), (by kernel_rfl), (by kernel_rfl), hp⟩
  · rw [ite_f h9312] at h; refine Ro.p (bool_of h9312) ?_
    refine Ro.t 13 ?_
    refine Ro.d (mkE [(4, (V.bool false))] 14) ?_
    refine Run.ret ?_
    have h := Option.some.inj h; subst h
    exact ⟨(V.bool false), (by kernel_rfl), (by kernel_rfl), hp⟩

theorem c96 {x0 : Int} {x1 : Int} {r : Bool} (h : F96 x0 x1 = some r) (s : Bool) : Fn T 96 [(V.int .u8 x0), (V.int .u8 x1)] [] (fun v hh => deep s hh deepN v = some (EB.e r)) := by
  refine (w96 h HP.nil).mono ?_
  rintro v hh ⟨rfl, hp⟩
  exact EB.hd s hh 38 _ (.inr rfl)

/- smithy/smithyref07.alone -/
abbrev Q84 (L : List Ob) (r : Bool) : V → Heap → Prop := fun v h => v = EB.e r ∧ HP h (L)
abbrev RR84 (L : List Ob) (r : Bool) : List V → Heap → Prop := fun e h => endR none [4] (Q84 L r) e h

abbrev I84_1 (x0 : T_Graph) (x1 : T_Ins) (L : List Ob) : (Int) → List V → Heap → Prop := fun s e h => e = (mkE [(2, (V.fp (E_Graph.e x0))), (0, (V.fp (E_Ins.e x1))), (2, (i6 s))] 225) ∧ HP h (L)

abbrev J84_1 (x0 : T_Graph) (x1 : T_Ins) (L : List Ob) : Unit → Nat → List V → Heap → Prop := fun a i e h => i = 1 ∧ clrEnv [2, 3, 4, 6, 65, 66, 68, 69, 70, 71, 72, 73, 74, 75, 76, 77, 78, 79, 80, 81, 82, 83, 84, 85, 86, 87, 88, 89, 90] e = (mkE [] 232) ∧ HP h (L)

def F84_1_b (x0 : T_Graph) (x1 : T_Ins) (y9569 : Int) : Option (Stp (Int) Bool Unit) :=
  if (decide (y9569 < ((List.length x1.fArgs : Nat) : Int))) then
    (idx x1.fArgs y9569).bind fun y9595 =>
    (idx x0.fVars y9595).bind fun y9597 =>
    (idx x0.fVars x1.fDst).bind fun y9599 =>
    if (y9597 != y9599) then
      some (.ret false)
    else
      some (.next ((IntKind.i64.wrap (y9569 + (1 : Int)))))
  else
    some (.go ())

theorem w84_1_b {x0 : T_Graph} {x1 : T_Ins} {y9569 : Int} {t : (Stp (Int) Bool Unit)} (h : F84_1_b x0 x1 y9569 = some t) {H : Heap} {L : List Ob} (hp : HP H (L)) :
    Run T i84n26 (mkE [(2, (V.fp (E_Graph.e x0))), (0, (V.fp (E_Ins.e x1))), (2, (i6 y9569))] 225) H (stp [4, 68, 69, 70, 71, 72, 73, 74, 75, 76, 77, 78, 79, 80, 81, 82, 83, 84, 85, 86, 87, 88, 89, 90] (I84_1 x0 x1 L) (RR84 L) (J84_1 x0 x1 L) t) := by
  unfold F84_1_b at h
  refine Run.seq ?_
  refine Rn.g ?_
  refine Ro.t 3 ?_
  refine Ro.p (len_fz (EI .i64) x1.fArgs) ?_
  refine Ro.t 1 ?_
  refine Ro.d (mkE [(2, (V.fp (E_Graph.e x0))), (0, (V.fp (E_Ins.e x1))), (2, (i6 y9569)), (65, (V.bool (decide (y9569 < (ln x1.fArgs)))))] 159) ?_
  rcases tf (decide (y9569 < (ln x1.fArgs))) with h9587 | h9587
  · rw [ite_t h9587] at h; refine Rn.t h9587 ?_
    refine Run.skip ?_
    refine Rn.c (mkE [(2, (V.fp (E_Graph.e x0))), (0, (V.fp (E_Ins.e x1))), (2, (i6 y9569))] 225) ?_
    refine Run.seq ?_
    refine Run.block ?_
    refine Rn.g ?_
    refine Ro.t 5 ?_
    obtain ⟨y9595, h9596, h⟩ := bind_some h
    refine Ro.p (idx_fz (EI .i64) .i64 h9596) ?_
    refine Ro.t 1 ?_
    obtain ⟨y9597, h9598, h⟩ := bind_some h
    refine Ro.p (idx_fz (EI .u8) .i64 h9598) ?_
    refine Ro.t 5 ?_
    obtain ⟨y9599, h9600, h⟩ := bind_some h
    refine Ro.p (idx_fz (EI .u8) .i64 h9600) ?_
    refine Ro.t 2 ?_
    refine Ro.d (mkE [(2, (V.fp (E_Graph.e x0))), (0, (V.fp (E_Ins.e x1))), (2, (i6 y9569)), (83, (V.bool (y9597 != y9599)))] 141) ?_
    rcases tf (y9597 != y9599) with h9601 | h9601
    · rw [ite_t h9601] at h; refine Rn.t h9601 ?_
      refine Rn.g ?_
      refine Ro.t 1 ?_
      refine Ro.d (mkE [(4, (V.bool false))] 227) ?_
      refine Run.ret ?_
      have h := Option.some.inj h; subst h
      show RR84 L _ _ _
      exact ⟨(V.bool false), (by kernel_rfl), (by kernel_rfl), hp⟩
    · rw [ite_f h9601] at h; refine Rn.f h9601 ?_
      refine Run.skip ?_
      refine Run.clrE (ts := [4, 75, 76, 77, 78, 79, 80, 81, 82, 83, 84, 85, 86, 87, 88, 89, 90]) (b := (.rgn i84r24)) (Q := (stp [4, 68, 69, 70, 71, 72, 73, 74, 75, 76, 77, 78, 79, 80, 81, 82, 83, 84, 85, 86, 87, 88, 89, 90] (I84_1 x0 x1 L) (RR84 L) (J84_1 x0 x1 L) t)) (e' := (mkE [(2, (V.fp (E_Graph.e x0))), (0, (V.fp (E_Ins.e x1))), (2, (i6 y9569))] 225)) (by kernel_rfl) ?_
      refine Run.rgn ?_
      refine Ro.t 3 ?_
      refine RunO.nil ?_
      have h := Option.some.inj h; subst h
      show I84_1 x0 x1 L _ _ _
      exact ⟨(by kernel_rfl), hp⟩
  · rw [ite_f h9587] at h; refine Rn.f h9587 ?_
    refine Run.exit ?_
    have h := Option.some.inj h; subst h
    show J84_1 x0 x1 L () _ _ _
    exact ⟨rfl, (by kernel_rfl), hp⟩

def F84_j2 (x0 : T_Graph) (x1 : T_Ins) : Option Bool :=
  if (x1.fKind == (1 : Int)) then
    (iter (fun s : (Int) => F84_1_b x0 x1 s) FUEL ((0 : Int))).bind fun o => match o with
    | .ret r => some r
    | .go () =>
      some true
  else
    if (x1.fKind == (2 : Int)) then
      (idx x0.fVars x1.fDst).bind fun y9604 =>
      (F94 y9604 x1.fBits).bind fun y9606 =>
      some y9606
    else
      if (x1.fKind == (3 : Int)) then
        if (((List.length x1.fArgs : Nat) : Int) == (1 : Int)) then
          (idx x1.fArgs (0 : Int)).bind fun y9610 =>
          (idx x0.fVars y9610).bind fun y9612 =>
          (idx x0.fVars x1.fDst).bind fun y9614 =>
          some (y9612 == y9614)
        else
          some false
      else
        if (x1.fKind == (4 : Int)) then
          (F95 x0 x1).bind fun y9617 =>
          some y9617
        else
          if (x1.fKind == (5 : Int)) then
            if (((List.length x1.fArgs : Nat) : Int) == (1 : Int)) then
              (idx x0.fVars x1.fDst).bind fun y9621 =>
              (idx x1.fArgs (0 : Int)).bind fun y9623 =>
              (idx x0.fVars y9623).bind fun y9625 =>
              (F96 y9621 y9625).bind fun y9627 =>
              some y9627
            else
              some false
          else
            if (x1.fKind == (6 : Int)) then
              if (((List.length x1.fArgs : Nat) : Int) == (1 : Int)) then
                (idx x1.fArgs (0 : Int)).bind fun y9631 =>
                (idx x0.fVars y9631).bind fun y9633 =>
                if (y9633 == (4 : Int)) then
                  (idx x0.fVars x1.fDst).bind fun y9636 =>
                  (idx x0.fArrays x1.fRef).bind fun y9638 =>
                  some (y9636 == y9638.fType)
                else
                  some false
              else
                some false
            else
              if (x1.fKind == (7 : Int)) then
                if (((List.length x1.fArgs : Nat) : Int) == (2 : Int)) then
                  (idx x1.fArgs (0 : Int)).bind fun y9642 =>
                  (idx x0.fVars y9642).bind fun y9644 =>
                  if (y9644 == (4 : Int)) then
                    (idx x1.fArgs (1 : Int)).bind fun y9647 =>
                    (idx x0.fVars y9647).bind fun y9649 =>
                    (idx x0.fArrays x1.fRef).bind fun y9651 =>
                    some (y9649 == y9651.fType)
                  else
                    some false
                else
                  some false
              else
                if (x1.fKind == (9 : Int)) then
                  some (decide (x1.fRef ≥ (0 : Int)))
                else
                  if (x1.fKind == (10 : Int)) then
                    some (((List.length x1.fArgs : Nat) : Int) == (1 : Int))
                  else
                    some true

theorem w84_j2 {x0 : T_Graph} {x1 : T_Ins} {r : Bool} (h : F84_j2 x0 x1 = some r) {H : Heap} {L : List Ob} (hp : HP H (L)) :
    Run T i84n79 (mkE [(2, (V.fp (E_Graph.e x0))), (0, (V.fp (E_Ins.e x1)))] 228) H (finE none [4] (Q84 L r)) := by
  unfold F84_j2 at h
  refine Run.seq ?_
  refine Rn.g ?_
  refine Ro.t 2 ?_
  refine Ro.d (mkE [(2, (V.fp (E_Graph.e x0))), (0, (V.fp (E_Ins.e x1))), (61, (V.int .u8 x1.fKind))] 166) ?_
  refine Run.block ?_
  refine Rn.g ?_
  refine Ro.t 2 ?_
  refine Ro.d (mkE [(2, (V.fp (E_Graph.e x0))), (0, (V.fp (E_Ins.e x1))), (61, (V.int .u8 x1.fKind)), (0, (V.bool (x1.fKind == (1 : Int))))] 165) ?_
  rcases tf (x1.fKind == (1 : Int)) with h9552 | h9552
  · rw [ite_t h9552] at h; refine Rn.t h9552 ?_
    refine Run.seq ?_
    refine Rn.g ?_
    refine Ro.t 1 ?_
    refine Ro.d (mkE [(2, (V.fp (E_Graph.e x0))), (0, (V.fp (E_Ins.e x1))), (2, (i6 (0 : Int)))] 225) ?_
    refine Run.block ?_
    obtain ⟨o, h9602, h⟩ := bind_some h
    refine (Run.iter (I := I84_1 x0 x1 L) (RR := RR84 L) (J := J84_1 x0 x1 L) (fun s e h' t hI hf => ?_) FUEL h9602 (by exact ⟨(by kernel_rfl), hp⟩)).mono ?_
    · obtain ⟨rfl, hp⟩ := hI; exact w84_1_b hf hp
    · rintro X e' H hq
      cases o with
      | ret r => cases X <;> first | exact hq.elim | (cases h; exact hq)
      | go a => 
        cases X with | nrm => exact hq.elim | ret => exact hq.elim | ext i => ?_
        obtain ⟨rfl, he, hp⟩ := hq
        dsimp only at h
        refine Run.clrE (ts := [2, 3, 4, 6, 65, 66, 68, 69, 70, 71, 72, 73, 74, 75, 76, 77, 78, 79, 80, 81, 82, 83, 84, 85, 86, 87, 88, 89, 90]) (b := i84n31) (Q := (blk 0 (thn T (.clr [2, 3, 4, 6, 64, 65, 66, 67, 68, 69, 70, 71, 72, 73, 74, 75, 76, 77, 78, 79, 80, 81, 82, 83, 84, 85, 86, 87, 88, 89, 90, 91, 92, 93, 94, 95, 96, 97, 98, 99, 100, 101, 102, 103, 104, 105, 106, 107, 108, 109, 110, 111, 112, 113, 114, 115, 116, 117, 118, 119, 120, 121, 122, 123, 124, 125, 126, 127, 128, 129, 130, 131, 132, 133, 134, 135, 136, 137, 138, 139, 140, 141, 142, 143, 144, 145, 146, 147, 148, 149, 150, 151, 152, 153, 154, 155, 156, 157, 158, 159, 160, 161, 162, 163, 164, 165, 166, 167, 168, 169, 170, 171, 172, 173, 174, 175, 176, 177, 178, 179, 180, 181, 182, 183, 184, 185, 186, 187, 188, 189, 190, 191, 192, 193, 194, 195, 196, 197, 198, 199, 200, 201, 202, 203, 204, 205, 206, 207, 208, 209, 210, 211, 212, 213, 214, 215, 216, 217, 218, 219, 220, 221, 222, 223, 224, 225, 226, 227, 228, 229, 230, 231] i84n78) (finE none [4] (Q84 L r))))) he ?_
        refine Rn.g ?_
        refine Ro.t 1 ?_
        refine Ro.d (mkE [(4, (V.bool true))] 227) ?_
        refine Run.ret ?_
        have h := Option.some.inj h; subst h
        exact ⟨(V.bool true), (by kernel_rfl), (by kernel_rfl), hp⟩
  · rw [ite_f h9552] at h; refine Rn.f h9552 ?_
    refine Rn.g ?_
    refine Ro.t 2 ?_
    refine Ro.d (mkE [(2, (V.fp (E_Graph.e x0))), (0, (V.fp (E_Ins.e x1))), (61, (V.int .u8 x1.fKind)), (25, (V.bool (x1.fKind == (2 : Int))))] 140) ?_
    rcases tf (x1.fKind == (2 : Int)) with h9603 | h9603
    · rw [ite_t h9603] at h; refine Rn.t h9603 ?_
      refine Rn.g ?_
      refine Ro.t 4 ?_
      obtain ⟨y9604, h9605, h⟩ := bind_some h
      refine Ro.p (idx_fz (EI .u8) .i64 h9605) ?_
      refine Ro.t 3 ?_
      obtain ⟨y9606, h9607, h⟩ := bind_some h
      refine RunO.c1 (by kernel_rfl) (by kernel_rfl) (c94 h9607 _) ?_
      refine Ro.t 1 ?_
      refine Ro.d (mkE [(4, (V.bool y9606))] 227) ?_
      refine Run.ret ?_
      have h := Option.some.inj h; subst h
      exact ⟨(V.bool y9606), (by kernel_rfl), (by kernel_rfl), hp⟩
    · rw [ite_f h9603] at h; refine Rn.f h9603 ?_
      refine Rn.g ?_
      refine Ro.t 2 ?_
      refine Ro.d (mkE [(2, (V.fp (E_Graph.e x0))), (0, (V.fp (E_Ins.e x1))), (61, (V.int .u8 x1.fKind)), (36, (V.bool (x1.fKind == (3 : Int))))] 129) ?_
      rcases tf (x1.fKind == (3 : Int)) with h9608 | h9608
      · rw [ite_t h9608] at h; refine Rn.t h9608 ?_
        refine Rn.g ?_
        refine Ro.t 2 ?_
        refine Ro.p (len_fz (EI .i64) x1.fArgs) ?_
        rcases tf ((ln x1.fArgs) == (1 : Int)) with h9609 | h9609
        · rw [ite_t h9609] at h; refine Ro.p (bool_of h9609) ?_
          refine Ro.t 5 ?_
          obtain ⟨y9610, h9611, h⟩ := bind_some h
          refine Ro.p (idx_fz (EI .i64) .i64 h9611) ?_
          refine Ro.t 1 ?_
          obtain ⟨y9612, h9613, h⟩ := bind_some h
          refine Ro.p (idx_fz (EI .u8) .i64 h9613) ?_
          refine Ro.t 5 ?_
          obtain ⟨y9614, h9615, h⟩ := bind_some h
          refine Ro.p (idx_fz (EI .u8) .i64 h9615) ?_
          refine Ro.t 4 ?_
          refine Ro.d (mkE [(4, (V.bool (y9612 == y9614)))] 227) ?_
          refine Run.ret ?_
          have h := Option.some.inj h; subst h
          exact ⟨(V.bool (y9612 == y9614)), (by kernel_rfl), (by kernel_rfl), hp⟩
        · rw [ite_f h9609] at h; refine Ro.p (bool_of h9609) ?_
          refine Ro.t 18 ?_
          refine Ro.d (mkE [(4, (V.bool false))] 227) ?_
          refine Run.ret ?_
          have h := Option.some.inj h; subst h
          exact ⟨(V.bool false), (by kernel_rfl), (by kernel_rfl), hp⟩
      · rw [ite_f h9608] at h; refine Rn.f h9608 ?_
        refine Rn.g ?_
        refine Ro.t 2 ?_
        refine Ro.d (mkE [(2, (V.fp (E_Graph.e x0))), (0, (V.fp (E_Ins.e x1))), (61, (V.int .u8 x1.fKind)), (59, (V.bool (x1.fKind == (4 : Int))))] 106) ?_
        rcases tf (x1.fKind == (4 : Int)) with h9616 | h9616
        · rw [ite_t h9616] at h; refine Rn.t h9616 ?_
          refine Rn.g ?_
          refine Ro.t 2 ?_
          obtain ⟨y9617, h9618, h⟩ := bind_some h
          refine RunO.c1 (by kernel_rfl) (by kernel_rfl) (c95 h9618 _) ?_
          refine Ro.t 1 ?_
          refine Ro.d (mkE [(4, (V.bool y9617))] 227) ?_
          refine Run.ret ?_
          have h := Option.some.inj h; subst h
          exact ⟨(V.bool y9617), (by kernel_rfl), (by kernel_rfl), hp⟩
        · rw [ite_f h9616] at h; refine Rn.f h9616 ?_
          refine Rn.g ?_
          refine Ro.t 2 ?_
          refine Ro.d (mkE [(2, (V.fp (E_Graph.e x0))), (0, (V.fp (E_Ins.e x1))), (61, (V.int .u8 x1.fKind)), (64, (V.bool (x1.fKind == (5 : Int))))] 101) ?_
          rcases tf (x1.fKind == (5 : Int)) with h9619 | h9619
          · rw [ite_t h9619] at h; refine Rn.t h9619 ?_
            refine Rn.g ?_
            refine Ro.t 2 ?_
            refine Ro.p (len_fz (EI .i64) x1.fArgs) ?_
            rcases tf ((ln x1.fArgs) == (1 : Int)) with h9620 | h9620
            · rw [ite_t h9620] at h; refine Ro.p (bool_of h9620) ?_
              refine Ro.t 5 ?_
              obtain ⟨y9621, h9622, h⟩ := bind_some h
              refine Ro.p (idx_fz (EI .u8) .i64 h9622) ?_
              refine Ro.t 5 ?_
              obtain ⟨y9623, h9624, h⟩ := bind_some h
              refine Ro.p (idx_fz (EI .i64) .i64 h9624) ?_
              refine Ro.t 1 ?_
              obtain ⟨y9625, h9626, h⟩ := bind_some h
              refine Ro.p (idx_fz (EI .u8) .i64 h9626) ?_
              refine Ro.t 1 ?_
              obtain ⟨y9627, h9628, h⟩ := bind_some h
              refine RunO.c1 (by kernel_rfl) (by kernel_rfl) (c96 h9628 _) ?_
              refine Ro.t 2 ?_
              refine Ro.d (mkE [(4, (V.bool y9627))] 227) ?_
              refine Run.ret ?_
              have h := Option.some.inj h; subst h
              exact ⟨(V.bool y9627), (by kernel_rfl), (by kernel_rfl), hp⟩
            · rw [ite_f h9620] at h; refine Ro.p (bool_of h9620) ?_
              refine Ro.t 18 ?_
              refine Ro.d (mkE [(4, (V.bool false))] 227) ?_
              refine Run.ret ?_
              have h := Option.some.inj h; subst h
              exact ⟨(V.bool false), (by kernel_rfl), (by kernel_rfl), hp⟩
          · rw [ite_f h9619] at h; refine Rn.f h9619 ?_
            refine Rn.g ?_
            refine Ro.t 2 ?_
            refine Ro.d (mkE [(2, (V.fp (E_Graph.e x0))), (0, (V.fp (E_Ins.e x1))), (61, (V.int .u8 x1.fKind)), (87, (V.bool (x1.fKind == (6 : Int))))] 78) ?_
            rcases tf (x1.fKind == (6 : Int)) with h9629 | h9629
            · rw [ite_t h9629] at h; refine Rn.t h9629 ?_
              refine Rn.g ?_
              refine Ro.t 2 ?_
              refine Ro.p (len_fz (EI .i64) x1.fArgs) ?_
              rcases tf ((ln x1.fArgs) == (1 : Int)) with h9630 | h9630
              · rw [ite_t h9630] at h; refine Ro.p (bool_of h9630) ?_
                refine Ro.t 5 ?_
                obtain ⟨y9631, h9632, h⟩ := bind_some h
                refine Ro.p (idx_fz (EI .i64) .i64 h9632) ?_
                refine Ro.t 1 ?_
                obtain ⟨y9633, h9634, h⟩ := bind_some h
                refine Ro.p (idx_fz (EI .u8) .i64 h9634) ?_
                refine Ro.t 1 ?_
                rcases tf (y9633 == (4 : Int)) with h9635 | h9635
                · rw [ite_t h9635] at h; refine Ro.p (bool_of h9635) ?_
                  refine Ro.t 6 ?_
                  obtain ⟨y9636, h9637, h⟩ := bind_some h
                  refine Ro.p (idx_fz (EI .u8) .i64 h9637) ?_
                  refine Ro.t 5 ?_
                  obtain ⟨y9638, h9639, h⟩ := bind_some h
                  refine Ro.p (idx_fz E_Array .i64 h9639) ?_
                  refine Ro.t 5 ?_
                  refine Ro.d (mkE [(4, (V.bool (y9636 == y9638.fType)))] 227) ?_
                  refine Run.ret ?_
                  have h := Option.some.inj h; subst h
                  exact ⟨(V.bool (y9636 == y9638.fType)), (by kernel_rfl), (by kernel_rfl), hp⟩
                · rw [ite_f h9635] at h; refine Ro.p (bool_of h9635) ?_
                  refine Ro.t 18 ?_
                  refine Ro.d (mkE [(4, (V.bool false))] 227) ?_
                  refine Run.ret ?_
                  have h := Option.some.inj h; subst h
                  exact ⟨(V.bool false), (by kernel_rfl), (by kernel_rfl), hp⟩
              · rw [ite_f h9630] at h; refine Ro.p (bool_of h9630) ?_
                refine Ro.t 28 ?_
                refine Ro.d (mkE [(4, (V.bool false))] 227) ?_
                refine Run.ret ?_
                have h := Option.some.inj h; subst h
                exact ⟨(V.bool false), (by kernel_rfl), (by kernel_rfl), hp⟩
            · rw [ite_f h9629] at h; refine Rn.f h9629 ?_
              refine Rn.g ?_
              refine Ro.t 2 ?_
              refine Ro.d (mkE [(2, (V.fp (E_Graph.e x0))), (0, (V.fp (E_Ins.e x1))), (61, (V.int .u8 x1.fKind)), (120, (V.bool (x1.fKind == (7 : Int))))] 45) ?_
              rcases tf (x1.fKind == (7 : Int)) with h9640 | h9640
              · rw [ite_t h9640] at h; refine Rn.t h9640 ?_
                refine Rn.g ?_
                refine Ro.t 2 ?_
                refine Ro.p (len_fz (EI .i64) x1.fArgs) ?_
                rcases tf ((ln x1.fArgs) == (2 : Int)) with h9641 | h9641
                · rw [ite_t h9641] at h; refine Ro.p (bool_of h9641) ?_
                  refine Ro.t 5 ?_
                  obtain ⟨y9642, h9643, h⟩ := bind_some h
                  refine Ro.p (idx_fz (EI .i64) .i64 h9643) ?_
                  refine Ro.t 1 ?_
                  obtain ⟨y9644, h9645, h⟩ := bind_some h
                  refine Ro.p (idx_fz (EI .u8) .i64 h9645) ?_
                  refine Ro.t 1 ?_
                  rcases tf (y9644 == (4 : Int)) with h9646 | h9646
                  · rw [ite_t h9646] at h; refine Ro.p (bool_of h9646) ?_
                    refine Ro.t 6 ?_
                    obtain ⟨y9647, h9648, h⟩ := bind_some h
                    refine Ro.p (idx_fz (EI .i64) .i64 h9648) ?_
                    refine Ro.t 1 ?_
                    obtain ⟨y9649, h9650, h⟩ := bind_some h
                    refine Ro.p (idx_fz (EI .u8) .i64 h9650) ?_
                    refine Ro.t 5 ?_
                    obtain ⟨y9651, h9652, h⟩ := bind_some h
                    refine Ro.p (idx_fz E_Array .i64 h9652) ?_
                    refine Ro.t 5 ?_
                    refine Ro.d (mkE [(4, (V.bool (y9649 == y9651.fType)))] 227) ?_
                    refine Run.ret ?_
                    have h := Option.some.inj h; subst h
                    exact ⟨(V.bool (y9649 == y9651.fType)), (by kernel_rfl), (by kernel_rfl), hp⟩
                  · rw [ite_f h9646] at h; refine Ro.p (bool_of h9646) ?_
                    refine Ro.t 20 ?_
                    refine Ro.d (mkE [(4, (V.bool false))] 227) ?_
                    refine Run.ret ?_
                    have h := Option.some.inj h; subst h
                    exact ⟨(V.bool false), (by kernel_rfl), (by kernel_rfl), hp⟩
                · rw [ite_f h9641] at h; refine Ro.p (bool_of h9641) ?_
                  refine Ro.t 30 ?_
                  refine Ro.d (mkE [(4, (V.bool false))] 227) ?_
                  refine Run.ret ?_
                  have h := Option.some.inj h; subst h
                  exact ⟨(V.bool false), (by kernel_rfl), (by kernel_rfl), hp⟩
              · rw [ite_f h9640] at h; refine Rn.f h9640 ?_
                refine Rn.g ?_
                refine Ro.t 2 ?_
                refine Ro.d (mkE [(3, (V.fp (E_Ins.e x1))), (61, (V.int .u8 x1.fKind)), (155, (V.bool (x1.fKind == (9 : Int))))] 10) ?_
                rcases tf (x1.fKind == (9 : Int)) with h9653 | h9653
                · rw [ite_t h9653] at h; refine Rn.t h9653 ?_
                  refine Rn.g ?_
                  refine Ro.t 4 ?_
                  refine Ro.d (mkE [(4, (V.bool (decide (x1.fRef ≥ (0 : Int)))))] 227) ?_
                  refine Run.ret ?_
                  have h := Option.some.inj h; subst h
                  exact ⟨(V.bool (decide (x1.fRef ≥ (0 : Int)))), (by kernel_rfl), (by kernel_rfl), hp⟩
                · rw [ite_f h9653] at h; refine Rn.f h9653 ?_
                  refine Rn.g ?_
                  refine Ro.t 2 ?_
                  refine Ro.d (mkE [(3, (V.fp (E_Ins.e x1))), (222, (V.bool (x1.fKind == (10 : Int))))] 5) ?_
                  rcases tf (x1.fKind == (10 : Int)) with h9654 | h9654
                  · rw [ite_t h9654] at h; refine Rn.t h9654 ?_
                    refine Rn.g ?_
                    refine Ro.t 2 ?_
                    refine Ro.p (len_fz (EI .i64) x1.fArgs) ?_
                    refine Ro.t 2 ?_
                    refine Ro.d (mkE [(4, (V.bool ((ln x1.fArgs) == (1 : Int))))] 227) ?_
                    refine Run.ret ?_
                    have h := Option.some.inj h; subst h
                    exact ⟨(V.bool ((ln x1.fArgs) == (1 : Int))), (by kernel_rfl), (by kernel_rfl), hp⟩
                  · rw [ite_f h9654] at h; refine Rn.f h9654 ?_
                    refine Run.skip ?_
                    refine Rn.c (mkE [] 232) ?_
                    refine Rn.g ?_
                    refine Ro.t 1 ?_
                    refine Ro.d (mkE [(4, (V.bool true))] 227) ?_
                    refine Run.ret ?_
                    have h := Option.some.inj h; subst h
                    exact ⟨(V.bool true), (by kernel_rfl), (by kernel_rfl), hp⟩

def F84_j1 (x0 : T_Graph) (x1 : T_Ins) (y9451 : Bool) : Option Bool :=
  if y9451 then
    (F38 x1.fDst ((List.length x0.fVars : Nat) : Int)).bind fun y9656 =>
    if y9656 then
      if (decide (x1.fKind ≥ (6 : Int))) then
        if (decide (x1.fKind ≤ (8 : Int))) then
          (F38 x1.fRef ((List.length x0.fArrays : Nat) : Int)).bind fun y9661 =>
          if (!y9661) then
            some false
          else
            F84_j2 x0 x1
        else
          F84_j2 x0 x1
      else
        F84_j2 x0 x1
    else
      some false
  else
    if (decide (x1.fKind ≥ (6 : Int))) then
      if (decide (x1.fKind ≤ (8 : Int))) then
        (F38 x1.fRef ((List.length x0.fArrays : Nat) : Int)).bind fun y9666 =>
        if (!y9666) then
          some false
        else
          F84_j2 x0 x1
      else
        F84_j2 x0 x1
    else
      F84_j2 x0 x1

theorem w84_j1 {x0 : T_Graph} {x1 : T_Ins} {y9451 : Bool} {r : Bool} (h : F84_j1 x0 x1 y9451 = some r) {H : Heap} {L : List Ob} (hp : HP H (L)) :
    Run T i84n80 (mkE [(2, (V.fp (E_Graph.e x0))), (0, (V.fp (E_Ins.e x1))), (1, (V.bool y9451))] 226) H (finE none [4] (Q84 L r)) := by
  unfold F84_j1 at h
  refine Run.seq ?_
  refine Rn.g ?_
  rcases tf y9451 with h9655 | h9655
  · rw [ite_t h9655] at h; refine Ro.p (bool_of h9655) ?_
    refine Ro.t 5 ?_
    refine Ro.p (len_fz (EI .u8) x0.fVars) ?_
    obtain ⟨y9656, h9657, h⟩ := bind_some h
    rcases tf y9656 with h9658 | h9658
    · subst h9658; rw [if_pos rfl] at h
      refine RunO.c1 (by kernel_rfl) (by kernel_rfl) (c38 h9657 _) ?_
      refine Ro.t 5 ?_
      rcases tf (decide (x1.fKind ≥ (6 : Int))) with h9659 | h9659
      · rw [ite_t h9659] at h; refine Ro.p (bool_of h9659) ?_
        refine Ro.t 3 ?_
        rcases tf (decide (x1.fKind ≤ (8 : Int))) with h9660 | h9660
        · rw [ite_t h9660] at h; refine Ro.p (bool_of h9660) ?_
          refine Ro.t 6 ?_
          refine Ro.p (len_fz E_Array x0.fArrays) ?_
          obtain ⟨y9661, h9662, h⟩ := bind_some h
          refine RunO.c1 (by kernel_rfl) (by kernel_rfl) (c38 h9662 _) ?_
          refine Ro.t 3 ?_
          refine Ro.d (mkE [(2, (V.fp (E_Graph.e x0))), (0, (V.fp (E_Ins.e x1))), (59, (V.bool (!y9661)))] 168) ?_
          rcases tf (!y9661) with h9663 | h9663
          · rw [ite_t h9663] at h; refine Rn.t h9663 ?_
            refine Rn.g ?_
            refine Ro.t 1 ?_
            refine Ro.d (mkE [(4, (V.bool false))] 227) ?_
            refine Run.ret ?_
            have h := Option.some.inj h; subst h
            exact ⟨(V.bool false), (by kernel_rfl), (by kernel_rfl), hp⟩
          · rw [ite_f h9663] at h; refine Rn.f h9663 ?_
            refine Run.skip ?_
            refine Rn.c (mkE [(2, (V.fp (E_Graph.e x0))), (0, (V.fp (E_Ins.e x1)))] 228) ?_
            exact w84_j2 h hp
        · rw [ite_f h9660] at h; refine Ro.p (bool_of h9660) ?_
          refine Ro.t 11 ?_
          refine Ro.d (mkE [(2, (V.fp (E_Graph.e x0))), (0, (V.fp (E_Ins.e x1))), (59, (V.bool false))] 168) ?_
          refine Run.condF (by kernel_rfl) ?_
          refine Run.skip ?_
          refine Rn.c (mkE [(2, (V.fp (E_Graph.e x0))), (0, (V.fp (E_Ins.e x1)))] 228) ?_
          exact w84_j2 h hp
      · rw [ite_f h9659] at h; refine Ro.p (bool_of h9659) ?_
        refine Ro.t 15 ?_
        refine Ro.d (mkE [(2, (V.fp (E_Graph.e x0))), (0, (V.fp (E_Ins.e x1))), (59, (V.bool false))] 168) ?_
        refine Run.condF (by kernel_rfl) ?_
        refine Run.skip ?_
        refine Rn.c (mkE [(2, (V.fp (E_Graph.e x0))), (0, (V.fp (E_Ins.e x1)))] 228) ?_
        exact w84_j2 h hp
    · subst h9658; rw [if_neg (by decide)] at h
      refine RunO.c1 (by kernel_rfl) (by kernel_rfl) (c38 h9657 _) ?_
      refine Ro.t 21 ?_
      refine Ro.d (mkE [(2, (V.fp (E_Graph.e x0))), (0, (V.fp (E_Ins.e x1))), (59, (V.bool true))] 168) ?_
      refine Run.condT (by kernel_rfl) ?_
      refine Rn.g ?_
      refine Ro.t 1 ?_
      refine Ro.d (mkE [(4, (V.bool false))] 227) ?_
      refine Run.ret ?_
      have h := Option.some.inj h; subst h
      exact ⟨(V.bool false), (by kernel_rfl), (by kernel_rfl), hp⟩
  · rw [ite_f h9655] at h; refine Ro.p (bool_of h9655) ?_
    refine Ro.t 12 ?_
    rcases tf (decide (x1.fKind ≥ (6 : Int))) with h9664 | h9664
    · rw [ite_t h9664] at h; refine Ro.p (bool_of h9664) ?_
      refine Ro.t 3 ?_
      rcases tf (decide (x1.fKind ≤ (8 : Int))) with h9665 | h9665
      · rw [ite_t h9665] at h; refine Ro.p (bool_of h9665) ?_
        refine Ro.t 6 ?_
        refine Ro.p (len_fz E_Array x0.fArrays) ?_
        obtain ⟨y9666, h9667, h⟩ := bind_some h
        refine RunO.c1 (by kernel_rfl) (by kernel_rfl) (c38 h9667 _) ?_
        refine Ro.t 3 ?_
        refine Ro.d (mkE [(2, (V.fp (E_Graph.e x0))), (0, (V.fp (E_Ins.e x1))), (59, (V.bool (!y9666)))] 168) ?_
        rcases tf (!y9666) with h9668 | h9668
        · rw [ite_t h9668] at h; refine Rn.t h9668 ?_
          refine Rn.g ?_
          refine Ro.t 1 ?_
          refine Ro.d (mkE [(4, (V.bool false))] 227) ?_
          refine Run.ret ?_
          have h := Option.some.inj h; subst h
          exact ⟨(V.bool false), (by kernel_rfl), (by kernel_rfl), hp⟩
        · rw [ite_f h9668] at h; refine Rn.f h9668 ?_
          refine Run.skip ?_
          refine Rn.c (mkE [(2, (V.fp (E_Graph.e x0))), (0, (V.fp (E_Ins.e x1)))] 228) ?_
          exact w84_j2 h hp
      · rw [ite_f h9665] at h; refine Ro.p (bool_of h9665) ?_
        refine Ro.t 11 ?_
        refine Ro.d (mkE [(2, (V.fp (E_Graph.e x0))), (0, (V.fp (E_Ins.e x1))), (59, (V.bool false))] 168) ?_
        refine Run.condF (by kernel_rfl) ?_
        refine Run.skip ?_
        refine Rn.c (mkE [(2, (V.fp (E_Graph.e x0))), (0, (V.fp (E_Ins.e x1)))] 228) ?_
        exact w84_j2 h hp
    · rw [ite_f h9664] at h; refine Ro.p (bool_of h9664) ?_
      refine Ro.t 15 ?_
      refine Ro.d (mkE [(2, (V.fp (E_Graph.e x0))), (0, (V.fp (E_Ins.e x1))), (59, (V.bool false))] 168) ?_
      refine Run.condF (by kernel_rfl) ?_
      refine Run.skip ?_
      refine Rn.c (mkE [(2, (V.fp (E_Graph.e x0))), (0, (V.fp (E_Ins.e x1)))] 228) ?_
      exact w84_j2 h hp

def F84 (x0 : T_Graph) (x1 : T_Ins) : Option Bool :=
  if (decide (x1.fKind < (1 : Int))) then
    some false
  else
    if (decide (x1.fKind > (10 : Int))) then
      some false
    else
      (F93 x1).bind fun y9444 =>
      if y9444 then
        (F86 x0 x1.fArgs).bind fun y9447 =>
        if (!y9447) then
          some false
        else
          if (decide (x1.fKind ≤ (6 : Int))) then
            F84_j1 x0 x1 (true)
          else
            F84_j1 x0 x1 ((x1.fKind == (9 : Int)))
      else
        some false

theorem w84 {x0 : T_Graph} {x1 : T_Ins} {r : Bool} (h : F84 x0 x1 = some r) {H : Heap} {L : List Ob} (hp : HP H (L)) : Fn T 84 [(E_Graph.e x0), (E_Ins.e x1)] H (Q84 L r) := by
  refine Fn.enterE t84 (e0 := (mkE [(0, (E_Graph.e x0)), (0, (E_Ins.e x1))] 230)) (by kernel_rfl) ?_
  show Run T (.clr [] i84n83) _ _ (finE none [4] (Q84 L r))
  refine Rn.k (mkE [(0, (E_Graph.e x0)), (0, (E_Ins.e x1))] 230) ?_
  unfold F84 at h
  refine Rn.g ?_
  refine Ro.t 3 ?_
  refine Ro.d (mkE [(2, (V.fp (E_Graph.e x0))), (0, (V.fp (E_Ins.e x1)))] 228) ?_
  refine Run.seq ?_
  refine Rn.g ?_
  refine Ro.t 2 ?_
  rcases tf (decide (x1.fKind < (1 : Int))) with h9442 | h9442
  · rw [ite_t h9442] at h; refine Ro.p (bool_of h9442) ?_
    refine Ro.t 17 ?_
    refine Ro.d (mkE [(2, (V.fp (E_Graph.e x0))), (0, (V.fp (E_Ins.e x1))), (22, (V.bool true))] 205) ?_
    refine Run.condT (by kernel_rfl) ?_
    refine Rn.g ?_
    refine Ro.t 1 ?_
    refine Ro.d (mkE [(4, (V.bool false))] 227) ?_
    refine Run.ret ?_
    have h := Option.some.inj h; subst h
    exact ⟨(V.bool false), (by kernel_rfl), (by kernel_rfl), hp⟩
  · rw [ite_f h9442] at h; refine Ro.p (bool_of h9442) ?_
    refine Ro.t 3 ?_
    rcases tf (decide (x1.fKind > (10 : Int))) with h9443 | h9443
    · rw [ite_t h9443] at h; refine Ro.p (bool_of h9443) ?_
      refine Ro.t 13 ?_
      refine Ro.d (mkE [(2, (V.fp (E_Graph.e x0))), (0, (V.fp (E_Ins.e x1))), (22, (V.bool true))] 205) ?_
      refine Run.condT (by kernel_rfl) ?_
      refine Rn.g ?_
      refine Ro.t 1 ?_
      refine Ro.d (mkE [(4, (V.bool false))] 227) ?_
      refine Run.ret ?_
      have h := Option.some.inj h; subst h
      exact ⟨(V.bool false), (by kernel_rfl), (by kernel_rfl), hp⟩
    · rw [ite_f h9443] at h; refine Ro.p (bool_of h9443) ?_
      refine Ro.t 3 ?_
      obtain ⟨y9444, h9445, h⟩ := bind_some h
      rcases tf y9444 with h9446 | h9446
      · subst h9446; rw [if_pos rfl] at h
        refine RunO.c1 (by kernel_rfl) (by kernel_rfl) (c93 h9445 _) ?_
        refine Ro.t 6 ?_
        obtain ⟨y9447, h9448, h⟩ := bind_some h
        refine RunO.c1 (by kernel_rfl) (by kernel_rfl) (c86 h9448 _) ?_
        refine Ro.t 2 ?_
        refine Ro.d (mkE [(2, (V.fp (E_Graph.e x0))), (0, (V.fp (E_Ins.e x1))), (22, (V.bool (!y9447)))] 205) ?_
        rcases tf (!y9447) with h9449 | h9449
        · rw [ite_t h9449] at h; refine Rn.t h9449 ?_
          refine Rn.g ?_
          refine Ro.t 1 ?_
          refine Ro.d (mkE [(4, (V.bool false))] 227) ?_
          refine Run.ret ?_
          have h := Option.some.inj h; subst h
          exact ⟨(V.bool false), (by kernel_rfl), (by kernel_rfl), hp⟩
        · rw [ite_f h9449] at h; refine Rn.f h9449 ?_
          refine Run.skip ?_
          refine Rn.c (mkE [(2, (V.fp (E_Graph.e x0))), (0, (V.fp (E_Ins.e x1)))] 228) ?_
          refine Rn.g ?_
          refine Ro.t 2 ?_
          rcases tf (decide (x1.fKind ≤ (6 : Int))) with h9669 | h9669
          · rw [ite_t h9669] at h; refine Ro.p (bool_of h9669) ?_
            refine Ro.t 6 ?_
            refine Ro.d (mkE [(2, (V.fp (E_Graph.e x0))), (0, (V.fp (E_Ins.e x1))), (1, (V.bool true))] 226) ?_
            exact w84_j1 h hp
          · rw [ite_f h9669] at h; refine Ro.p (bool_of h9669) ?_
            refine Ro.t 6 ?_
            refine Ro.d (mkE [(2, (V.fp (E_Graph.e x0))), (0, (V.fp (E_Ins.e x1))), (1, (V.bool (x1.fKind == (9 : Int))))] 226) ?_
            exact w84_j1 h hp
      · subst h9446; rw [if_neg (by decide)] at h
        refine RunO.c1 (by kernel_rfl) (by kernel_rfl) (c93 h9445 _) ?_
        refine Ro.t 9 ?_
        refine Ro.d (mkE [(2, (V.fp (E_Graph.e x0))), (0, (V.fp (E_Ins.e x1))), (22, (V.bool true))] 205) ?_
        refine Run.condT (by kernel_rfl) ?_
        refine Rn.g ?_
        refine Ro.t 1 ?_
        refine Ro.d (mkE [(4, (V.bool false))] 227) ?_
        refine Run.ret ?_
        have h := Option.some.inj h; subst h
        exact ⟨(V.bool false), (by kernel_rfl), (by kernel_rfl), hp⟩

theorem c84 {x0 : T_Graph} {x1 : T_Ins} {r : Bool} (h : F84 x0 x1 = some r) (s : Bool) : Fn T 84 [(E_Graph.e x0), (E_Ins.e x1)] [] (fun v hh => deep s hh deepN v = some (EB.e r)) := by
  refine (w84 h HP.nil).mono ?_
  rintro v hh ⟨rfl, hp⟩
  exact EB.hd s hh 38 _ (.inr rfl)

/- smithy/smithyref07.phis -/
abbrev Q85 (L : List Ob) (r : Bool) : V → Heap → Prop := fun v h => v = EB.e r ∧ HP h (L)
abbrev RR85 (L : List Ob) (r : Bool) : List V → Heap → Prop := fun e h => endR none [2] (Q85 L r) e h

abbrev I85_1 (x0 : T_Graph) (y10049 : (List (List Int))) (L : List Ob) : (Int) → List V → Heap → Prop := fun s e h => e = (mkE [(1, (V.fp (E_Graph.e x0))), (1, (V.fz (List.map (EL (EI .i64)).e y10049))), (0, (i6 s))] 74) ∧ HP h (L)

abbrev J85_1 (x0 : T_Graph) (y10049 : (List (List Int))) (L : List Ob) : Unit → Nat → List V → Heap → Prop := fun a i e h => i = 0 ∧ clrEnv [1, 2, 3, 4, 5, 6, 7, 10, 11, 12, 13, 14, 15, 16, 17, 18, 19, 20, 21, 22, 23, 24, 25, 26, 27, 28, 29, 30, 31, 32, 33, 34, 35, 36, 37, 38, 39, 40, 41, 42, 43, 44, 45, 46, 47, 48, 49, 50, 51, 52, 53, 54, 55, 56, 57, 58, 59, 60, 61, 62, 63, 64, 65, 66, 67, 68, 69, 70, 71, 72, 73, 74, 75, 76, 77, 78] e = (mkE [] 79) ∧ HP h (L)

abbrev I85_2 (x0 : T_Graph) (y10049 : (List (List Int))) (y10085 : Int) (y10243 : T_Block) (b10245 : Nat) (L : List Ob) : ((List Int) × Int) → List V → Heap → Prop := fun s e h => ∃ o10318 : Option (Nat × Nat), ∃ q10319 : List V, e = (mkE [(1, (V.fp (E_Graph.e x0))), (1, (V.fz (List.map (EL (EI .i64)).e y10049))), (0, (i6 y10085)), (0, (V.ptr b10245 0 0)), (0, (slv (EI .i64).z (EI .i64).ag (List.length s.1) o10318)), (0, (i6 s.2))] 71) ∧ HP h ((some (b10245, 0), [(Zl E_Ins y10243.fIns), (V.int .u8 y10243.fTerm.fKind), (i6 y10243.fTerm.fArg), (i6 y10243.fTerm.fTo.a0), (i6 y10243.fTerm.fTo.a1), (V.int .u8 y10243.fTerm.fTrap)]) :: (o10318, List.flatMap (EI .i64).c s.1 ++ q10319) :: L)

abbrev J85_2 (x0 : T_Graph) (y10049 : (List (List Int))) (y10085 : Int) (y10243 : T_Block) (b10245 : Nat) (L : List Ob) : Unit → Nat → List V → Heap → Prop := fun a i e h => i = 2 ∧ clrEnv [2, 5, 6, 7, 17, 18, 19, 20, 21, 22, 23, 24, 25, 26, 27, 28, 29, 30, 31, 32, 33, 34, 35, 36, 37, 38, 39, 40, 41, 42, 43, 44, 45, 46, 47, 48, 49, 50, 51, 52, 53, 54, 55, 56, 57, 58, 59, 60, 61, 62, 63, 64, 65, 66, 67, 68, 69, 70, 71, 72, 73, 74, 75, 76, 77, 78] e = (mkE [(1, (V.fp (E_Graph.e x0))), (1, (V.fz (List.map (EL (EI .i64)).e y10049))), (0, (i6 y10085))] 74) ∧ HP h (L)

def F85_j1 (x0 : T_Graph) (y10049 : (List (List Int))) (y10085 : Int) (y10243 : T_Block) (y10320 : Int) (l10433 : (List Int)) : Option (Stp ((List Int) × Int) Bool Unit) :=
  some (.next (l10433, (IntKind.i64.wrap (y10320 + (1 : Int)))))

theorem w85_j1 {x0 : T_Graph} {y10049 : (List (List Int))} {y10085 : Int} {y10243 : T_Block} {y10320 : Int} {l10433 : (List Int)} {t : (Stp ((List Int) × Int) Bool Unit)} (h : F85_j1 x0 y10049 y10085 y10243 y10320 l10433 = some t) {b10245 : Nat} {o10434 : Option (Nat × Nat)} {q10435 : List V} {H : Heap} {L : List Ob} (hp : HP H ((some (b10245, 0), [(Zl E_Ins y10243.fIns), (V.int .u8 y10243.fTerm.fKind), (i6 y10243.fTerm.fArg), (i6 y10243.fTerm.fTo.a0), (i6 y10243.fTerm.fTo.a1), (V.int .u8 y10243.fTerm.fTrap)]) :: (o10434, List.flatMap (EI .i64).c l10433 ++ q10435) :: L)) :
    Run T (.rgn i85r24) (mkE [(1, (V.fp (E_Graph.e x0))), (1, (V.fz (List.map (EL (EI .i64)).e y10049))), (0, (i6 y10085)), (0, (V.ptr b10245 0 0)), (0, (slv (EI .i64).z (EI .i64).ag (List.length l10433) o10434)), (0, (i6 y10320))] 71) H (stp [2, 22, 23, 24, 25, 26, 27, 28, 29, 30, 31, 32, 33, 34, 35, 36, 37, 38, 39, 40, 41, 42, 43, 44, 45, 46, 47, 48, 49, 50, 51, 52, 53, 54, 55, 56, 57, 58, 59, 60, 61, 62, 63, 64, 65, 66, 67, 68, 69, 70, 71, 72, 73, 74, 75, 76, 77, 78] (I85_2 x0 y10049 y10085 y10243 b10245 L) (RR85 L) (J85_2 x0 y10049 y10085 y10243 b10245 L) t) := by
  unfold F85_j1 at h
  refine Run.rgn ?_
  refine Ro.t 3 ?_
  refine RunO.nil ?_
  have h := Option.some.inj h; subst h
  show I85_2 x0 y10049 y10085 y10243 b10245 L _ _ _
  exact ⟨o10434, q10435, (by kernel_rfl), hp⟩

def F85_2_b (x0 : T_Graph) (y10049 : (List (List Int))) (y10085 : Int) (y10243 : T_Block) (l10317 : (List Int)) (y10320 : Int) : Option (Stp ((List Int) × Int) Bool Unit) :=
  if (decide (y10320 < ((List.length y10243.fIns : Nat) : Int))) then
    (idx y10243.fIns y10320).bind fun y10439 =>
    if (y10439.fKind != (1 : Int)) then
      F85_j1 x0 y10049 y10085 y10243 y10320 (l10317)
    else
      if (y10085 == (0 : Int)) then
        some (.ret false)
      else
        if (((List.length l10317 : Nat) : Int) != y10320) then
          some (.ret false)
        else
          (idx y10243.fIns y10320).bind fun y10456 =>
          (idx y10049 y10085).bind fun y10458 =>
          if (((List.length y10456.fArgs : Nat) : Int) != ((List.length y10458 : Nat) : Int)) then
            some (.ret false)
          else
            (idx y10243.fIns y10320).bind fun y10461 =>
            (F49 l10317 y10461.fDst).bind fun y10463 =>
            if (decide (y10463 ≥ (0 : Int))) then
              some (.ret false)
            else
              (idx y10243.fIns y10320).bind fun y10466 =>
              (more 8 l10317 ([y10466.fDst] : List Int)).bind fun y10468 =>
              F85_j1 x0 y10049 y10085 y10243 y10320 (y10468)
  else
    some (.go ())

theorem w85_2_b {x0 : T_Graph} {y10049 : (List (List Int))} {y10085 : Int} {y10243 : T_Block} {l10317 : (List Int)} {y10320 : Int} {t : (Stp ((List Int) × Int) Bool Unit)} (h : F85_2_b x0 y10049 y10085 y10243 l10317 y10320 = some t) {b10245 : Nat} {o10318 : Option (Nat × Nat)} {q10319 : List V} {H : Heap} {L : List Ob} (hp : HP H ((some (b10245, 0), [(Zl E_Ins y10243.fIns), (V.int .u8 y10243.fTerm.fKind), (i6 y10243.fTerm.fArg), (i6 y10243.fTerm.fTo.a0), (i6 y10243.fTerm.fTo.a1), (V.int .u8 y10243.fTerm.fTrap)]) :: (o10318, List.flatMap (EI .i64).c l10317 ++ q10319) :: L)) :
    Run T i85n26 (mkE [(1, (V.fp (E_Graph.e x0))), (1, (V.fz (List.map (EL (EI .i64)).e y10049))), (0, (i6 y10085)), (0, (V.ptr b10245 0 0)), (0, (slv (EI .i64).z (EI .i64).ag (List.length l10317) o10318)), (0, (i6 y10320))] 71) H (stp [2, 22, 23, 24, 25, 26, 27, 28, 29, 30, 31, 32, 33, 34, 35, 36, 37, 38, 39, 40, 41, 42, 43, 44, 45, 46, 47, 48, 49, 50, 51, 52, 53, 54, 55, 56, 57, 58, 59, 60, 61, 62, 63, 64, 65, 66, 67, 68, 69, 70, 71, 72, 73, 74, 75, 76, 77, 78] (I85_2 x0 y10049 y10085 y10243 b10245 L) (RR85 L) (J85_2 x0 y10049 y10085 y10243 b10245 L) t) := by
  unfold F85_2_b at h
  refine Run.seq ?_
  refine Rn.g ?_
  refine Ro.t 2 ?_
  refine Ro.p (hp.ld 0 (off := 0) (n := none) (v := (Zl E_Ins y10243.fIns)) rfl (by kernel_rfl)) ?_
  refine Ro.p (len_fz E_Ins y10243.fIns) ?_
  refine Ro.t 1 ?_
  refine Ro.d (mkE [(1, (V.fp (E_Graph.e x0))), (1, (V.fz (List.map (EL (EI .i64)).e y10049))), (0, (i6 y10085)), (0, (V.ptr b10245 0 0)), (0, (slv (EI .i64).z (EI .i64).ag (List.length l10317) o10318)), (0, (i6 y10320)), (18, (V.bool (decide (y10320 < (ln y10243.fIns)))))] 52) ?_
  rcases tf (decide (y10320 < (ln y10243.fIns))) with h10397 | h10397
  · rw [ite_t h10397] at h; refine Rn.t h10397 ?_
    refine Run.skip ?_
    refine Rn.c (mkE [(1, (V.fp (E_Graph.e x0))), (1, (V.fz (List.map (EL (EI .i64)).e y10049))), (0, (i6 y10085)), (0, (V.ptr b10245 0 0)), (0, (slv (EI .i64).z (EI .i64).ag (List.length l10317) o10318)), (0, (i6 y10320))] 71) ?_
    refine Run.seq ?_
    refine Run.block ?_
    refine Run.seq ?_
    refine Rn.g ?_
    refine Ro.t 1 ?_
    refine Ro.p (hp.ld 0 (off := 0) (n := none) (v := (Zl E_Ins y10243.fIns)) rfl (by kernel_rfl)) ?_
    refine Ro.t 1 ?_
    obtain ⟨y10439, h10440, h⟩ := bind_some h
    refine Ro.p (idx_fz E_Ins .i64 h10440) ?_
    refine Ro.t 3 ?_
    refine Ro.d (mkE [(1, (V.fp (E_Graph.e x0))), (1, (V.fz (List.map (EL (EI .i64)).e y10049))), (0, (i6 y10085)), (0, (V.ptr b10245 0 0)), (0, (slv (EI .i64).z (EI .i64).ag (List.length l10317) o10318)), (0, (i6 y10320)), (27, (V.bool (y10439.fKind != (1 : Int))))] 43) ?_
    rcases tf (y10439.fKind != (1 : Int)) with h10441 | h10441
    · rw [ite_t h10441] at h; refine Rn.t h10441 ?_
      refine Run.exit ?_
      refine Run.clrE (ts := [2, 29, 30, 31, 32, 33, 34, 35, 36, 37, 38, 39, 40, 41, 42, 43, 44, 45, 46, 47, 48, 49, 50, 51, 52, 53, 54, 55, 56, 57, 58, 59, 60, 61, 62, 63, 64, 65, 66, 67, 68, 69, 70, 71, 72, 73, 74, 75, 76, 77, 78]) (b := (.rgn i85r24)) (Q := (stp [2, 22, 23, 24, 25, 26, 27, 28, 29, 30, 31, 32, 33, 34, 35, 36, 37, 38, 39, 40, 41, 42, 43, 44, 45, 46, 47, 48, 49, 50, 51, 52, 53, 54, 55, 56, 57, 58, 59, 60, 61, 62, 63, 64, 65, 66, 67, 68, 69, 70, 71, 72, 73, 74, 75, 76, 77, 78] (I85_2 x0 y10049 y10085 y10243 b10245 L) (RR85 L) (J85_2 x0 y10049 y10085 y10243 b10245 L) t)) (e' := (mkE [(1, (V.fp (E_Graph.e x0))), (1, (V.fz (List.map (EL (EI .i64)).e y10049))), (0, (i6 y10085)), (0, (V.ptr b10245 0 0)), (0, (slv (EI .i64).z (EI .i64).ag (List.length l10317) o10318)), (0, (i6 y10320))] 71)) (by kernel_rfl) ?_
      exact w85_j1 h hp
    · rw [ite_f h10441] at h; refine Rn.f h10441 ?_
      refine Run.skip ?_
      refine Rn.c (mkE [(1, (V.fp (E_Graph.e x0))), (1, (V.fz (List.map (EL (EI .i64)).e y10049))), (0, (i6 y10085)), (0, (V.ptr b10245 0 0)), (0, (slv (EI .i64).z (EI .i64).ag (List.length l10317) o10318)), (0, (i6 y10320))] 71) ?_
      refine Run.seq ?_
      refine Rn.g ?_
      refine Ro.t 1 ?_
      rcases tf (y10085 == (0 : Int)) with h10454 | h10454
      · rw [ite_t h10454] at h; refine Ro.p (bool_of h10454) ?_
        refine Ro.t 32 ?_
        refine Ro.d (mkE [(1, (V.fp (E_Graph.e x0))), (1, (V.fz (List.map (EL (EI .i64)).e y10049))), (0, (i6 y10085)), (0, (V.ptr b10245 0 0)), (0, (slv (EI .i64).z (EI .i64).ag (List.length l10317) o10318)), (0, (i6 y10320)), (61, (V.bool true))] 9) ?_
        refine Run.condT (by kernel_rfl) ?_
        refine Rn.g ?_
        refine Ro.t 1 ?_
        refine Ro.d (mkE [(2, (V.bool false))] 76) ?_
        refine Run.ret ?_
        have h := Option.some.inj h; subst h
        show RR85 L _ _ _
        have hp := hp.del 1
        have hp := hp.del 0
        exact ⟨(V.bool false), (by kernel_rfl), (by kernel_rfl), hp⟩
      · rw [ite_f h10454] at h; refine Ro.p (bool_of h10454) ?_
        refine Ro.t 2 ?_
        refine Ro.p (own_len (EI .i64) hp 1 rfl) ?_
        refine Ro.t 1 ?_
        rcases tf ((ln l10317) != y10320) with h10455 | h10455
        · rw [ite_t h10455] at h; refine Ro.p (bool_of h10455) ?_
          refine Ro.t 27 ?_
          refine Ro.d (mkE [(1, (V.fp (E_Graph.e x0))), (1, (V.fz (List.map (EL (EI .i64)).e y10049))), (0, (i6 y10085)), (0, (V.ptr b10245 0 0)), (0, (slv (EI .i64).z (EI .i64).ag (List.length l10317) o10318)), (0, (i6 y10320)), (61, (V.bool true))] 9) ?_
          refine Run.condT (by kernel_rfl) ?_
          refine Rn.g ?_
          refine Ro.t 1 ?_
          refine Ro.d (mkE [(2, (V.bool false))] 76) ?_
          refine Run.ret ?_
          have h := Option.some.inj h; subst h
          show RR85 L _ _ _
          have hp := hp.del 1
          have hp := hp.del 0
          exact ⟨(V.bool false), (by kernel_rfl), (by kernel_rfl), hp⟩
        · rw [ite_f h10455] at h; refine Ro.p (bool_of h10455) ?_
          refine Ro.t 3 ?_
          refine Ro.p (hp.ld 0 (off := 0) (n := none) (v := (Zl E_Ins y10243.fIns)) rfl (by kernel_rfl)) ?_
          refine Ro.t 1 ?_
          obtain ⟨y10456, h10457, h⟩ := bind_some h
          refine Ro.p (idx_fz E_Ins .i64 h10457) ?_
          refine Ro.t 2 ?_
          refine Ro.p (len_fz (EI .i64) y10456.fArgs) ?_
          refine Ro.t 2 ?_
          obtain ⟨y10458, h10459, h⟩ := bind_some h
          refine Ro.p (idx_fz (EL (EI .i64)) .i64 h10459) ?_
          refine Ro.t 1 ?_
          refine Ro.p (len_fz (EI .i64) y10458) ?_
          rcases tf ((ln y10456.fArgs) != (ln y10458)) with h10460 | h10460
          · rw [ite_t h10460] at h; refine Ro.p (bool_of h10460) ?_
            refine Ro.t 12 ?_
            refine Ro.d (mkE [(1, (V.fp (E_Graph.e x0))), (1, (V.fz (List.map (EL (EI .i64)).e y10049))), (0, (i6 y10085)), (0, (V.ptr b10245 0 0)), (0, (slv (EI .i64).z (EI .i64).ag (List.length l10317) o10318)), (0, (i6 y10320)), (61, (V.bool true))] 9) ?_
            refine Run.condT (by kernel_rfl) ?_
            refine Rn.g ?_
            refine Ro.t 1 ?_
            refine Ro.d (mkE [(2, (V.bool false))] 76) ?_
            refine Run.ret ?_
            have h := Option.some.inj h; subst h
            show RR85 L _ _ _
            have hp := hp.del 1
            have hp := hp.del 0
            exact ⟨(V.bool false), (by kernel_rfl), (by kernel_rfl), hp⟩
          · rw [ite_f h10460] at h; refine Ro.p (bool_of h10460) ?_
            refine Ro.t 4 ?_
            refine Ro.p (hp.ld 0 (off := 0) (n := none) (v := (Zl E_Ins y10243.fIns)) rfl (by kernel_rfl)) ?_
            refine Ro.t 1 ?_
            obtain ⟨y10461, h10462, h⟩ := bind_some h
            refine Ro.p (idx_fz E_Ins .i64 h10462) ?_
            refine Ro.t 2 ?_
            obtain ⟨y10463, h10464, h⟩ := bind_some h
            refine RunO.c1 (by kernel_rfl) (omape (l' := [(slv (EI .i64).z (EI .i64).ag (List.length l10317) o10318), (i6 y10461.fDst)]) (by kernel_rfl) (omapc (own_deep (EI .i64) hp 1 rfl false (.inl rfl) 36) (omapc (by kernel_rfl) omapn))) (c49 h10464 _) ?_
            refine Ro.t 2 ?_
            refine Ro.d (mkE [(1, (V.fp (E_Graph.e x0))), (1, (V.fz (List.map (EL (EI .i64)).e y10049))), (0, (i6 y10085)), (0, (V.ptr b10245 0 0)), (0, (slv (EI .i64).z (EI .i64).ag (List.length l10317) o10318)), (0, (i6 y10320)), (61, (V.bool (decide (y10463 ≥ (0 : Int)))))] 9) ?_
            rcases tf (decide (y10463 ≥ (0 : Int))) with h10465 | h10465
            · rw [ite_t h10465] at h; refine Rn.t h10465 ?_
              refine Rn.g ?_
              refine Ro.t 1 ?_
              refine Ro.d (mkE [(2, (V.bool false))] 76) ?_
              refine Run.ret ?_
              have h := Option.some.inj h; subst h
              show RR85 L _ _ _
              have hp := hp.del 1
              have hp := hp.del 0
              exact ⟨(V.bool false), (by kernel_rfl), (by kernel_rfl), hp⟩
            · rw [ite_f h10465] at h; refine Rn.f h10465 ?_
              refine Run.skip ?_
              refine Run.clrE (ts := [2, 36, 37, 38, 39, 40, 41, 42, 43, 44, 45, 46, 47, 48, 49, 50, 51, 52, 53, 54, 55, 56, 57, 58, 59, 60, 61, 62, 63, 64, 65, 66, 67, 68, 69]) (b := (.rgn i85r20)) (Q := (blk 3 (thn T (.clr [2, 29, 30, 31, 32, 33, 34, 35, 36, 37, 38, 39, 40, 41, 42, 43, 44, 45, 46, 47, 48, 49, 50, 51, 52, 53, 54, 55, 56, 57, 58, 59, 60, 61, 62, 63, 64, 65, 66, 67, 68, 69, 70, 71, 72, 73, 74, 75, 76, 77, 78] (.rgn i85r24)) (stp [2, 22, 23, 24, 25, 26, 27, 28, 29, 30, 31, 32, 33, 34, 35, 36, 37, 38, 39, 40, 41, 42, 43, 44, 45, 46, 47, 48, 49, 50, 51, 52, 53, 54, 55, 56, 57, 58, 59, 60, 61, 62, 63, 64, 65, 66, 67, 68, 69, 70, 71, 72, 73, 74, 75, 76, 77, 78] (I85_2 x0 y10049 y10085 y10243 b10245 L) (RR85 L) (J85_2 x0 y10049 y10085 y10243 b10245 L) t)))) (e' := (mkE [(1, (V.fp (E_Graph.e x0))), (1, (V.fz (List.map (EL (EI .i64)).e y10049))), (0, (i6 y10085)), (0, (V.ptr b10245 0 0)), (0, (slv (EI .i64).z (EI .i64).ag (List.length l10317) o10318)), (0, (i6 y10320))] 71)) (by kernel_rfl) ?_
              refine Run.rgn ?_
              refine Ro.t 2 ?_
              refine Ro.p (hp.ld 0 (off := 0) (n := none) (v := (Zl E_Ins y10243.fIns)) rfl (by kernel_rfl)) ?_
              refine Ro.t 1 ?_
              obtain ⟨y10466, h10467, h⟩ := bind_some h
              refine Ro.p (idx_fz E_Ins .i64 h10467) ?_
              refine Ro.t 3 ?_
              obtain ⟨y10468, h10469, h⟩ := bind_some h
              refine RunO.app1 (EI .i64) hp (by kernel_rfl) 1 (o := o10318) (l := l10317) (rest := q10319) (m := ([y10466.fDst] : List Int)) rfl (by kernel_rfl) (by kernel_rfl) ((EI .i64).new_fz _ ([y10466.fDst] : List Int)) (by kernel_rfl) (by kernel_rfl) h10469 ?_
              intro o10470 H hp
              have hp : HP H ((some (b10245, 0), [(Zl E_Ins y10243.fIns), (V.int .u8 y10243.fTerm.fKind), (i6 y10243.fTerm.fArg), (i6 y10243.fTerm.fTo.a0), (i6 y10243.fTerm.fTo.a1), (V.int .u8 y10243.fTerm.fTrap)]) :: (o10470, List.flatMap (EI .i64).c y10468 ++ []) :: L) := hp
              refine Ro.t 1 ?_
              refine RunO.nil ?_
              refine Run.clrE (ts := [2, 29, 30, 31, 32, 33, 34, 35, 36, 37, 38, 39, 40, 41, 42, 43, 44, 45, 46, 47, 48, 49, 50, 51, 52, 53, 54, 55, 56, 57, 58, 59, 60, 61, 62, 63, 64, 65, 66, 67, 68, 69, 70, 71, 72, 73, 74, 75, 76, 77, 78]) (b := (.rgn i85r24)) (Q := (stp [2, 22, 23, 24, 25, 26, 27, 28, 29, 30, 31, 32, 33, 34, 35, 36, 37, 38, 39, 40, 41, 42, 43, 44, 45, 46, 47, 48, 49, 50, 51, 52, 53, 54, 55, 56, 57, 58, 59, 60, 61, 62, 63, 64, 65, 66, 67, 68, 69, 70, 71, 72, 73, 74, 75, 76, 77, 78] (I85_2 x0 y10049 y10085 y10243 b10245 L) (RR85 L) (J85_2 x0 y10049 y10085 y10243 b10245 L) t)) (e' := (mkE [(1, (V.fp (E_Graph.e x0))), (1, (V.fz (List.map (EL (EI .i64)).e y10049))), (0, (i6 y10085)), (0, (V.ptr b10245 0 0)), (0, (slv (EI .i64).z (EI .i64).ag (List.length y10468) o10470)), (0, (i6 y10320))] 71)) (by kernel_rfl) ?_
              exact w85_j1 h hp
  · rw [ite_f h10397] at h; refine Rn.f h10397 ?_
    refine Run.exit ?_
    have h := Option.some.inj h; subst h
    have hp := hp.del 1
    have hp := hp.del 0
    show J85_2 x0 y10049 y10085 y10243 b10245 L () _ _ _
    exact ⟨rfl, (by kernel_rfl), hp⟩

def F85_1_b (x0 : T_Graph) (y10049 : (List (List Int))) (y10085 : Int) : Option (Stp (Int) Bool Unit) :=
  if (decide (y10085 < ((List.length x0.fBlocks : Nat) : Int))) then
    (idx x0.fBlocks y10085).bind fun y10243 =>
    (iter (fun s : ((List Int) × Int) => F85_2_b x0 y10049 y10085 y10243 s.1 s.2) FUEL ([], (0 : Int))).bind fun o => match o with
    | .ret r => some (.ret r)
    | .go () =>
      some (.next ((IntKind.i64.wrap (y10085 + (1 : Int)))))
  else
    some (.go ())

theorem w85_1_b {x0 : T_Graph} {y10049 : (List (List Int))} {y10085 : Int} {t : (Stp (Int) Bool Unit)} (h : F85_1_b x0 y10049 y10085 = some t) {H : Heap} {L : List Ob} (hp : HP H (L)) :
    Run T i85n35 (mkE [(1, (V.fp (E_Graph.e x0))), (1, (V.fz (List.map (EL (EI .i64)).e y10049))), (0, (i6 y10085))] 74) H (stp [2, 5, 6, 7, 10, 11, 12, 13, 14, 15, 16, 17, 18, 19, 20, 21, 22, 23, 24, 25, 26, 27, 28, 29, 30, 31, 32, 33, 34, 35, 36, 37, 38, 39, 40, 41, 42, 43, 44, 45, 46, 47, 48, 49, 50, 51, 52, 53, 54, 55, 56, 57, 58, 59, 60, 61, 62, 63, 64, 65, 66, 67, 68, 69, 70, 71, 72, 73, 74, 75, 76, 77, 78] (I85_1 x0 y10049 L) (RR85 L) (J85_1 x0 y10049 L) t) := by
  unfold F85_1_b at h
  refine Run.seq ?_
  refine Rn.g ?_
  refine Ro.t 3 ?_
  refine Ro.p (len_fz E_Block x0.fBlocks) ?_
  refine Ro.t 1 ?_
  refine Ro.d (mkE [(1, (V.fp (E_Graph.e x0))), (1, (V.fz (List.map (EL (EI .i64)).e y10049))), (0, (i6 y10085)), (9, (V.bool (decide (y10085 < (ln x0.fBlocks)))))] 64) ?_
  rcases tf (decide (y10085 < (ln x0.fBlocks))) with h10242 | h10242
  · rw [ite_t h10242] at h; refine Rn.t h10242 ?_
    refine Run.skip ?_
    refine Rn.c (mkE [(1, (V.fp (E_Graph.e x0))), (1, (V.fz (List.map (EL (EI .i64)).e y10049))), (0, (i6 y10085))] 74) ?_
    refine Run.seq ?_
    refine Run.block ?_
    refine Rn.g ?_
    refine Ro.t 3 ?_
    obtain ⟨y10243, h10244, h⟩ := bind_some h
    refine Ro.p (idx_fz E_Block .i64 h10244) ?_
    refine Ro.t 1 ?_
    refine RunO.alloc hp (by kernel_rfl) ?_
    intro b10245 H hp
    have hp : HP H ((some (b10245, 0), [(V.fz (List.map E_Ins.e ([] : List T_Ins))), (V.int .u8 (0 : Int)), (i6 (0 : Int)), (i6 (0 : Int)), (i6 (0 : Int)), (V.int .u8 (0 : Int))]) :: L) := hp
    refine RunO.st hp (by kernel_rfl) 0 (off := 0) (v := (E_Block.e y10243)) (cs' := [(Zl E_Ins y10243.fIns), (V.int .u8 y10243.fTerm.fKind), (i6 y10243.fTerm.fArg), (i6 y10243.fTerm.fTo.a0), (i6 y10243.fTerm.fTo.a1), (V.int .u8 y10243.fTerm.fTrap)]) rfl (by kernel_rfl) (by kernel_rfl) (by kernel_rfl) ?_
    intro H hp
    refine Ro.d (mkE [(1, (V.fp (E_Graph.e x0))), (1, (V.fz (List.map (EL (EI .i64)).e y10049))), (0, (i6 y10085)), (0, (V.ptr b10245 0 0))] 73) ?_
    refine Rn.g ?_
    refine Ro.t 1 ?_
    refine Ro.d (mkE [(1, (V.fp (E_Graph.e x0))), (1, (V.fz (List.map (EL (EI .i64)).e y10049))), (0, (i6 y10085)), (0, (V.ptr b10245 0 0)), (0, V.nils)] 72) ?_
    refine Rn.g ?_
    refine Ro.t 1 ?_
    refine Ro.d (mkE [(1, (V.fp (E_Graph.e x0))), (1, (V.fz (List.map (EL (EI .i64)).e y10049))), (0, (i6 y10085)), (0, (V.ptr b10245 0 0)), (0, V.nils), (0, (i6 (0 : Int)))] 71) ?_
    refine Run.block ?_
    obtain ⟨o, h10471, h⟩ := bind_some h
    have hp := hp.non
    have hp := hp.pick 0 rfl
    have hp := hp.pick 1 rfl
    refine (Run.iter (I := I85_2 x0 y10049 y10085 y10243 b10245 L) (RR := RR85 L) (J := J85_2 x0 y10049 y10085 y10243 b10245 L) (fun s e h' t hI hf => ?_) FUEL h10471 (by exact ⟨none, [], (by kernel_rfl), hp⟩)).mono ?_
    · obtain ⟨_, _, rfl, hp⟩ := hI; exact w85_2_b hf hp
    · rintro X e' H hq
      cases o with
      | ret r => cases X <;> first | exact hq.elim | (cases h; exact hq)
      | go a => 
        cases X with | nrm => exact hq.elim | ret => exact hq.elim | ext i => ?_
        obtain ⟨rfl, he, hp⟩ := hq
        dsimp only at h
        refine Run.clrE (ts := [2, 5, 6, 7, 17, 18, 19, 20, 21, 22, 23, 24, 25, 26, 27, 28, 29, 30, 31, 32, 33, 34, 35, 36, 37, 38, 39, 40, 41, 42, 43, 44, 45, 46, 47, 48, 49, 50, 51, 52, 53, 54, 55, 56, 57, 58, 59, 60, 61, 62, 63, 64, 65, 66, 67, 68, 69, 70, 71, 72, 73, 74, 75, 76, 77, 78]) (b := (.rgn i85r33)) (Q := (stp [2, 5, 6, 7, 10, 11, 12, 13, 14, 15, 16, 17, 18, 19, 20, 21, 22, 23, 24, 25, 26, 27, 28, 29, 30, 31, 32, 33, 34, 35, 36, 37, 38, 39, 40, 41, 42, 43, 44, 45, 46, 47, 48, 49, 50, 51, 52, 53, 54, 55, 56, 57, 58, 59, 60, 61, 62, 63, 64, 65, 66, 67, 68, 69, 70, 71, 72, 73, 74, 75, 76, 77, 78] (I85_1 x0 y10049 L) (RR85 L) (J85_1 x0 y10049 L) t)) he ?_
        refine Run.rgn ?_
        refine Ro.t 3 ?_
        refine RunO.nil ?_
        have h := Option.some.inj h; subst h
        show I85_1 x0 y10049 L _ _ _
        exact ⟨(by kernel_rfl), hp⟩
  · rw [ite_f h10242] at h; refine Rn.f h10242 ?_
    refine Run.exit ?_
    have h := Option.some.inj h; subst h
    show J85_1 x0 y10049 L () _ _ _
    exact ⟨rfl, (by kernel_rfl), hp⟩

def F85 (x0 : T_Graph) : Option Bool :=
  (F20 x0).bind fun y10049 =>
  (iter (fun s : (Int) => F85_1_b x0 y10049 s) FUEL ((0 : Int))).bind fun o => match o with
  | .ret r => some r
  | .go () =>
    some true

theorem w85 {x0 : T_Graph} {r : Bool} (h : F85 x0 = some r) {H : Heap} {L : List Ob} (hp : HP H (L)) : Fn T 85 [(E_Graph.e x0)] H (Q85 L r) := by
  refine Fn.enterE t85 (e0 := (mkE [(0, (E_Graph.e x0))] 78)) (by kernel_rfl) ?_
  show Run T (.clr [] i85n43) _ _ (finE none [2] (Q85 L r))
  refine Rn.k (mkE [(0, (E_Graph.e x0))] 78) ?_
  unfold F85 at h
  refine Rn.g ?_
  refine Ro.t 2 ?_
  refine Ro.d (mkE [(1, (V.fp (E_Graph.e x0)))] 77) ?_
  refine Rn.g ?_
  refine Ro.t 1 ?_
  obtain ⟨y10049, h10050, h⟩ := bind_some h
  refine RunO.c2 (by kernel_rfl) (by kernel_rfl) (by kernel_rfl) (c20 h10050) ?_
  refine Ro.t 1 ?_
  refine Ro.d (mkE [(1, (V.fp (E_Graph.e x0))), (1, (V.fz (List.map (EL (EI .i64)).e y10049)))] 75) ?_
  refine Run.seq ?_
  refine Rn.g ?_
  refine Ro.t 1 ?_
  refine Ro.d (mkE [(1, (V.fp (E_Graph.e x0))), (1, (V.fz (List.map (EL (EI .i64)).e y10049))), (0, (i6 (0 : Int)))] 74) ?_
  refine Run.block ?_
  obtain ⟨o, h10472, h⟩ := bind_some h
  refine (Run.iter (I := I85_1 x0 y10049 L) (RR := RR85 L) (J := J85_1 x0 y10049 L) (fun s e h' t hI hf => ?_) FUEL h10472 (by exact ⟨(by kernel_rfl), hp⟩)).mono ?_
  · obtain ⟨rfl, hp⟩ := hI; exact w85_1_b hf hp
  · rintro X e' H hq
    cases o with
    | ret r => cases X <;> first | exact hq.elim | (cases h; exact hq)
    | go a => 
      cases X with | nrm => exact hq.elim | ret => exact hq.elim | ext i => ?_
      obtain ⟨rfl, he, hp⟩ := hq
      dsimp only at h
      refine Run.clrE (ts := [1, 2, 3, 4, 5, 6, 7, 10, 11, 12, 13, 14, 15, 16, 17, 18, 19, 20, 21, 22, 23, 24, 25, 26, 27, 28, 29, 30, 31, 32, 33, 34, 35, 36, 37, 38, 39, 40, 41, 42, 43, 44, 45, 46, 47, 48, 49, 50, 51, 52, 53, 54, 55, 56, 57, 58, 59, 60, 61, 62, 63, 64, 65, 66, 67, 68, 69, 70, 71, 72, 73, 74, 75, 76, 77, 78]) (b := i85n40) (Q := (finE none [2] (Q85 L r))) he ?_
      refine Rn.g ?_
      refine Ro.t 1 ?_
      refine Ro.d (mkE [(2, (V.bool true))] 76) ?_
      refine Run.ret ?_
      have h := Option.some.inj h; subst h
      exact ⟨(V.bool true), (by kernel_rfl), (by kernel_rfl), hp⟩

theorem c85 {x0 : T_Graph} {r : Bool} (h : F85 x0 = some r) (s : Bool) : Fn T 85 [(E_Graph.e x0)] [] (fun v hh => deep s hh deepN v = some (EB.e r)) := by
  refine (w85 h HP.nil).mono ?_
  rintro v hh ⟨rfl, hp⟩
  exact EB.hd s hh 38 _ (.inr rfl)

/- smithy/smithyref07.Alone -/
abbrev Q62 (L : List Ob) (r : Bool) : V → Heap → Prop := fun v h => v = EB.e r ∧ HP h (L)
abbrev RR62 (L : List Ob) (r : Bool) : List V → Heap → Prop := fun e h => endR none [2] (Q62 L r) e h

abbrev I62_1 (x0 : T_Graph) (L : List Ob) : (Int) → List V → Heap → Prop := fun s e h => e = (mkE [(1, (V.fp (E_Graph.e x0))), (1, (i6 s))] 45) ∧ HP h (L)

abbrev J62_1 (x0 : T_Graph) (L : List Ob) : Unit → Nat → List V → Heap → Prop := fun a i e h => i = 0 ∧ clrEnv [2, 3, 4, 8, 9, 10, 11, 12, 13, 14, 15, 16, 17, 18, 19, 20, 21, 22, 23, 24, 25, 26, 27, 28, 29, 30, 31, 32, 33, 34, 35, 36, 37, 38, 39, 40, 41, 42, 43, 44, 45, 46] e = (mkE [(1, (V.fp (E_Graph.e x0)))] 47) ∧ HP h (L)

abbrev I62_2 (x0 : T_Graph) (y10585 : Int) (L : List Ob) : (Int) → List V → Heap → Prop := fun s e h => e = (mkE [(1, (V.fp (E_Graph.e x0))), (1, (i6 y10585)), (0, (i6 s))] 44) ∧ HP h (L)

abbrev J62_2 (x0 : T_Graph) (y10585 : Int) (L : List Ob) : Unit → Nat → List V → Heap → Prop := fun a i e h => i = 2 ∧ clrEnv [2, 4, 15, 16, 17, 18, 19, 20, 21, 22, 23, 24, 25, 26, 27, 28, 29, 30, 31, 32, 33, 34, 35, 36, 37, 38, 39, 40, 41, 42, 43, 44, 45, 46] e = (mkE [(1, (V.fp (E_Graph.e x0))), (1, (i6 y10585))] 45) ∧ HP h (L)

def F62_2_b (x0 : T_Graph) (y10585 : Int) (y10773 : Int) : Option (Stp (Int) Bool Unit) :=
  (idx x0.fBlocks y10585).bind fun y10797 =>
  if (decide (y10773 < ((List.length y10797.fIns : Nat) : Int))) then
    (idx x0.fBlocks y10585).bind fun y10807 =>
    (idx y10807.fIns y10773).bind fun y10809 =>
    (F84 x0 y10809).bind fun y10811 =>
    if (!y10811) then
      some (.ret false)
    else
      some (.next ((IntKind.i64.wrap (y10773 + (1 : Int)))))
  else
    some (.go ())

theorem w62_2_b {x0 : T_Graph} {y10585 : Int} {y10773 : Int} {t : (Stp (Int) Bool Unit)} (h : F62_2_b x0 y10585 y10773 = some t) {H : Heap} {L : List Ob} (hp : HP H (L)) :
    Run T i62n27 (mkE [(1, (V.fp (E_Graph.e x0))), (1, (i6 y10585)), (0, (i6 y10773))] 44) H (stp [2, 24, 25, 26, 27, 28, 29, 30, 31, 32, 33, 34, 35, 36, 37, 38, 39, 40, 41, 42, 43, 44, 45, 46] (I62_2 x0 y10585 L) (RR62 L) (J62_2 x0 y10585 L) t) := by
  unfold F62_2_b at h
  refine Run.seq ?_
  refine Rn.g ?_
  refine Ro.t 4 ?_
  obtain ⟨y10797, h10798, h⟩ := bind_some h
  refine Ro.p (idx_fz E_Block .i64 h10798) ?_
  refine Ro.t 2 ?_
  refine Ro.p (len_fz E_Ins y10797.fIns) ?_
  refine Ro.t 1 ?_
  refine Ro.d (mkE [(1, (V.fp (E_Graph.e x0))), (1, (i6 y10585)), (0, (i6 y10773)), (27, (V.bool (decide (y10773 < (ln y10797.fIns)))))] 16) ?_
  rcases tf (decide (y10773 < (ln y10797.fIns))) with h10799 | h10799
  · rw [ite_t h10799] at h; refine Rn.t h10799 ?_
    refine Run.skip ?_
    refine Rn.c (mkE [(1, (V.fp (E_Graph.e x0))), (1, (i6 y10585)), (0, (i6 y10773))] 44) ?_
    refine Run.seq ?_
    refine Run.block ?_
    refine Rn.g ?_
    refine Ro.t 4 ?_
    obtain ⟨y10807, h10808, h⟩ := bind_some h
    refine Ro.p (idx_fz E_Block .i64 h10808) ?_
    refine Ro.t 3 ?_
    obtain ⟨y10809, h10810, h⟩ := bind_some h
    refine Ro.p (idx_fz E_Ins .i64 h10810) ?_
    refine Ro.t 1 ?_
    obtain ⟨y10811, h10812, h⟩ := bind_some h
    refine RunO.c1 (by kernel_rfl) (by kernel_rfl) (c84 h10812 _) ?_
    refine Ro.t 1 ?_
    refine Ro.d (mkE [(1, (V.fp (E_Graph.e x0))), (1, (i6 y10585)), (0, (i6 y10773)), (41, (V.bool (!y10811)))] 2) ?_
    rcases tf (!y10811) with h10813 | h10813
    · rw [ite_t h10813] at h; refine Rn.t h10813 ?_
      refine Rn.g ?_
      refine Ro.t 1 ?_
      refine Ro.d (mkE [(2, (V.bool false))] 46) ?_
      refine Run.ret ?_
      have h := Option.some.inj h; subst h
      show RR62 L _ _ _
      exact ⟨(V.bool false), (by kernel_rfl), (by kernel_rfl), hp⟩
    · rw [ite_f h10813] at h; refine Rn.f h10813 ?_
      refine Run.skip ?_
      refine Run.clrE (ts := [2, 35, 36, 37, 38, 39, 40, 41, 42, 43, 44, 45, 46]) (b := (.rgn i62r25)) (Q := (stp [2, 24, 25, 26, 27, 28, 29, 30, 31, 32, 33, 34, 35, 36, 37, 38, 39, 40, 41, 42, 43, 44, 45, 46] (I62_2 x0 y10585 L) (RR62 L) (J62_2 x0 y10585 L) t)) (e' := (mkE [(1, (V.fp (E_Graph.e x0))), (1, (i6 y10585)), (0, (i6 y10773))] 44)) (by kernel_rfl) ?_
      refine Run.rgn ?_
      refine Ro.t 3 ?_
      refine RunO.nil ?_
      have h := Option.some.inj h; subst h
      show I62_2 x0 y10585 L _ _ _
      exact ⟨(by kernel_rfl), hp⟩
  · rw [ite_f h10799] at h; refine Rn.f h10799 ?_
    refine Run.exit ?_
    have h := Option.some.inj h; subst h
    show J62_2 x0 y10585 L () _ _ _
    exact ⟨rfl, (by kernel_rfl), hp⟩

def F62_1_b (x0 : T_Graph) (y10585 : Int) : Option (Stp (Int) Bool Unit) :=
  if (decide (y10585 < ((List.length x0.fBlocks : Nat) : Int))) then
    (idx x0.fBlocks y10585).bind fun y10748 =>
    (F83 x0 y10748.fTerm).bind fun y10750 =>
    if (!y10750) then
      some (.ret false)
    else
      (iter (fun s : (Int) => F62_2_b x0 y10585 s) FUEL ((0 : Int))).bind fun o => match o with
      | .ret r => some (.ret r)
      | .go () =>
        some (.next ((IntKind.i64.wrap (y10585 + (1 : Int)))))
  else
    some (.go ())

theorem w62_1_b {x0 : T_Graph} {y10585 : Int} {t : (Stp (Int) Bool Unit)} (h : F62_1_b x0 y10585 = some t) {H : Heap} {L : List Ob} (hp : HP H (L)) :
    Run T i62n35 (mkE [(1, (V.fp (E_Graph.e x0))), (1, (i6 y10585))] 45) H (stp [2, 4, 8, 9, 10, 11, 12, 13, 14, 15, 16, 17, 18, 19, 20, 21, 22, 23, 24, 25, 26, 27, 28, 29, 30, 31, 32, 33, 34, 35, 36, 37, 38, 39, 40, 41, 42, 43, 44, 45, 46] (I62_1 x0 L) (RR62 L) (J62_1 x0 L) t) := by
  unfold F62_1_b at h
  refine Run.seq ?_
  refine Rn.g ?_
  refine Ro.t 3 ?_
  refine Ro.p (len_fz E_Block x0.fBlocks) ?_
  refine Ro.t 1 ?_
  refine Ro.d (mkE [(1, (V.fp (E_Graph.e x0))), (1, (i6 y10585)), (8, (V.bool (decide (y10585 < (ln x0.fBlocks)))))] 36) ?_
  rcases tf (decide (y10585 < (ln x0.fBlocks))) with h10691 | h10691
  · rw [ite_t h10691] at h; refine Rn.t h10691 ?_
    refine Run.skip ?_
    refine Rn.c (mkE [(1, (V.fp (E_Graph.e x0))), (1, (i6 y10585))] 45) ?_
    refine Run.seq ?_
    refine Run.block ?_
    refine Run.seq ?_
    refine Rn.g ?_
    refine Ro.t 4 ?_
    obtain ⟨y10748, h10749, h⟩ := bind_some h
    refine Ro.p (idx_fz E_Block .i64 h10749) ?_
    refine Ro.t 2 ?_
    obtain ⟨y10750, h10751, h⟩ := bind_some h
    refine RunO.c1 (by kernel_rfl) (by kernel_rfl) (c83 h10751 _) ?_
    refine Ro.t 1 ?_
    refine Ro.d (mkE [(1, (V.fp (E_Graph.e x0))), (1, (i6 y10585)), (19, (V.bool (!y10750)))] 25) ?_
    rcases tf (!y10750) with h10752 | h10752
    · rw [ite_t h10752] at h; refine Rn.t h10752 ?_
      refine Rn.g ?_
      refine Ro.t 1 ?_
      refine Ro.d (mkE [(2, (V.bool false))] 46) ?_
      refine Run.ret ?_
      have h := Option.some.inj h; subst h
      show RR62 L _ _ _
      exact ⟨(V.bool false), (by kernel_rfl), (by kernel_rfl), hp⟩
    · rw [ite_f h10752] at h; refine Rn.f h10752 ?_
      refine Run.skip ?_
      refine Rn.c (mkE [(1, (V.fp (E_Graph.e x0))), (1, (i6 y10585))] 45) ?_
      refine Rn.g ?_
      refine Ro.t 1 ?_
      refine Ro.d (mkE [(1, (V.fp (E_Graph.e x0))), (1, (i6 y10585)), (0, (i6 (0 : Int)))] 44) ?_
      refine Run.block ?_
      obtain ⟨o, h10814, h⟩ := bind_some h
      refine (Run.iter (I := I62_2 x0 y10585 L) (RR := RR62 L) (J := J62_2 x0 y10585 L) (fun s e h' t hI hf => ?_) FUEL h10814 (by exact ⟨(by kernel_rfl), hp⟩)).mono ?_
      · obtain ⟨rfl, hp⟩ := hI; exact w62_2_b hf hp
      · rintro X e' H hq
        cases o with
        | ret r => cases X <;> first | exact hq.elim | (cases h; exact hq)
        | go a => 
          cases X with | nrm => exact hq.elim | ret => exact hq.elim | ext i => ?_
          obtain ⟨rfl, he, hp⟩ := hq
          dsimp only at h
          refine Run.clrE (ts := [2, 4, 15, 16, 17, 18, 19, 20, 21, 22, 23, 24, 25, 26, 27, 28, 29, 30, 31, 32, 33, 34, 35, 36, 37, 38, 39, 40, 41, 42, 43, 44, 45, 46]) (b := (.rgn i62r33)) (Q := (stp [2, 4, 8, 9, 10, 11, 12, 13, 14, 15, 16, 17, 18, 19, 20, 21, 22, 23, 24, 25, 26, 27, 28, 29, 30, 31, 32, 33, 34, 35, 36, 37, 38, 39, 40, 41, 42, 43, 44, 45, 46] (I62_1 x0 L) (RR62 L) (J62_1 x0 L) t)) he ?_
          refine Run.rgn ?_
          refine Ro.t 3 ?_
          refine RunO.nil ?_
          have h := Option.some.inj h; subst h
          show I62_1 x0 L _ _ _
          exact ⟨(by kernel_rfl), hp⟩
  · rw [ite_f h10691] at h; refine Rn.f h10691 ?_
    refine Run.exit ?_
    have h := Option.some.inj h; subst h
    show J62_1 x0 L () _ _ _
    exact ⟨rfl, (by kernel_rfl), hp⟩

def F62 (x0 : T_Graph) : Option Bool :=
  (F82 x0).bind fun y10478 =>
  if (!y10478) then
    some false
  else
    (iter (fun s : (Int) => F62_1_b x0 s) FUEL ((0 : Int))).bind fun o => match o with
    | .ret r => some r
    | .go () =>
      (F85 x0).bind fun y10816 =>
      some y10816

theorem w62 {x0 : T_Graph} {r : Bool} (h : F62 x0 = some r) {H : Heap} {L : List Ob} (hp : HP H (L)) : Fn T 62 [(E_Graph.e x0)] H (Q62 L r) := by
  refine Fn.enterE t62 (e0 := (mkE [(0, (E_Graph.e x0))] 48)) (by kernel_rfl) ?_
  show Run T (.clr [] i62n43) _ _ (finE none [2] (Q62 L r))
  refine Rn.k (mkE [(0, (E_Graph.e x0))] 48) ?_
  unfold F62 at h
  refine Rn.g ?_
  refine Ro.t 2 ?_
  refine Ro.d (mkE [(1, (V.fp (E_Graph.e x0)))] 47) ?_
  refine Run.seq ?_
  refine Rn.g ?_
  refine Ro.t 1 ?_
  obtain ⟨y10478, h10479, h⟩ := bind_some h
  refine RunO.c1 (by kernel_rfl) (by kernel_rfl) (c82 h10479 _) ?_
  refine Ro.t 1 ?_
  refine Ro.d (mkE [(1, (V.fp (E_Graph.e x0))), (5, (V.bool (!y10478)))] 41) ?_
  rcases tf (!y10478) with h10480 | h10480
  · rw [ite_t h10480] at h; refine Rn.t h10480 ?_
    refine Rn.g ?_
    refine Ro.t 1 ?_
    refine Ro.d (mkE [(2, (V.bool false))] 46) ?_
    refine Run.ret ?_
    have h := Option.some.inj h; subst h
    exact ⟨(V.bool false), (by kernel_rfl), (by kernel_rfl), hp⟩
  · rw [ite_f h10480] at h; refine Rn.f h10480 ?_
    refine Run.skip ?_
    refine Rn.c (mkE [(1, (V.fp (E_Graph.e x0)))] 47) ?_
    refine Run.seq ?_
    refine Rn.g ?_
    refine Ro.t 1 ?_
    refine Ro.d (mkE [(1, (V.fp (E_Graph.e x0))), (1, (i6 (0 : Int)))] 45) ?_
    refine Run.block ?_
    obtain ⟨o, h10815, h⟩ := bind_some h
    refine (Run.iter (I := I62_1 x0 L) (RR := RR62 L) (J := J62_1 x0 L) (fun s e h' t hI hf => ?_) FUEL h10815 (by exact ⟨(by kernel_rfl), hp⟩)).mono ?_
    · obtain ⟨rfl, hp⟩ := hI; exact w62_1_b hf hp
    · rintro X e' H hq
      cases o with
      | ret r => cases X <;> first | exact hq.elim | (cases h; exact hq)
      | go a => 
        cases X with | nrm => exact hq.elim | ret => exact hq.elim | ext i => ?_
        obtain ⟨rfl, he, hp⟩ := hq
        dsimp only at h
        refine Run.clrE (ts := [2, 3, 4, 8, 9, 10, 11, 12, 13, 14, 15, 16, 17, 18, 19, 20, 21, 22, 23, 24, 25, 26, 27, 28, 29, 30, 31, 32, 33, 34, 35, 36, 37, 38, 39, 40, 41, 42, 43, 44, 45, 46]) (b := i62n40) (Q := (finE none [2] (Q62 L r))) he ?_
        refine Rn.g ?_
        refine Ro.t 1 ?_
        obtain ⟨y10816, h10817, h⟩ := bind_some h
        refine RunO.c1 (by kernel_rfl) (by kernel_rfl) (c85 h10817 _) ?_
        refine Ro.t 1 ?_
        refine Ro.d (mkE [(2, (V.bool y10816))] 46) ?_
        refine Run.ret ?_
        have h := Option.some.inj h; subst h
        exact ⟨(V.bool y10816), (by kernel_rfl), (by kernel_rfl), hp⟩

theorem c62 {x0 : T_Graph} {r : Bool} (h : F62 x0 = some r) (s : Bool) : Fn T 62 [(E_Graph.e x0)] [] (fun v hh => deep s hh deepN v = some (EB.e r)) := by
  refine (w62 h HP.nil).mono ?_
  rintro v hh ⟨rfl, hp⟩
  exact EB.hd s hh 38 _ (.inr rfl)

/- smithy/smithyref07.called -/
abbrev Q63 (L : List Ob) (r : Bool) : V → Heap → Prop := fun v h => v = EB.e r ∧ HP h (L)
abbrev RR63 (L : List Ob) (r : Bool) : List V → Heap → Prop := fun e h => endR none [6] (Q63 L r) e h

abbrev I63_1 (x1 : T_Graph) (x2 : T_Ins) (y10911 : T_Graph) (b10913 : Nat) (L : List Ob) : (Int) → List V → Heap → Prop := fun s e h => e = (mkE [(4, (V.fp (E_Graph.e x1))), (0, (V.fp (E_Ins.e x2))), (1, (V.ptr b10913 0 0)), (0, (i6 s))] 62) ∧ HP h ((some (b10913, 0), [(ES.e y10911.fName), (Zl (EI .i64) y10911.fParams), (V.int .u8 y10911.fResult), (Zl (EI .u8) y10911.fVars), (Zl E_Array y10911.fArrays), (Zl E_Block y10911.fBlocks)]) :: L)

abbrev J63_1 (x1 : T_Graph) (x2 : T_Ins) (y10911 : T_Graph) (b10913 : Nat) (L : List Ob) : Unit → Nat → List V → Heap → Prop := fun a i e h => i = 0 ∧ clrEnv [4, 5, 6, 7, 8, 45, 46, 47, 48, 49, 50, 51, 52, 53, 54, 55, 56, 57, 58, 59, 60, 61, 62, 63, 64, 65, 66, 67, 68, 69, 70] e = (mkE [] 71) ∧ HP h (L)

def F63_1_b (x1 : T_Graph) (x2 : T_Ins) (y10911 : T_Graph) (y10948 : Int) : Option (Stp (Int) Bool Unit) :=
  if (decide (y10948 < ((List.length x2.fArgs : Nat) : Int))) then
    (idx x2.fArgs y10948).bind fun y10980 =>
    (idx x1.fVars y10980).bind fun y10982 =>
    (idx y10911.fParams y10948).bind fun y10984 =>
    (idx y10911.fVars y10984).bind fun y10986 =>
    if (y10982 != y10986) then
      some (.ret false)
    else
      some (.next ((IntKind.i64.wrap (y10948 + (1 : Int)))))
  else
    some (.go ())

theorem w63_1_b {x1 : T_Graph} {x2 : T_Ins} {y10911 : T_Graph} {y10948 : Int} {t : (Stp (Int) Bool Unit)} (h : F63_1_b x1 x2 y10911 y10948 = some t) {b10913 : Nat} {H : Heap} {L : List Ob} (hp : HP H ((some (b10913, 0), [(ES.e y10911.fName), (Zl (EI .i64) y10911.fParams), (V.int .u8 y10911.fResult), (Zl (EI .u8) y10911.fVars), (Zl E_Array y10911.fArrays), (Zl E_Block y10911.fBlocks)]) :: L)) :
    Run T i63n24 (mkE [(4, (V.fp (E_Graph.e x1))), (0, (V.fp (E_Ins.e x2))), (1, (V.ptr b10913 0 0)), (0, (i6 y10948))] 62) H (stp [6, 45, 46, 47, 48, 49, 50, 51, 52, 53, 54, 55, 56, 57, 58, 59, 60, 61, 62, 63, 64, 65, 66, 67, 68, 69, 70] (I63_1 x1 x2 y10911 b10913 L) (RR63 L) (J63_1 x1 x2 y10911 b10913 L) t) := by
  unfold F63_1_b at h
  refine Run.seq ?_
  refine Rn.g ?_
  refine Ro.t 3 ?_
  refine Ro.p (len_fz (EI .i64) x2.fArgs) ?_
  refine Ro.t 1 ?_
  refine Ro.d (mkE [(4, (V.fp (E_Graph.e x1))), (0, (V.fp (E_Ins.e x2))), (1, (V.ptr b10913 0 0)), (0, (i6 y10948)), (40, (V.bool (decide (y10948 < (ln x2.fArgs)))))] 21) ?_
  rcases tf (decide (y10948 < (ln x2.fArgs))) with h10970 | h10970
  · rw [ite_t h10970] at h; refine Rn.t h10970 ?_
    refine Run.skip ?_
    refine Rn.c (mkE [(4, (V.fp (E_Graph.e x1))), (0, (V.fp (E_Ins.e x2))), (1, (V.ptr b10913 0 0)), (0, (i6 y10948))] 62) ?_
    refine Run.seq ?_
    refine Run.block ?_
    refine Rn.g ?_
    refine Ro.t 5 ?_
    obtain ⟨y10980, h10981, h⟩ := bind_some h
    refine Ro.p (idx_fz (EI .i64) .i64 h10981) ?_
    refine Ro.t 1 ?_
    obtain ⟨y10982, h10983, h⟩ := bind_some h
    refine Ro.p (idx_fz (EI .u8) .i64 h10983) ?_
    refine Ro.t 2 ?_
    refine Ro.p (hp.ld 0 (off := 3) (n := none) (v := (Zl (EI .u8) y10911.fVars)) rfl (by kernel_rfl)) ?_
    refine Ro.t 1 ?_
    refine Ro.p (hp.ld 0 (off := 1) (n := none) (v := (Zl (EI .i64) y10911.fParams)) rfl (by kernel_rfl)) ?_
    refine Ro.t 1 ?_
    obtain ⟨y10984, h10985, h⟩ := bind_some h
    refine Ro.p (idx_fz (EI .i64) .i64 h10985) ?_
    refine Ro.t 1 ?_
    obtain ⟨y10986, h10987, h⟩ := bind_some h
    refine Ro.p (idx_fz (EI .u8) .i64 h10987) ?_
    refine Ro.t 2 ?_
    refine Ro.d (mkE [(4, (V.fp (E_Graph.e x1))), (0, (V.fp (E_Ins.e x2))), (1, (V.ptr b10913 0 0)), (0, (i6 y10948)), (61, (V.bool (y10982 != y10986)))] 0) ?_
    rcases tf (y10982 != y10986) with h10988 | h10988
    · rw [ite_t h10988] at h; refine Rn.t h10988 ?_
      refine Rn.g ?_
      refine Ro.t 1 ?_
      refine Ro.d (mkE [(6, (V.bool false))] 64) ?_
      refine Run.ret ?_
      have h := Option.some.inj h; subst h
      show RR63 L _ _ _
      have hp := hp.del 0
      exact ⟨(V.bool false), (by kernel_rfl), (by kernel_rfl), hp⟩
    · rw [ite_f h10988] at h; refine Rn.f h10988 ?_
      refine Run.skip ?_
      refine Run.clrE (ts := [6, 52, 53, 54, 55, 56, 57, 58, 59, 60, 61, 62, 63, 64, 65, 66, 67, 68, 69, 70]) (b := (.rgn i63r22)) (Q := (stp [6, 45, 46, 47, 48, 49, 50, 51, 52, 53, 54, 55, 56, 57, 58, 59, 60, 61, 62, 63, 64, 65, 66, 67, 68, 69, 70] (I63_1 x1 x2 y10911 b10913 L) (RR63 L) (J63_1 x1 x2 y10911 b10913 L) t)) (e' := (mkE [(4, (V.fp (E_Graph.e x1))), (0, (V.fp (E_Ins.e x2))), (1, (V.ptr b10913 0 0)), (0, (i6 y10948))] 62)) (by kernel_rfl) ?_
      refine Run.rgn ?_
      refine Ro.t 3 ?_
      refine RunO.nil ?_
      have h := Option.some.inj h; subst h
      show I63_1 x1 x2 y10911 b10913 L _ _ _
      exact ⟨(by kernel_rfl), hp⟩
  · rw [ite_f h10970] at h; refine Rn.f h10970 ?_
    refine Run.exit ?_
    have h := Option.some.inj h; subst h
    have hp := hp.del 0
    show J63_1 x1 x2 y10911 b10913 L () _ _ _
    exact ⟨rfl, (by kernel_rfl), hp⟩

def F63 (x0 : (List T_Graph)) (x1 : T_Graph) (x2 : T_Ins) : Option Bool :=
  (F38 x2.fRef ((List.length x0 : Nat) : Int)).bind fun y10908 =>
  if (!y10908) then
    some false
  else
    (idx x0 x2.fRef).bind fun y10911 =>
    if (((List.length y10911.fParams : Nat) : Int) != ((List.length x2.fArgs : Nat) : Int)) then
      some false
    else
      (F86 y10911 y10911.fParams).bind fun y10922 =>
      if y10922 then
        (idx x1.fVars x2.fDst).bind fun y10925 =>
        if (y10925 != y10911.fResult) then
          some false
        else
          (iter (fun s : (Int) => F63_1_b x1 x2 y10911 s) FUEL ((0 : Int))).bind fun o => match o with
          | .ret r => some r
          | .go () =>
            some true
      else
        some false

theorem w63 {x0 : (List T_Graph)} {x1 : T_Graph} {x2 : T_Ins} {r : Bool} (h : F63 x0 x1 x2 = some r) {H : Heap} {L : List Ob} (hp : HP H (L)) : Fn T 63 [(Zl E_Graph x0), (E_Graph.e x1), (E_Ins.e x2)] H (Q63 L r) := by
  refine Fn.enterE t63 (e0 := (mkE [(0, (Zl E_Graph x0)), (0, (E_Graph.e x1)), (0, (E_Ins.e x2))] 68)) (by kernel_rfl) ?_
  show Run T (.clr [] i63n34) _ _ (finE none [6] (Q63 L r))
  refine Rn.k (mkE [(0, (Zl E_Graph x0)), (0, (E_Graph.e x1)), (0, (E_Ins.e x2))] 68) ?_
  unfold F63 at h
  refine Rn.g ?_
  refine Ro.t 3 ?_
  refine Ro.d (mkE [(0, (Zl E_Graph x0)), (3, (V.fp (E_Graph.e x1))), (0, (V.fp (E_Ins.e x2)))] 65) ?_
  refine Run.seq ?_
  refine Rn.g ?_
  refine Ro.t 3 ?_
  refine Ro.p (len_fz E_Graph x0) ?_
  obtain ⟨y10908, h10909, h⟩ := bind_some h
  refine RunO.c1 (by kernel_rfl) (by kernel_rfl) (c38 h10909 _) ?_
  refine Ro.t 1 ?_
  refine Ro.d (mkE [(0, (Zl E_Graph x0)), (3, (V.fp (E_Graph.e x1))), (0, (V.fp (E_Ins.e x2))), (8, (V.bool (!y10908)))] 56) ?_
  rcases tf (!y10908) with h10910 | h10910
  · rw [ite_t h10910] at h; refine Rn.t h10910 ?_
    refine Rn.g ?_
    refine Ro.t 1 ?_
    refine Ro.d (mkE [(6, (V.bool false))] 64) ?_
    refine Run.ret ?_
    have h := Option.some.inj h; subst h
    exact ⟨(V.bool false), (by kernel_rfl), (by kernel_rfl), hp⟩
  · rw [ite_f h10910] at h; refine Rn.f h10910 ?_
    refine Run.skip ?_
    refine Rn.c (mkE [(0, (Zl E_Graph x0)), (3, (V.fp (E_Graph.e x1))), (0, (V.fp (E_Ins.e x2)))] 65) ?_
    refine Rn.g ?_
    refine Ro.t 3 ?_
    obtain ⟨y10911, h10912, h⟩ := bind_some h
    refine Ro.p (idx_fz E_Graph .i64 h10912) ?_
    refine Ro.t 1 ?_
    refine RunO.alloc hp (by kernel_rfl) ?_
    intro b10913 H hp
    have hp : HP H ((some (b10913, 0), [(ES.e ([] : List UInt8)), (V.fz (List.map (EI .i64).e ([] : List Int))), (V.int .u8 (0 : Int)), (V.fz (List.map (EI .u8).e ([] : List Int))), (V.fz (List.map E_Array.e ([] : List T_Array))), (V.fz (List.map E_Block.e ([] : List T_Block)))]) :: L) := hp
    refine RunO.st hp (by kernel_rfl) 0 (off := 0) (v := (E_Graph.e y10911)) (cs' := [(ES.e y10911.fName), (Zl (EI .i64) y10911.fParams), (V.int .u8 y10911.fResult), (Zl (EI .u8) y10911.fVars), (Zl E_Array y10911.fArrays), (Zl E_Block y10911.fBlocks)]) rfl (by kernel_rfl) (by kernel_rfl) (by kernel_rfl) ?_
    intro H hp
    refine Ro.d (mkE [(4, (V.fp (E_Graph.e x1))), (0, (V.fp (E_Ins.e x2))), (1, (V.ptr b10913 0 0))] 63) ?_
    refine Run.seq ?_
    refine Rn.g ?_
    refine Ro.t 1 ?_
    refine Ro.p (hp.ld 0 (off := 1) (n := none) (v := (Zl (EI .i64) y10911.fParams)) rfl (by kernel_rfl)) ?_
    refine Ro.p (len_fz (EI .i64) y10911.fParams) ?_
    refine Ro.t 2 ?_
    refine Ro.p (len_fz (EI .i64) x2.fArgs) ?_
    rcases tf ((ln y10911.fParams) != (ln x2.fArgs)) with h10921 | h10921
    · rw [ite_t h10921] at h; refine Ro.p (bool_of h10921) ?_
      refine Ro.t 18 ?_
      refine Ro.d (mkE [(4, (V.fp (E_Graph.e x1))), (0, (V.fp (E_Ins.e x2))), (1, (V.ptr b10913 0 0)), (36, (V.bool true))] 26) ?_
      refine Run.condT (by kernel_rfl) ?_
      refine Rn.g ?_
      refine Ro.t 1 ?_
      refine Ro.d (mkE [(6, (V.bool false))] 64) ?_
      refine Run.ret ?_
      have h := Option.some.inj h; subst h
      have hp := hp.del 0
      exact ⟨(V.bool false), (by kernel_rfl), (by kernel_rfl), hp⟩
    · rw [ite_f h10921] at h; refine Ro.p (bool_of h10921) ?_
      refine Ro.t 1 ?_
      refine Ro.p (hp.ld 0 (off := 0) (n := (some 6)) (v := (E_Graph.e y10911)) rfl (by kernel_rfl)) ?_
      refine Ro.t 1 ?_
      refine Ro.p (hp.ld 0 (off := 1) (n := none) (v := (Zl (EI .i64) y10911.fParams)) rfl (by kernel_rfl)) ?_
      obtain ⟨y10922, h10923, h⟩ := bind_some h
      rcases tf y10922 with h10924 | h10924
      · subst h10924; rw [if_pos rfl] at h
        refine RunO.c1 (by kernel_rfl) (by kernel_rfl) (c86 h10923 _) ?_
        refine Ro.t 7 ?_
        obtain ⟨y10925, h10926, h⟩ := bind_some h
        refine Ro.p (idx_fz (EI .u8) .i64 h10926) ?_
        refine Ro.t 2 ?_
        refine Ro.p (hp.ld 0 (off := 2) (n := none) (v := (V.int .u8 y10911.fResult)) rfl (by kernel_rfl)) ?_
        refine Ro.t 2 ?_
        refine Ro.d (mkE [(4, (V.fp (E_Graph.e x1))), (0, (V.fp (E_Ins.e x2))), (1, (V.ptr b10913 0 0)), (36, (V.bool (y10925 != y10911.fResult)))] 26) ?_
        rcases tf (y10925 != y10911.fResult) with h10927 | h10927
        · rw [ite_t h10927] at h; refine Rn.t h10927 ?_
          refine Rn.g ?_
          refine Ro.t 1 ?_
          refine Ro.d (mkE [(6, (V.bool false))] 64) ?_
          refine Run.ret ?_
          have h := Option.some.inj h; subst h
          have hp := hp.del 0
          exact ⟨(V.bool false), (by kernel_rfl), (by kernel_rfl), hp⟩
        · rw [ite_f h10927] at h; refine Rn.f h10927 ?_
          refine Run.skip ?_
          refine Rn.c (mkE [(4, (V.fp (E_Graph.e x1))), (0, (V.fp (E_Ins.e x2))), (1, (V.ptr b10913 0 0))] 63) ?_
          refine Run.seq ?_
          refine Rn.g ?_
          refine Ro.t 1 ?_
          refine Ro.d (mkE [(4, (V.fp (E_Graph.e x1))), (0, (V.fp (E_Ins.e x2))), (1, (V.ptr b10913 0 0)), (0, (i6 (0 : Int)))] 62) ?_
          refine Run.block ?_
          obtain ⟨o, h10989, h⟩ := bind_some h
          refine (Run.iter (I := I63_1 x1 x2 y10911 b10913 L) (RR := RR63 L) (J := J63_1 x1 x2 y10911 b10913 L) (fun s e h' t hI hf => ?_) FUEL h10989 (by exact ⟨(by kernel_rfl), hp⟩)).mono ?_
          · obtain ⟨rfl, hp⟩ := hI; exact w63_1_b hf hp
          · rintro X e' H hq
            cases o with
            | ret r => cases X <;> first | exact hq.elim | (cases h; exact hq)
            | go a => 
              cases X with | nrm => exact hq.elim | ret => exact hq.elim | ext i => ?_
              obtain ⟨rfl, he, hp⟩ := hq
              dsimp only at h
              refine Run.clrE (ts := [4, 5, 6, 7, 8, 45, 46, 47, 48, 49, 50, 51, 52, 53, 54, 55, 56, 57, 58, 59, 60, 61, 62, 63, 64, 65, 66, 67, 68, 69, 70]) (b := i63n29) (Q := (finE none [6] (Q63 L r))) he ?_
              refine Rn.g ?_
              refine Ro.t 1 ?_
              refine Ro.d (mkE [(6, (V.bool true))] 64) ?_
              refine Run.ret ?_
              have h := Option.some.inj h; subst h
              exact ⟨(V.bool true), (by kernel_rfl), (by kernel_rfl), hp⟩
      · subst h10924; rw [if_neg (by decide)] at h
        refine RunO.c1 (by kernel_rfl) (by kernel_rfl) (c86 h10923 _) ?_
        refine Ro.t 13 ?_
        refine Ro.d (mkE [(4, (V.fp (E_Graph.e x1))), (0, (V.fp (E_Ins.e x2))), (1, (V.ptr b10913 0 0)), (36, (V.bool true))] 26) ?_
        refine Run.condT (by kernel_rfl) ?_
        refine Rn.g ?_
        refine Ro.t 1 ?_
        refine Ro.d (mkE [(6, (V.bool false))] 64) ?_
        refine Run.ret ?_
        have h := Option.some.inj h; subst h
        have hp := hp.del 0
        exact ⟨(V.bool false), (by kernel_rfl), (by kernel_rfl), hp⟩

theorem c63 {x0 : (List T_Graph)} {x1 : T_Graph} {x2 : T_Ins} {r : Bool} (h : F63 x0 x1 x2 = some r) (s : Bool) : Fn T 63 [(Zl E_Graph x0), (E_Graph.e x1), (E_Ins.e x2)] [] (fun v hh => deep s hh deepN v = some (EB.e r)) := by
  refine (w63 h HP.nil).mono ?_
  rintro v hh ⟨rfl, hp⟩
  exact EB.hd s hh 38 _ (.inr rfl)

/- smithy/smithyref07.right -/
abbrev Q33 (L : List Ob) (r : Bool) : V → Heap → Prop := fun v h => v = EB.e r ∧ HP h (L)
abbrev RR33 (L : List Ob) (r : Bool) : List V → Heap → Prop := fun e h => endR none [4] (Q33 L r) e h

abbrev I33_1 (x0 : (List T_Graph)) (x1 : T_Graph) (L : List Ob) : (Int) → List V → Heap → Prop := fun s e h => e = (mkE [(0, (Zl E_Graph x0)), (2, (V.fp (E_Graph.e x1))), (1, (i6 s))] 48) ∧ HP h (L)

abbrev J33_1 (x0 : (List T_Graph)) (x1 : T_Graph) (L : List Ob) : Unit → Nat → List V → Heap → Prop := fun a i e h => i = 0 ∧ clrEnv [0, 3, 4, 5, 6, 10, 11, 12, 13, 14, 15, 16, 17, 18, 19, 20, 21, 22, 23, 24, 25, 26, 27, 28, 29, 30, 31, 32, 33, 34, 35, 36, 37, 38, 39, 40, 41, 42, 43, 44, 45, 46, 47, 48, 49, 50, 51, 52, 53] e = (mkE [] 54) ∧ HP h (L)

abbrev I33_2 (x0 : (List T_Graph)) (x1 : T_Graph) (y11169 : Int) (L : List Ob) : (Int) → List V → Heap → Prop := fun s e h => e = (mkE [(0, (Zl E_Graph x0)), (2, (V.fp (E_Graph.e x1))), (1, (i6 y11169)), (0, (i6 s))] 47) ∧ HP h (L)

abbrev J33_2 (x0 : (List T_Graph)) (x1 : T_Graph) (y11169 : Int) (L : List Ob) : Unit → Nat → List V → Heap → Prop := fun a i e h => i = 2 ∧ clrEnv [4, 6, 17, 18, 19, 20, 21, 22, 23, 24, 25, 26, 27, 28, 29, 30, 31, 32, 33, 34, 35, 36, 37, 38, 39, 40, 41, 42, 43, 44, 45, 46, 47, 48, 49, 50, 51, 52, 53] e = (mkE [(0, (Zl E_Graph x0)), (2, (V.fp (E_Graph.e x1))), (1, (i6 y11169))] 48) ∧ HP h (L)

def F33_j1 (x0 : (List T_Graph)) (x1 : T_Graph) (y11169 : Int) (y11265 : Int) : Option (Stp (Int) Bool Unit) :=
  some (.next ((IntKind.i64.wrap (y11265 + (1 : Int)))))

theorem w33_j1 {x0 : (List T_Graph)} {x1 : T_Graph} {y11169 : Int} {y11265 : Int} {t : (Stp (Int) Bool Unit)} (h : F33_j1 x0 x1 y11169 y11265 = some t) {H : Heap} {L : List Ob} (hp : HP H (L)) :
    Run T (.rgn i33r20) (mkE [(0, (Zl E_Graph x0)), (2, (V.fp (E_Graph.e x1))), (1, (i6 y11169)), (0, (i6 y11265))] 47) H (stp [4, 17, 18, 19, 20, 21, 22, 23, 24, 25, 26, 27, 28, 29, 30, 31, 32, 33, 34, 35, 36, 37, 38, 39, 40, 41, 42, 43, 44, 45, 46, 47, 48, 49, 50, 51, 52, 53] (I33_2 x0 x1 y11169 L) (RR33 L) (J33_2 x0 x1 y11169 L) t) := by
  unfold F33_j1 at h
  refine Run.rgn ?_
  refine Ro.t 3 ?_
  refine RunO.nil ?_
  have h := Option.some.inj h; subst h
  show I33_2 x0 x1 y11169 L _ _ _
  exact ⟨(by kernel_rfl), hp⟩

def F33_2_b (x0 : (List T_Graph)) (x1 : T_Graph) (y11169 : Int) (y11265 : Int) : Option (Stp (Int) Bool Unit) :=
  (idx x1.fBlocks y11169).bind fun y11299 =>
  if (decide (y11265 < ((List.length y11299.fIns : Nat) : Int))) then
    (idx x1.fBlocks y11169).bind fun y11314 =>
    (idx y11314.fIns y11265).bind fun y11316 =>
    if (y11316.fKind == (9 : Int)) then
      (idx x1.fBlocks y11169).bind fun y11319 =>
      (idx y11319.fIns y11265).bind fun y11321 =>
      (F63 x0 x1 y11321).bind fun y11323 =>
      if (!y11323) then
        some (.ret false)
      else
        F33_j1 x0 x1 y11169 y11265
    else
      F33_j1 x0 x1 y11169 y11265
  else
    some (.go ())

theorem w33_2_b {x0 : (List T_Graph)} {x1 : T_Graph} {y11169 : Int} {y11265 : Int} {t : (Stp (Int) Bool Unit)} (h : F33_2_b x0 x1 y11169 y11265 = some t) {H : Heap} {L : List Ob} (hp : HP H (L)) :
    Run T i33n22 (mkE [(0, (Zl E_Graph x0)), (2, (V.fp (E_Graph.e x1))), (1, (i6 y11169)), (0, (i6 y11265))] 47) H (stp [4, 17, 18, 19, 20, 21, 22, 23, 24, 25, 26, 27, 28, 29, 30, 31, 32, 33, 34, 35, 36, 37, 38, 39, 40, 41, 42, 43, 44, 45, 46, 47, 48, 49, 50, 51, 52, 53] (I33_2 x0 x1 y11169 L) (RR33 L) (J33_2 x0 x1 y11169 L) t) := by
  unfold F33_2_b at h
  refine Run.seq ?_
  refine Rn.g ?_
  refine Ro.t 4 ?_
  obtain ⟨y11299, h11300, h⟩ := bind_some h
  refine Ro.p (idx_fz E_Block .i64 h11300) ?_
  refine Ro.t 2 ?_
  refine Ro.p (len_fz E_Ins y11299.fIns) ?_
  refine Ro.t 1 ?_
  refine Ro.d (mkE [(0, (Zl E_Graph x0)), (2, (V.fp (E_Graph.e x1))), (1, (i6 y11169)), (0, (i6 y11265)), (18, (V.bool (decide (y11265 < (ln y11299.fIns)))))] 28) ?_
  rcases tf (decide (y11265 < (ln y11299.fIns))) with h11301 | h11301
  · rw [ite_t h11301] at h; refine Rn.t h11301 ?_
    refine Run.skip ?_
    refine Rn.c (mkE [(0, (Zl E_Graph x0)), (2, (V.fp (E_Graph.e x1))), (1, (i6 y11169)), (0, (i6 y11265))] 47) ?_
    refine Run.seq ?_
    refine Run.block ?_
    refine Rn.g ?_
    refine Ro.t 3 ?_
    obtain ⟨y11314, h11315, h⟩ := bind_some h
    refine Ro.p (idx_fz E_Block .i64 h11315) ?_
    refine Ro.t 3 ?_
    obtain ⟨y11316, h11317, h⟩ := bind_some h
    refine Ro.p (idx_fz E_Ins .i64 h11317) ?_
    refine Ro.t 2 ?_
    rcases tf (y11316.fKind == (9 : Int)) with h11318 | h11318
    · rw [ite_t h11318] at h; refine Ro.p (bool_of h11318) ?_
      refine Ro.t 6 ?_
      obtain ⟨y11319, h11320, h⟩ := bind_some h
      refine Ro.p (idx_fz E_Block .i64 h11320) ?_
      refine Ro.t 3 ?_
      obtain ⟨y11321, h11322, h⟩ := bind_some h
      refine Ro.p (idx_fz E_Ins .i64 h11322) ?_
      refine Ro.t 1 ?_
      obtain ⟨y11323, h11324, h⟩ := bind_some h
      refine RunO.c1 (by kernel_rfl) (by kernel_rfl) (c63 h11324 _) ?_
      refine Ro.t 2 ?_
      refine Ro.d (mkE [(0, (Zl E_Graph x0)), (2, (V.fp (E_Graph.e x1))), (1, (i6 y11169)), (0, (i6 y11265)), (46, (V.bool (!y11323)))] 0) ?_
      rcases tf (!y11323) with h11325 | h11325
      · rw [ite_t h11325] at h; refine Rn.t h11325 ?_
        refine Rn.g ?_
        refine Ro.t 1 ?_
        refine Ro.d (mkE [(4, (V.bool false))] 49) ?_
        refine Run.ret ?_
        have h := Option.some.inj h; subst h
        show RR33 L _ _ _
        exact ⟨(V.bool false), (by kernel_rfl), (by kernel_rfl), hp⟩
      · rw [ite_f h11325] at h; refine Rn.f h11325 ?_
        refine Run.skip ?_
        refine Run.clrE (ts := [4, 28, 29, 30, 31, 32, 33, 34, 35, 36, 37, 38, 39, 40, 41, 42, 43, 44, 45, 46, 47, 48, 49, 50, 51, 52, 53]) (b := (.rgn i33r20)) (Q := (stp [4, 17, 18, 19, 20, 21, 22, 23, 24, 25, 26, 27, 28, 29, 30, 31, 32, 33, 34, 35, 36, 37, 38, 39, 40, 41, 42, 43, 44, 45, 46, 47, 48, 49, 50, 51, 52, 53] (I33_2 x0 x1 y11169 L) (RR33 L) (J33_2 x0 x1 y11169 L) t)) (e' := (mkE [(0, (Zl E_Graph x0)), (2, (V.fp (E_Graph.e x1))), (1, (i6 y11169)), (0, (i6 y11265))] 47)) (by kernel_rfl) ?_
        exact w33_j1 h hp
    · rw [ite_f h11318] at h; refine Ro.p (bool_of h11318) ?_
      refine Ro.t 15 ?_
      refine Ro.d (mkE [(0, (Zl E_Graph x0)), (2, (V.fp (E_Graph.e x1))), (1, (i6 y11169)), (0, (i6 y11265)), (46, (V.bool false))] 0) ?_
      refine Run.condF (by kernel_rfl) ?_
      refine Run.skip ?_
      refine Run.clrE (ts := [4, 28, 29, 30, 31, 32, 33, 34, 35, 36, 37, 38, 39, 40, 41, 42, 43, 44, 45, 46, 47, 48, 49, 50, 51, 52, 53]) (b := (.rgn i33r20)) (Q := (stp [4, 17, 18, 19, 20, 21, 22, 23, 24, 25, 26, 27, 28, 29, 30, 31, 32, 33, 34, 35, 36, 37, 38, 39, 40, 41, 42, 43, 44, 45, 46, 47, 48, 49, 50, 51, 52, 53] (I33_2 x0 x1 y11169 L) (RR33 L) (J33_2 x0 x1 y11169 L) t)) (e' := (mkE [(0, (Zl E_Graph x0)), (2, (V.fp (E_Graph.e x1))), (1, (i6 y11169)), (0, (i6 y11265))] 47)) (by kernel_rfl) ?_
      exact w33_j1 h hp
  · rw [ite_f h11301] at h; refine Rn.f h11301 ?_
    refine Run.exit ?_
    have h := Option.some.inj h; subst h
    show J33_2 x0 x1 y11169 L () _ _ _
    exact ⟨rfl, (by kernel_rfl), hp⟩

def F33_1_b (x0 : (List T_Graph)) (x1 : T_Graph) (y11169 : Int) : Option (Stp (Int) Bool Unit) :=
  if (decide (y11169 < ((List.length x1.fBlocks : Nat) : Int))) then
    (iter (fun s : (Int) => F33_2_b x0 x1 y11169 s) FUEL ((0 : Int))).bind fun o => match o with
    | .ret r => some (.ret r)
    | .go () =>
      some (.next ((IntKind.i64.wrap (y11169 + (1 : Int)))))
  else
    some (.go ())

theorem w33_1_b {x0 : (List T_Graph)} {x1 : T_Graph} {y11169 : Int} {t : (Stp (Int) Bool Unit)} (h : F33_1_b x0 x1 y11169 = some t) {H : Heap} {L : List Ob} (hp : HP H (L)) :
    Run T i33n29 (mkE [(0, (Zl E_Graph x0)), (2, (V.fp (E_Graph.e x1))), (1, (i6 y11169))] 48) H (stp [4, 6, 10, 11, 12, 13, 14, 15, 16, 17, 18, 19, 20, 21, 22, 23, 24, 25, 26, 27, 28, 29, 30, 31, 32, 33, 34, 35, 36, 37, 38, 39, 40, 41, 42, 43, 44, 45, 46, 47, 48, 49, 50, 51, 52, 53] (I33_1 x0 x1 L) (RR33 L) (J33_1 x0 x1 L) t) := by
  unfold F33_1_b at h
  refine Run.seq ?_
  refine Rn.g ?_
  refine Ro.t 3 ?_
  refine Ro.p (len_fz E_Block x1.fBlocks) ?_
  refine Ro.t 1 ?_
  refine Ro.d (mkE [(0, (Zl E_Graph x0)), (2, (V.fp (E_Graph.e x1))), (1, (i6 y11169)), (8, (V.bool (decide (y11169 < (ln x1.fBlocks)))))] 39) ?_
  rcases tf (decide (y11169 < (ln x1.fBlocks))) with h11234 | h11234
  · rw [ite_t h11234] at h; refine Rn.t h11234 ?_
    refine Run.skip ?_
    refine Rn.c (mkE [(0, (Zl E_Graph x0)), (2, (V.fp (E_Graph.e x1))), (1, (i6 y11169))] 48) ?_
    refine Run.seq ?_
    refine Run.block ?_
    refine Rn.g ?_
    refine Ro.t 1 ?_
    refine Ro.d (mkE [(0, (Zl E_Graph x0)), (2, (V.fp (E_Graph.e x1))), (1, (i6 y11169)), (0, (i6 (0 : Int)))] 47) ?_
    refine Run.block ?_
    obtain ⟨o, h11326, h⟩ := bind_some h
    refine (Run.iter (I := I33_2 x0 x1 y11169 L) (RR := RR33 L) (J := J33_2 x0 x1 y11169 L) (fun s e h' t hI hf => ?_) FUEL h11326 (by exact ⟨(by kernel_rfl), hp⟩)).mono ?_
    · obtain ⟨rfl, hp⟩ := hI; exact w33_2_b hf hp
    · rintro X e' H hq
      cases o with
      | ret r => cases X <;> first | exact hq.elim | (cases h; exact hq)
      | go a => 
        cases X with | nrm => exact hq.elim | ret => exact hq.elim | ext i => ?_
        obtain ⟨rfl, he, hp⟩ := hq
        dsimp only at h
        refine Run.clrE (ts := [4, 6, 17, 18, 19, 20, 21, 22, 23, 24, 25, 26, 27, 28, 29, 30, 31, 32, 33, 34, 35, 36, 37, 38, 39, 40, 41, 42, 43, 44, 45, 46, 47, 48, 49, 50, 51, 52, 53]) (b := (.rgn i33r27)) (Q := (stp [4, 6, 10, 11, 12, 13, 14, 15, 16, 17, 18, 19, 20, 21, 22, 23, 24, 25, 26, 27, 28, 29, 30, 31, 32, 33, 34, 35, 36, 37, 38, 39, 40, 41, 42, 43, 44, 45, 46, 47, 48, 49, 50, 51, 52, 53] (I33_1 x0 x1 L) (RR33 L) (J33_1 x0 x1 L) t)) he ?_
        refine Run.rgn ?_
        refine Ro.t 3 ?_
        refine RunO.nil ?_
        have h := Option.some.inj h; subst h
        show I33_1 x0 x1 L _ _ _
        exact ⟨(by kernel_rfl), hp⟩
  · rw [ite_f h11234] at h; refine Rn.f h11234 ?_
    refine Run.exit ?_
    have h := Option.some.inj h; subst h
    show J33_1 x0 x1 L () _ _ _
    exact ⟨rfl, (by kernel_rfl), hp⟩

def F33 (x0 : (List T_Graph)) (x1 : T_Graph) : Option Bool :=
  (F62 x1).bind fun y11103 =>
  if (!y11103) then
    some false
  else
    (iter (fun s : (Int) => F33_1_b x0 x1 s) FUEL ((0 : Int))).bind fun o => match o with
    | .ret r => some r
    | .go () =>
      some true

theorem w33 {x0 : (List T_Graph)} {x1 : T_Graph} {r : Bool} (h : F33 x0 x1 = some r) {H : Heap} {L : List Ob} (hp : HP H (L)) : Fn T 33 [(Zl E_Graph x0), (E_Graph.e x1)] H (Q33 L r) := by
  refine Fn.enterE t33 (e0 := (mkE [(0, (Zl E_Graph x0)), (0, (E_Graph.e x1))] 52)) (by kernel_rfl) ?_
  show Run T (.clr [] i33n37) _ _ (finE none [4] (Q33 L r))
  refine Rn.k (mkE [(0, (Zl E_Graph x0)), (0, (E_Graph.e x1))] 52) ?_
  unfold F33 at h
  refine Rn.g ?_
  refine Ro.t 2 ?_
  refine Ro.d (mkE [(0, (Zl E_Graph x0)), (2, (V.fp (E_Graph.e x1)))] 50) ?_
  refine Run.seq ?_
  refine Rn.g ?_
  refine Ro.t 1 ?_
  obtain ⟨y11103, h11104, h⟩ := bind_some h
  refine RunO.c1 (by kernel_rfl) (by kernel_rfl) (c62 h11104 _) ?_
  refine Ro.t 1 ?_
  refine Ro.d (mkE [(0, (Zl E_Graph x0)), (2, (V.fp (E_Graph.e x1))), (5, (V.bool (!y11103)))] 44) ?_
  rcases tf (!y11103) with h11105 | h11105
  · rw [ite_t h11105] at h; refine Rn.t h11105 ?_
    refine Rn.g ?_
    refine Ro.t 1 ?_
    refine Ro.d (mkE [(4, (V.bool false))] 49) ?_
    refine Run.ret ?_
    have h := Option.some.inj h; subst h
    exact ⟨(V.bool false), (by kernel_rfl), (by kernel_rfl), hp⟩
  · rw [ite_f h11105] at h; refine Rn.f h11105 ?_
    refine Run.skip ?_
    refine Rn.c (mkE [(0, (Zl E_Graph x0)), (2, (V.fp (E_Graph.e x1)))] 50) ?_
    refine Run.seq ?_
    refine Rn.g ?_
    refine Ro.t 1 ?_
    refine Ro.d (mkE [(0, (Zl E_Graph x0)), (2, (V.fp (E_Graph.e x1))), (1, (i6 (0 : Int)))] 48) ?_
    refine Run.block ?_
    obtain ⟨o, h11327, h⟩ := bind_some h
    refine (Run.iter (I := I33_1 x0 x1 L) (RR := RR33 L) (J := J33_1 x0 x1 L) (fun s e h' t hI hf => ?_) FUEL h11327 (by exact ⟨(by kernel_rfl), hp⟩)).mono ?_
    · obtain ⟨rfl, hp⟩ := hI; exact w33_1_b hf hp
    · rintro X e' H hq
      cases o with
      | ret r => cases X <;> first | exact hq.elim | (cases h; exact hq)
      | go a => 
        cases X with | nrm => exact hq.elim | ret => exact hq.elim | ext i => ?_
        obtain ⟨rfl, he, hp⟩ := hq
        dsimp only at h
        refine Run.clrE (ts := [0, 3, 4, 5, 6, 10, 11, 12, 13, 14, 15, 16, 17, 18, 19, 20, 21, 22, 23, 24, 25, 26, 27, 28, 29, 30, 31, 32, 33, 34, 35, 36, 37, 38, 39, 40, 41, 42, 43, 44, 45, 46, 47, 48, 49, 50, 51, 52, 53]) (b := i33n34) (Q := (finE none [4] (Q33 L r))) he ?_
        refine Rn.g ?_
        refine Ro.t 1 ?_
        refine Ro.d (mkE [(4, (V.bool true))] 49) ?_
        refine Run.ret ?_
        have h := Option.some.inj h; subst h
        exact ⟨(V.bool true), (by kernel_rfl), (by kernel_rfl), hp⟩

theorem c33 {x0 : (List T_Graph)} {x1 : T_Graph} {r : Bool} (h : F33 x0 x1 = some r) (s : Bool) : Fn T 33 [(Zl E_Graph x0), (E_Graph.e x1)] [] (fun v hh => deep s hh deepN v = some (EB.e r)) := by
  refine (w33 h HP.nil).mono ?_
  rintro v hh ⟨rfl, hp⟩
  exact EB.hd s hh 38 _ (.inr rfl)

/- smithy/smithyref07.Check -/
abbrev Q11 (L : List Ob) (r : (Int × Int)) : V → Heap → Prop := fun v h => v = .tup [(EI .i64).e r.1, (EI .i64).e r.2] ∧ HP h (L)
abbrev RR11 (L : List Ob) (r : (Int × Int)) : List V → Heap → Prop := fun e h => endR none [2, 3] (Q11 L r) e h

abbrev I11_1 (x0 : (List T_Graph)) (L : List Ob) : (Int) → List V → Heap → Prop := fun s e h => e = (mkE [(0, (Zl E_Graph x0)), (3, (i6 s))] 17) ∧ HP h (L)

abbrev J11_1 (x0 : (List T_Graph)) (L : List Ob) : Unit → Nat → List V → Heap → Prop := fun a i e h => i = 0 ∧ clrEnv [0, 2, 3, 4, 8, 9, 10, 11, 12, 13, 14, 15, 16, 17, 18, 19, 20, 21] e = (mkE [] 22) ∧ HP h (L)

def F11_1_b (x0 : (List T_Graph)) (y11363 : Int) : Option (Stp (Int) (Int × Int) Unit) :=
  if (decide (y11363 < ((List.length x0 : Nat) : Int))) then
    (idx x0 y11363).bind fun y11383 =>
    (F33 x0 y11383).bind fun y11385 =>
    if (!y11385) then
      some (.ret ((4 : Int), y11363))
    else
      some (.next ((IntKind.i64.wrap (y11363 + (1 : Int)))))
  else
    some (.go ())

theorem w11_1_b {x0 : (List T_Graph)} {y11363 : Int} {t : (Stp (Int) (Int × Int) Unit)} (h : F11_1_b x0 y11363 = some t) {H : Heap} {L : List Ob} (hp : HP H (L)) :
    Run T i11n18 (mkE [(0, (Zl E_Graph x0)), (3, (i6 y11363))] 17) H (stp [2, 3, 8, 9, 10, 11, 12, 13, 14, 15, 16, 17, 18, 19, 20, 21] (I11_1 x0 L) (RR11 L) (J11_1 x0 L) t) := by
  unfold F11_1_b at h
  refine Run.seq ?_
  refine Rn.g ?_
  refine Ro.t 2 ?_
  refine Ro.p (len_fz E_Graph x0) ?_
  refine Ro.t 1 ?_
  refine Ro.d (mkE [(0, (Zl E_Graph x0)), (3, (i6 y11363)), (6, (V.bool (decide (y11363 < (ln x0)))))] 10) ?_
  rcases tf (decide (y11363 < (ln x0))) with h11377 | h11377
  · rw [ite_t h11377] at h; refine Rn.t h11377 ?_
    refine Run.skip ?_
    refine Rn.c (mkE [(0, (Zl E_Graph x0)), (3, (i6 y11363))] 17) ?_
    refine Run.seq ?_
    refine Run.block ?_
    refine Rn.g ?_
    refine Ro.t 3 ?_
    obtain ⟨y11383, h11384, h⟩ := bind_some h
    refine Ro.p (idx_fz E_Graph .i64 h11384) ?_
    refine Ro.t 1 ?_
    obtain ⟨y11385, h11386, h⟩ := bind_some h
    refine RunO.c1 (by kernel_rfl) (by kernel_rfl) (c33 h11386 _) ?_
    refine Ro.t 1 ?_
    refine Ro.d (mkE [(0, (Zl E_Graph x0)), (3, (i6 y11363)), (15, (V.bool (!y11385)))] 1) ?_
    rcases tf (!y11385) with h11387 | h11387
    · rw [ite_t h11387] at h; refine Rn.t h11387 ?_
      refine Rn.g ?_
      refine Ro.t 3 ?_
      refine Ro.d (mkE [(2, (i6 (4 : Int))), (0, (i6 y11363))] 18) ?_
      refine Run.ret ?_
      have h := Option.some.inj h; subst h
      show RR11 L _ _ _
      exact ⟨(V.tup [(i6 (4 : Int)), (i6 y11363)]), (by kernel_rfl), (by kernel_rfl), hp⟩
    · rw [ite_f h11387] at h; refine Rn.f h11387 ?_
      refine Run.skip ?_
      refine Run.clrE (ts := [2, 3, 14, 15, 16, 17, 18, 19, 20, 21]) (b := (.rgn i11r16)) (Q := (stp [2, 3, 8, 9, 10, 11, 12, 13, 14, 15, 16, 17, 18, 19, 20, 21] (I11_1 x0 L) (RR11 L) (J11_1 x0 L) t)) (e' := (mkE [(0, (Zl E_Graph x0)), (3, (i6 y11363))] 17)) (by kernel_rfl) ?_
      refine Run.rgn ?_
      refine Ro.t 3 ?_
      refine RunO.nil ?_
      have h := Option.some.inj h; subst h
      show I11_1 x0 L _ _ _
      exact ⟨(by kernel_rfl), hp⟩
  · rw [ite_f h11377] at h; refine Rn.f h11377 ?_
    refine Run.exit ?_
    have h := Option.some.inj h; subst h
    show J11_1 x0 L () _ _ _
    exact ⟨rfl, (by kernel_rfl), hp⟩

def F11 (x0 : (List T_Graph)) : Option (Int × Int) :=
  if (decide (((List.length x0 : Nat) : Int) > (64 : Int))) then
    some ((3 : Int), (0 : Int))
  else
    (iter (fun s : (Int) => F11_1_b x0 s) FUEL ((0 : Int))).bind fun o => match o with
    | .ret r => some r
    | .go () =>
      some ((0 : Int), (0 : Int))

theorem w11 {x0 : (List T_Graph)} {r : (Int × Int)} (h : F11 x0 = some r) {H : Heap} {L : List Ob} (hp : HP H (L)) : Fn T 11 [(Zl E_Graph x0)] H (Q11 L r) := by
  refine Fn.enterE t11 (e0 := (mkE [(0, (Zl E_Graph x0))] 21)) (by kernel_rfl) ?_
  show Run T (.clr [] i11n26) _ _ (finE none [2, 3] (Q11 L r))
  refine Rn.k (mkE [(0, (Zl E_Graph x0))] 21) ?_
  unfold F11 at h
  refine Rn.g ?_
  refine Ro.t 2 ?_
  refine Ro.d (mkE [(0, (Zl E_Graph x0))] 21) ?_
  refine Run.seq ?_
  refine Rn.g ?_
  refine Ro.t 1 ?_
  refine Ro.p (len_fz E_Graph x0) ?_
  refine Ro.t 1 ?_
  refine Ro.d (mkE [(0, (Zl E_Graph x0)), (6, (V.bool (decide ((ln x0) > (64 : Int)))))] 14) ?_
  rcases tf (decide ((ln x0) > (64 : Int))) with h11350 | h11350
  · rw [ite_t h11350] at h; refine Rn.t h11350 ?_
    refine Rn.g ?_
    refine Ro.t 2 ?_
    refine Ro.d (mkE [(2, (i6 (3 : Int))), (0, (i6 (0 : Int)))] 18) ?_
    refine Run.ret ?_
    have h := Option.some.inj h; subst h
    exact ⟨(V.tup [(i6 (3 : Int)), (i6 (0 : Int))]), (by kernel_rfl), (by kernel_rfl), hp⟩
  · rw [ite_f h11350] at h; refine Rn.f h11350 ?_
    refine Run.skip ?_
    refine Rn.c (mkE [(0, (Zl E_Graph x0))] 21) ?_
    refine Run.seq ?_
    refine Rn.g ?_
    refine Ro.t 1 ?_
    refine Ro.d (mkE [(0, (Zl E_Graph x0)), (3, (i6 (0 : Int)))] 17) ?_
    refine Run.block ?_
    obtain ⟨o, h11388, h⟩ := bind_some h
    refine (Run.iter (I := I11_1 x0 L) (RR := RR11 L) (J := J11_1 x0 L) (fun s e h' t hI hf => ?_) FUEL h11388 (by exact ⟨(by kernel_rfl), hp⟩)).mono ?_
    · obtain ⟨rfl, hp⟩ := hI; exact w11_1_b hf hp
    · rintro X e' H hq
      cases o with
      | ret r => cases X <;> first | exact hq.elim | (cases h; exact hq)
      | go a => 
        cases X with | nrm => exact hq.elim | ret => exact hq.elim | ext i => ?_
        obtain ⟨rfl, he, hp⟩ := hq
        dsimp only at h
        refine Run.clrE (ts := [0, 2, 3, 4, 8, 9, 10, 11, 12, 13, 14, 15, 16, 17, 18, 19, 20, 21]) (b := i11n23) (Q := (finE none [2, 3] (Q11 L r))) he ?_
        refine Rn.g ?_
        refine Ro.t 2 ?_
        refine Ro.d (mkE [(2, (i6 (0 : Int))), (0, (i6 (0 : Int)))] 18) ?_
        refine Run.ret ?_
        have h := Option.some.inj h; subst h
        exact ⟨(V.tup [(i6 (0 : Int)), (i6 (0 : Int))]), (by kernel_rfl), (by kernel_rfl), hp⟩

theorem c11 {x0 : (List T_Graph)} {r : (Int × Int)} (h : F11 x0 = some r) (s : Bool) : Fn T 11 [(Zl E_Graph x0)] [] (fun v hh => deep s hh deepN v = some (.tup [(EI .i64).e r.1, (EI .i64).e r.2])) := by
  refine (w11 h HP.nil).mono ?_
  rintro v hh ⟨rfl, hp⟩
  exact congrArg (Option.map V.tup) (omapc ((EI .i64).hd s hh 37 _ (.inr rfl)) (omapc ((EI .i64).hd s hh 37 _ (.inr rfl)) omapn))

/- smithy/smithykit.SameInts -/
abbrev Q17 (L : List Ob) (r : Bool) : V → Heap → Prop := fun v h => v = EB.e r ∧ HP h (L)
abbrev RR17 (L : List Ob) (r : Bool) : List V → Heap → Prop := fun e h => endR none [4] (Q17 L r) e h

abbrev I17_1 (x0 : (List Int)) (x1 : (List Int)) (L : List Ob) : (Int) → List V → Heap → Prop := fun s e h => e = (mkE [(0, (Zl (EI .i64) x0)), (0, (Zl (EI .i64) x1)), (3, (i6 s))] 20) ∧ HP h (L)

abbrev J17_1 (x0 : (List Int)) (x1 : (List Int)) (L : List Ob) : Unit → Nat → List V → Heap → Prop := fun a i e h => i = 0 ∧ clrEnv [0, 1, 4, 5, 11, 12, 13, 14, 15, 16, 17, 18, 19, 20, 21, 22, 23, 24, 25] e = (mkE [] 26) ∧ HP h (L)

def F17_1_b (x0 : (List Int)) (x1 : (List Int)) (y11430 : Int) : Option (Stp (Int) Bool Unit) :=
  if (decide (y11430 < ((List.length x0 : Nat) : Int))) then
    (idx x0 y11430).bind fun y11450 =>
    (idx x1 y11430).bind fun y11452 =>
    if (y11450 != y11452) then
      some (.ret false)
    else
      some (.next ((IntKind.i64.wrap (y11430 + (1 : Int)))))
  else
    some (.go ())

theorem w17_1_b {x0 : (List Int)} {x1 : (List Int)} {y11430 : Int} {t : (Stp (Int) Bool Unit)} (h : F17_1_b x0 x1 y11430 = some t) {H : Heap} {L : List Ob} (hp : HP H (L)) :
    Run T i17n18 (mkE [(0, (Zl (EI .i64) x0)), (0, (Zl (EI .i64) x1)), (3, (i6 y11430))] 20) H (stp [4, 11, 12, 13, 14, 15, 16, 17, 18, 19, 20, 21, 22, 23, 24, 25] (I17_1 x0 x1 L) (RR17 L) (J17_1 x0 x1 L) t) := by
  unfold F17_1_b at h
  refine Run.seq ?_
  refine Rn.g ?_
  refine Ro.t 2 ?_
  refine Ro.p (len_fz (EI .i64) x0) ?_
  refine Ro.t 1 ?_
  refine Ro.d (mkE [(0, (Zl (EI .i64) x0)), (0, (Zl (EI .i64) x1)), (3, (i6 y11430)), (8, (V.bool (decide (y11430 < (ln x0)))))] 11) ?_
  rcases tf (decide (y11430 < (ln x0))) with h11444 | h11444
  · rw [ite_t h11444] at h; refine Rn.t h11444 ?_
    refine Run.skip ?_
    refine Rn.c (mkE [(0, (Zl (EI .i64) x0)), (0, (Zl (EI .i64) x1)), (3, (i6 y11430))] 20) ?_
    refine Run.seq ?_
    refine Run.block ?_
    refine Rn.g ?_
    refine Ro.t 2 ?_
    obtain ⟨y11450, h11451, h⟩ := bind_some h
    refine Ro.p (idx_fz (EI .i64) .i64 h11451) ?_
    refine Ro.t 3 ?_
    obtain ⟨y11452, h11453, h⟩ := bind_some h
    refine Ro.p (idx_fz (EI .i64) .i64 h11453) ?_
    refine Ro.t 2 ?_
    refine Ro.d (mkE [(0, (Zl (EI .i64) x0)), (0, (Zl (EI .i64) x1)), (3, (i6 y11430)), (19, (V.bool (y11450 != y11452)))] 0) ?_
    rcases tf (y11450 != y11452) with h11454 | h11454
    · rw [ite_t h11454] at h; refine Rn.t h11454 ?_
      refine Rn.g ?_
      refine Ro.t 1 ?_
      refine Ro.d (mkE [(4, (V.bool false))] 21) ?_
      refine Run.ret ?_
      have h := Option.some.inj h; subst h
      show RR17 L _ _ _
      exact ⟨(V.bool false), (by kernel_rfl), (by kernel_rfl), hp⟩
    · rw [ite_f h11454] at h; refine Rn.f h11454 ?_
      refine Run.skip ?_
      refine Run.clrE (ts := [4, 17, 18, 19, 20, 21, 22, 23, 24, 25]) (b := (.rgn i17r16)) (Q := (stp [4, 11, 12, 13, 14, 15, 16, 17, 18, 19, 20, 21, 22, 23, 24, 25] (I17_1 x0 x1 L) (RR17 L) (J17_1 x0 x1 L) t)) (e' := (mkE [(0, (Zl (EI .i64) x0)), (0, (Zl (EI .i64) x1)), (3, (i6 y11430))] 20)) (by kernel_rfl) ?_
      refine Run.rgn ?_
      refine Ro.t 3 ?_
      refine RunO.nil ?_
      have h := Option.some.inj h; subst h
      show I17_1 x0 x1 L _ _ _
      exact ⟨(by kernel_rfl), hp⟩
  · rw [ite_f h11444] at h; refine Rn.f h11444 ?_
    refine Run.exit ?_
    have h := Option.some.inj h; subst h
    show J17_1 x0 x1 L () _ _ _
    exact ⟨rfl, (by kernel_rfl), hp⟩

def F17 (x0 : (List Int)) (x1 : (List Int)) : Option Bool :=
  if (((List.length x0 : Nat) : Int) != ((List.length x1 : Nat) : Int)) then
    some false
  else
    (iter (fun s : (Int) => F17_1_b x0 x1 s) FUEL ((0 : Int))).bind fun o => match o with
    | .ret r => some r
    | .go () =>
      some true

theorem w17 {x0 : (List Int)} {x1 : (List Int)} {r : Bool} (h : F17 x0 x1 = some r) {H : Heap} {L : List Ob} (hp : HP H (L)) : Fn T 17 [(Zl (EI .i64) x0), (Zl (EI .i64) x1)] H (Q17 L r) := by
  refine Fn.enterE t17 (e0 := (mkE [(0, (Zl (EI .i64) x0)), (0, (Zl (EI .i64) x1))] 24)) (by kernel_rfl) ?_
  show Run T (.clr [] i17n26) _ _ (finE none [4] (Q17 L r))
  refine Rn.k (mkE [(0, (Zl (EI .i64) x0)), (0, (Zl (EI .i64) x1))] 24) ?_
  unfold F17 at h
  refine Rn.g ?_
  refine Ro.t 1 ?_
  refine Ro.d (mkE [(0, (Zl (EI .i64) x0)), (0, (Zl (EI .i64) x1))] 24) ?_
  refine Run.seq ?_
  refine Rn.g ?_
  refine Ro.t 1 ?_
  refine Ro.p (len_fz (EI .i64) x0) ?_
  refine Ro.t 1 ?_
  refine Ro.p (len_fz (EI .i64) x1) ?_
  refine Ro.t 1 ?_
  refine Ro.d (mkE [(0, (Zl (EI .i64) x0)), (0, (Zl (EI .i64) x1)), (8, (V.bool ((ln x0) != (ln x1))))] 15) ?_
  rcases tf ((ln x0) != (ln x1)) with h11417 | h11417
  · rw [ite_t h11417] at h; refine Rn.t h11417 ?_
    refine Rn.g ?_
    refine Ro.t 1 ?_
    refine Ro.d (mkE [(4, (V.bool false))] 21) ?_
    refine Run.ret ?_
    have h := Option.some.inj h; subst h
    exact ⟨(V.bool false), (by kernel_rfl), (by kernel_rfl), hp⟩
  · rw [ite_f h11417] at h; refine Rn.f h11417 ?_
    refine Run.skip ?_
    refine Rn.c (mkE [(0, (Zl (EI .i64) x0)), (0, (Zl (EI .i64) x1))] 24) ?_
    refine Run.seq ?_
    refine Rn.g ?_
    refine Ro.t 1 ?_
    refine Ro.d (mkE [(0, (Zl (EI .i64) x0)), (0, (Zl (EI .i64) x1)), (3, (i6 (0 : Int)))] 20) ?_
    refine Run.block ?_
    obtain ⟨o, h11455, h⟩ := bind_some h
    refine (Run.iter (I := I17_1 x0 x1 L) (RR := RR17 L) (J := J17_1 x0 x1 L) (fun s e h' t hI hf => ?_) FUEL h11455 (by exact ⟨(by kernel_rfl), hp⟩)).mono ?_
    · obtain ⟨rfl, hp⟩ := hI; exact w17_1_b hf hp
    · rintro X e' H hq
      cases o with
      | ret r => cases X <;> first | exact hq.elim | (cases h; exact hq)
      | go a => 
        cases X with | nrm => exact hq.elim | ret => exact hq.elim | ext i => ?_
        obtain ⟨rfl, he, hp⟩ := hq
        dsimp only at h
        refine Run.clrE (ts := [0, 1, 4, 5, 11, 12, 13, 14, 15, 16, 17, 18, 19, 20, 21, 22, 23, 24, 25]) (b := i17n23) (Q := (finE none [4] (Q17 L r))) he ?_
        refine Rn.g ?_
        refine Ro.t 1 ?_
        refine Ro.d (mkE [(4, (V.bool true))] 21) ?_
        refine Run.ret ?_
        have h := Option.some.inj h; subst h
        exact ⟨(V.bool true), (by kernel_rfl), (by kernel_rfl), hp⟩

theorem c17 {x0 : (List Int)} {x1 : (List Int)} {r : Bool} (h : F17 x0 x1 = some r) (s : Bool) : Fn T 17 [(Zl (EI .i64) x0), (Zl (EI .i64) x1)] [] (fun v hh => deep s hh deepN v = some (EB.e r)) := by
  refine (w17 h HP.nil).mono ?_
  rintro v hh ⟨rfl, hp⟩
  exact EB.hd s hh 38 _ (.inr rfl)

/- smithy/graph.Count -/
abbrev Q22 (L : List Ob) (r : Int) : V → Heap → Prop := fun v h => v = (EI .i64).e r ∧ HP h (L)
abbrev RR22 (L : List Ob) (r : Int) : List V → Heap → Prop := fun e h => endR none [2] (Q22 L r) e h

abbrev I22_1 (x0 : T_Graph) (L : List Ob) : (Int × Int) → List V → Heap → Prop := fun s e h => e = (mkE [(3, (i6 s.1)), (6, (Zl E_Block x0.fBlocks)), (0, (i6 (ln x0.fBlocks))), (0, (i6 s.2))] 10) ∧ HP h (L)

abbrev J22_1 (x0 : T_Graph) (L : List Ob) : (Int) → Nat → List V → Heap → Prop := fun a i e h => i = 0 ∧ clrEnv [1, 5, 9, 10, 11, 12, 13, 14, 15, 16, 17, 18, 19, 20, 21] e = (mkE [(3, (i6 a))] 19) ∧ HP h (L)

def F22_1_b (x0 : T_Graph) (y11474 : Int) (y11475 : Int) : Option (Stp (Int × Int) Int (Int)) :=
  if (decide (y11475 < ((List.length x0.fBlocks : Nat) : Int))) then
    (idx x0.fBlocks y11475).bind fun y11484 =>
    some (.next ((IntKind.i64.wrap (y11474 + ((List.length y11484.fIns : Nat) : Int))), (IntKind.i64.wrap (y11475 + (1 : Int)))))
  else
    some (.go (y11474))

theorem w22_1_b {x0 : T_Graph} {y11474 : Int} {y11475 : Int} {t : (Stp (Int × Int) Int (Int))} (h : F22_1_b x0 y11474 y11475 = some t) {H : Heap} {L : List Ob} (hp : HP H (L)) :
    Run T i22n12 (mkE [(3, (i6 y11474)), (6, (Zl E_Block x0.fBlocks)), (0, (i6 (ln x0.fBlocks))), (0, (i6 y11475))] 10) H (stp [5, 13, 14, 15, 16, 17, 18, 19, 20, 21] (I22_1 x0 L) (RR22 L) (J22_1 x0 L) t) := by
  unfold F22_1_b at h
  refine Rn.g ?_
  refine Ro.t 1 ?_
  refine Ro.d (mkE [(3, (i6 y11474)), (6, (Zl E_Block x0.fBlocks)), (0, (i6 (ln x0.fBlocks))), (0, (i6 y11475)), (0, (V.bool (decide (y11475 < (ln x0.fBlocks)))))] 9) ?_
  refine Run.seq ?_
  rcases tf (decide (y11475 < (ln x0.fBlocks))) with h11483 | h11483
  · rw [ite_t h11483] at h; refine Rn.t h11483 ?_
    refine Run.skip ?_
    refine Rn.c (mkE [(3, (i6 y11474)), (6, (Zl E_Block x0.fBlocks)), (0, (i6 (ln x0.fBlocks))), (0, (i6 y11475))] 10) ?_
    refine Run.seq ?_
    refine Run.block ?_
    refine Rn.g ?_
    obtain ⟨y11484, h11485, h⟩ := bind_some h
    refine Ro.p (idx_fz E_Block .i64 h11485) ?_
    refine Ro.t 1 ?_
    refine RunO.alloc hp (by kernel_rfl) ?_
    intro b11486 H hp
    have hp : HP H ((some (b11486, 0), [(V.fz (List.map E_Ins.e ([] : List T_Ins))), (V.int .u8 (0 : Int)), (i6 (0 : Int)), (i6 (0 : Int)), (i6 (0 : Int)), (V.int .u8 (0 : Int))]) :: L) := hp
    refine RunO.st hp (by kernel_rfl) 0 (off := 0) (v := (E_Block.e y11484)) (cs' := [(Zl E_Ins y11484.fIns), (V.int .u8 y11484.fTerm.fKind), (i6 y11484.fTerm.fArg), (i6 y11484.fTerm.fTo.a0), (i6 y11484.fTerm.fTo.a1), (V.int .u8 y11484.fTerm.fTrap)]) rfl (by kernel_rfl) (by kernel_rfl) (by kernel_rfl) ?_
    intro H hp
    refine Ro.d (mkE [(3, (i6 y11474)), (1, (V.ptr b11486 0 0)), (4, (Zl E_Block x0.fBlocks)), (0, (i6 (ln x0.fBlocks))), (0, (i6 y11475))] 10) ?_
    refine Run.rgn ?_
    refine Ro.t 2 ?_
    refine Ro.p (hp.ld 0 (off := 0) (n := none) (v := (Zl E_Ins y11484.fIns)) rfl (by kernel_rfl)) ?_
    refine Ro.p (len_fz E_Ins y11484.fIns) ?_
    refine Ro.t 2 ?_
    refine RunO.nil ?_
    refine Run.clrE (ts := [5, 14, 15, 16, 17, 18, 19, 20]) (b := (.rgn i22r9)) (Q := (stp [5, 13, 14, 15, 16, 17, 18, 19, 20, 21] (I22_1 x0 L) (RR22 L) (J22_1 x0 L) t)) (e' := (mkE [(3, (i6 (IntKind.i64.wrap (y11474 + (ln y11484.fIns))))), (6, (Zl E_Block x0.fBlocks)), (0, (i6 (ln x0.fBlocks))), (0, (i6 y11475))] 10)) (by kernel_rfl) ?_
    refine Run.rgn ?_
    refine Ro.t 2 ?_
    refine RunO.nil ?_
    have h := Option.some.inj h; subst h
    have hp := hp.del 0
    show I22_1 x0 L _ _ _
    exact ⟨(by kernel_rfl), hp⟩
  · rw [ite_f h11483] at h; refine Rn.f h11483 ?_
    refine Run.exit ?_
    have h := Option.some.inj h; subst h
    show J22_1 x0 L _ _ _ _
    exact ⟨rfl, (by kernel_rfl), hp⟩

def F22 (x0 : T_Graph) : Option Int :=
  (iter (fun s : (Int × Int) => F22_1_b x0 s.1 s.2) FUEL (((List.length x0.fBlocks : Nat) : Int), (0 : Int))).bind fun o => match o with
  | .ret r => some r
  | .go (y11481) =>
    some y11481

theorem w22 {x0 : T_Graph} {r : Int} (h : F22 x0 = some r) {H : Heap} {L : List Ob} (hp : HP H (L)) : Fn T 22 [(E_Graph.e x0)] H (Q22 L r) := by
  refine Fn.enterE t22 (e0 := (mkE [(0, (E_Graph.e x0))] 22)) (by kernel_rfl) ?_
  show Run T (.clr [] i22n20) _ _ (finE none [2] (Q22 L r))
  refine Rn.k (mkE [(0, (E_Graph.e x0))] 22) ?_
  unfold F22 at h
  refine Rn.g ?_
  refine Ro.t 2 ?_
  refine Ro.d (mkE [(1, (V.fp (E_Graph.e x0)))] 21) ?_
  refine Rn.g ?_
  refine Ro.t 2 ?_
  refine Ro.p (len_fz E_Block x0.fBlocks) ?_
  refine Ro.t 1 ?_
  refine Ro.d (mkE [(1, (V.fp (E_Graph.e x0))), (1, (i6 (ln x0.fBlocks)))] 19) ?_
  refine Run.seq ?_
  refine Rn.g ?_
  refine Ro.t 2 ?_
  refine Ro.p (len_fz E_Block x0.fBlocks) ?_
  refine Ro.t 1 ?_
  refine Ro.d (mkE [(3, (i6 (ln x0.fBlocks))), (6, (Zl E_Block x0.fBlocks)), (0, (i6 (ln x0.fBlocks))), (0, (i6 (0 : Int)))] 10) ?_
  refine Run.block ?_
  obtain ⟨o, h11487, h⟩ := bind_some h
  refine (Run.iter (I := I22_1 x0 L) (RR := RR22 L) (J := J22_1 x0 L) (fun s e h' t hI hf => ?_) FUEL h11487 (by exact ⟨(by kernel_rfl), hp⟩)).mono ?_
  · obtain ⟨rfl, hp⟩ := hI; exact w22_1_b hf hp
  · rintro X e' H hq
    cases o with
    | ret r => cases X <;> first | exact hq.elim | (cases h; exact hq)
    | go y11481 => 
      cases X with | nrm => exact hq.elim | ret => exact hq.elim | ext i => ?_
      obtain ⟨rfl, he, hp⟩ := hq
      dsimp only at h
      refine Run.clrE (ts := [1, 5, 9, 10, 11, 12, 13, 14, 15, 16, 17, 18, 19, 20, 21]) (b := i22n17) (Q := (finE none [2] (Q22 L r))) he ?_
      refine Rn.g ?_
      refine Ro.t 2 ?_
      refine Ro.d (mkE [(2, (i6 y11481))] 20) ?_
      refine Run.ret ?_
      have h := Option.some.inj h; subst h
      exact ⟨(i6 y11481), (by kernel_rfl), (by kernel_rfl), hp⟩

theorem c22 {x0 : T_Graph} {r : Int} (h : F22 x0 = some r) (s : Bool) : Fn T 22 [(E_Graph.e x0)] [] (fun v hh => deep s hh deepN v = some ((EI .i64).e r)) := by
  refine (w22 h HP.nil).mono ?_
  rintro v hh ⟨rfl, hp⟩
  exact (EI .i64).hd s hh 38 _ (.inr rfl)
end Go.Eng.Gra
