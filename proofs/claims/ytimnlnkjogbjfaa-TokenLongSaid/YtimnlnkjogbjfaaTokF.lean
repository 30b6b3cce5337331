/- Plain functions with the answers of the layer's functions, and the proofs (lines written by a program of this session's; no condition beyond those stated). -/
import Derived.Test.YtimnlnkjogbjfaaTokIr
import Derived.Test.YtimnlnkjogbjfaaTokTy
import Derived.Test.YtimnlnkjogbjfaaTokX
namespace Go.Eng.Tok
open Go Go.Eng
set_option linter.unusedVariables false
set_option linter.unusedSimpArgs false
set_option maxRecDepth 20000
/- smithy/smithyref02.blank -/
abbrev Q32 (L : List Ob) (r : Bool) : V → Heap → Prop := fun v h => v = EB.e r ∧ HP h (L)
abbrev RR32 (L : List Ob) (r : Bool) : List V → Heap → Prop := fun e h => endR none [2] (Q32 L r) e h

def F32 (x0 : Int) : Option Bool :=
  if (x0 == (32 : Int)) then
    some true
  else
    if (x0 == (9 : Int)) then
      some true
    else
      if (x0 == (10 : Int)) then
        some true
      else
        some (x0 == (13 : Int))

theorem w32 {x0 : Int} {r : Bool} (h : F32 x0 = some r) {H : Heap} {L : List Ob} (hp : HP H L) : Fn T 32 [(V.int .u8 x0)] H (Q32 L r) := by
  refine Fn.enterE t32 (e0 := (mkE [(0, (V.int .u8 x0))] 16)) (by kernel_rfl) ?_
  show Run T (.clr [] i32n3) _ _ (finE none [2] (Q32 L r))
  refine Run.clrE (ts := []) (b := i32n3) (e' := (mkE [(0, (V.int .u8 x0))] 16)) (by kernel_rfl) ?_
  unfold F32 at h
  refine Run.seq ?_
  refine Run.rgn ?_
  refine RunO.tk 1 (by kernel_rfl) ?_
  refine RunO.done (e' := (mkE [(0, (V.int .u8 x0))] 16)) (by kernel_rfl) ?_
  refine Run.seq ?_
  refine Run.rgn ?_
  refine RunO.tk 1 (by kernel_rfl) ?_
  rcases Bool.eq_false_or_eq_true (x0 == (32 : Int)) with h4 | h4
  · rw [ite_t h4] at h; refine RunO.p1 (by kernel_rfl) rfl (by kernel_rfl) (bool_of h4) ?_
    refine RunO.tk 13 (by kernel_rfl) ?_
    refine RunO.done (e' := (mkE [(2, (V.bool true))] 14)) (by kernel_rfl) ?_
    refine Run.ret ?_
    have h := Option.some.inj h; subst h
    exact ⟨(V.bool true), (by kernel_rfl), (by kernel_rfl), hp⟩
  · rw [ite_f h4] at h; refine RunO.p1 (by kernel_rfl) rfl (by kernel_rfl) (bool_of h4) ?_
    refine RunO.tk 2 (by kernel_rfl) ?_
    rcases Bool.eq_false_or_eq_true (x0 == (9 : Int)) with h5 | h5
    · rw [ite_t h5] at h; refine RunO.p1 (by kernel_rfl) rfl (by kernel_rfl) (bool_of h5) ?_
      refine RunO.tk 10 (by kernel_rfl) ?_
      refine RunO.done (e' := (mkE [(2, (V.bool true))] 14)) (by kernel_rfl) ?_
      refine Run.ret ?_
      have h := Option.some.inj h; subst h
      exact ⟨(V.bool true), (by kernel_rfl), (by kernel_rfl), hp⟩
    · rw [ite_f h5] at h; refine RunO.p1 (by kernel_rfl) rfl (by kernel_rfl) (bool_of h5) ?_
      refine RunO.tk 3 (by kernel_rfl) ?_
      rcases Bool.eq_false_or_eq_true (x0 == (10 : Int)) with h6 | h6
      · rw [ite_t h6] at h; refine RunO.p1 (by kernel_rfl) rfl (by kernel_rfl) (bool_of h6) ?_
        refine RunO.tk 6 (by kernel_rfl) ?_
        refine RunO.done (e' := (mkE [(2, (V.bool true))] 14)) (by kernel_rfl) ?_
        refine Run.ret ?_
        have h := Option.some.inj h; subst h
        exact ⟨(V.bool true), (by kernel_rfl), (by kernel_rfl), hp⟩
      · rw [ite_f h6] at h; refine RunO.p1 (by kernel_rfl) rfl (by kernel_rfl) (bool_of h6) ?_
        refine RunO.tk 6 (by kernel_rfl) ?_
        refine RunO.done (e' := (mkE [(2, (V.bool (x0 == (13 : Int))))] 14)) (by kernel_rfl) ?_
        refine Run.ret ?_
        have h := Option.some.inj h; subst h
        exact ⟨(V.bool (x0 == (13 : Int))), (by kernel_rfl), (by kernel_rfl), hp⟩

theorem c32 {x0 : Int} {r : Bool} (h : F32 x0 = some r) (s : Bool) : Fn T 32 [(V.int .u8 x0)] [] (fun v hh => deep s hh deepN v = some (EB.e r)) := by
  refine (w32 h HP.nil).mono ?_
  rintro v hh ⟨rfl, hp⟩
  exact EB.hd s hh 38 _ (.inr rfl)

/- smithy/smithyref02.Digit -/
abbrev Q25 (L : List Ob) (r : Bool) : V → Heap → Prop := fun v h => v = EB.e r ∧ HP h (L)
abbrev RR25 (L : List Ob) (r : Bool) : List V → Heap → Prop := fun e h => endR none [2] (Q25 L r) e h

def F25 (x0 : Int) : Option Bool :=
  if (decide (x0 ≥ (48 : Int))) then
    some (decide (x0 ≤ (57 : Int)))
  else
    some false

theorem w25 {x0 : Int} {r : Bool} (h : F25 x0 = some r) {H : Heap} {L : List Ob} (hp : HP H L) : Fn T 25 [(V.int .u8 x0)] H (Q25 L r) := by
  refine Fn.enterE t25 (e0 := (mkE [(0, (V.int .u8 x0))] 8)) (by kernel_rfl) ?_
  show Run T (.clr [] i25n3) _ _ (finE none [2] (Q25 L r))
  refine Run.clrE (ts := []) (b := i25n3) (e' := (mkE [(0, (V.int .u8 x0))] 8)) (by kernel_rfl) ?_
  unfold F25 at h
  refine Run.seq ?_
  refine Run.rgn ?_
  refine RunO.tk 1 (by kernel_rfl) ?_
  refine RunO.done (e' := (mkE [(0, (V.int .u8 x0))] 8)) (by kernel_rfl) ?_
  refine Run.seq ?_
  refine Run.rgn ?_
  refine RunO.tk 1 (by kernel_rfl) ?_
  rcases Bool.eq_false_or_eq_true (decide (x0 ≥ (48 : Int))) with h8 | h8
  · rw [ite_t h8] at h; refine RunO.p1 (by kernel_rfl) rfl (by kernel_rfl) (bool_of h8) ?_
    refine RunO.tk 5 (by kernel_rfl) ?_
    refine RunO.done (e' := (mkE [(2, (V.bool (decide (x0 ≤ (57 : Int)))))] 6)) (by kernel_rfl) ?_
    refine Run.ret ?_
    have h := Option.some.inj h; subst h
    exact ⟨(V.bool (decide (x0 ≤ (57 : Int)))), (by kernel_rfl), (by kernel_rfl), hp⟩
  · rw [ite_f h8] at h; refine RunO.p1 (by kernel_rfl) rfl (by kernel_rfl) (bool_of h8) ?_
    refine RunO.tk 5 (by kernel_rfl) ?_
    refine RunO.done (e' := (mkE [(2, (V.bool false))] 6)) (by kernel_rfl) ?_
    refine Run.ret ?_
    have h := Option.some.inj h; subst h
    exact ⟨(V.bool false), (by kernel_rfl), (by kernel_rfl), hp⟩

theorem c25 {x0 : Int} {r : Bool} (h : F25 x0 = some r) (s : Bool) : Fn T 25 [(V.int .u8 x0)] [] (fun v hh => deep s hh deepN v = some (EB.e r)) := by
  refine (w25 h HP.nil).mono ?_
  rintro v hh ⟨rfl, hp⟩
  exact EB.hd s hh 38 _ (.inr rfl)

/- smithy/smithyref02.Letter -/
abbrev Q23 (L : List Ob) (r : Bool) : V → Heap → Prop := fun v h => v = EB.e r ∧ HP h (L)
abbrev RR23 (L : List Ob) (r : Bool) : List V → Heap → Prop := fun e h => endR none [2] (Q23 L r) e h

def F23 (x0 : Int) : Option Bool :=
  if (decide (x0 ≥ (97 : Int))) then
    if (decide (x0 ≤ (122 : Int))) then
      some true
    else
      if (decide (x0 ≥ (65 : Int))) then
        if (decide (x0 ≤ (90 : Int))) then
          some true
        else
          some (x0 == (95 : Int))
      else
        some (x0 == (95 : Int))
  else
    if (decide (x0 ≥ (65 : Int))) then
      if (decide (x0 ≤ (90 : Int))) then
        some true
      else
        some (x0 == (95 : Int))
    else
      some (x0 == (95 : Int))

theorem w23 {x0 : Int} {r : Bool} (h : F23 x0 = some r) {H : Heap} {L : List Ob} (hp : HP H L) : Fn T 23 [(V.int .u8 x0)] H (Q23 L r) := by
  refine Fn.enterE t23 (e0 := (mkE [(0, (V.int .u8 x0))] 20)) (by kernel_rfl) ?_
  show Run T (.clr [] i23n3) _ _ (finE none [2] (Q23 L r))
  refine Run.clrE (ts := []) (b := i23n3) (e' := (mkE [(0, (V.int .u8 x0))] 20)) (by kernel_rfl) ?_
  unfold F23 at h
  refine Run.seq ?_
  refine Run.rgn ?_
  refine RunO.tk 1 (by kernel_rfl) ?_
  refine RunO.done (e' := (mkE [(0, (V.int .u8 x0))] 20)) (by kernel_rfl) ?_
  refine Run.seq ?_
  refine Run.rgn ?_
  refine RunO.tk 1 (by kernel_rfl) ?_
  rcases Bool.eq_false_or_eq_true (decide (x0 ≥ (97 : Int))) with h15 | h15
  · rw [ite_t h15] at h; refine RunO.p1 (by kernel_rfl) rfl (by kernel_rfl) (bool_of h15) ?_
    refine RunO.tk 2 (by kernel_rfl) ?_
    rcases Bool.eq_false_or_eq_true (decide (x0 ≤ (122 : Int))) with h16 | h16
    · rw [ite_t h16] at h; refine RunO.p1 (by kernel_rfl) rfl (by kernel_rfl) (bool_of h16) ?_
      refine RunO.tk 14 (by kernel_rfl) ?_
      refine RunO.done (e' := (mkE [(2, (V.bool true))] 18)) (by kernel_rfl) ?_
      refine Run.ret ?_
      have h := Option.some.inj h; subst h
      exact ⟨(V.bool true), (by kernel_rfl), (by kernel_rfl), hp⟩
    · rw [ite_f h16] at h; refine RunO.p1 (by kernel_rfl) rfl (by kernel_rfl) (bool_of h16) ?_
      refine RunO.tk 3 (by kernel_rfl) ?_
      rcases Bool.eq_false_or_eq_true (decide (x0 ≥ (65 : Int))) with h17 | h17
      · rw [ite_t h17] at h; refine RunO.p1 (by kernel_rfl) rfl (by kernel_rfl) (bool_of h17) ?_
        refine RunO.tk 2 (by kernel_rfl) ?_
        rcases Bool.eq_false_or_eq_true (decide (x0 ≤ (90 : Int))) with h18 | h18
        · rw [ite_t h18] at h; refine RunO.p1 (by kernel_rfl) rfl (by kernel_rfl) (bool_of h18) ?_
          refine RunO.tk 7 (by kernel_rfl) ?_
          refine RunO.done (e' := (mkE [(2, (V.bool true))] 18)) (by kernel_rfl) ?_
          refine Run.ret ?_
          have h := Option.some.inj h; subst h
          exact ⟨(V.bool true), (by kernel_rfl), (by kernel_rfl), hp⟩
        · rw [ite_f h18] at h; refine RunO.p1 (by kernel_rfl) rfl (by kernel_rfl) (bool_of h18) ?_
          refine RunO.tk 7 (by kernel_rfl) ?_
          refine RunO.done (e' := (mkE [(2, (V.bool (x0 == (95 : Int))))] 18)) (by kernel_rfl) ?_
          refine Run.ret ?_
          have h := Option.some.inj h; subst h
          exact ⟨(V.bool (x0 == (95 : Int))), (by kernel_rfl), (by kernel_rfl), hp⟩
      · rw [ite_f h17] at h; refine RunO.p1 (by kernel_rfl) rfl (by kernel_rfl) (bool_of h17) ?_
        refine RunO.tk 10 (by kernel_rfl) ?_
        refine RunO.done (e' := (mkE [(2, (V.bool (x0 == (95 : Int))))] 18)) (by kernel_rfl) ?_
        refine Run.ret ?_
        have h := Option.some.inj h; subst h
        exact ⟨(V.bool (x0 == (95 : Int))), (by kernel_rfl), (by kernel_rfl), hp⟩
  · rw [ite_f h15] at h; refine RunO.p1 (by kernel_rfl) rfl (by kernel_rfl) (bool_of h15) ?_
    refine RunO.tk 6 (by kernel_rfl) ?_
    rcases Bool.eq_false_or_eq_true (decide (x0 ≥ (65 : Int))) with h19 | h19
    · rw [ite_t h19] at h; refine RunO.p1 (by kernel_rfl) rfl (by kernel_rfl) (bool_of h19) ?_
      refine RunO.tk 2 (by kernel_rfl) ?_
      rcases Bool.eq_false_or_eq_true (decide (x0 ≤ (90 : Int))) with h20 | h20
      · rw [ite_t h20] at h; refine RunO.p1 (by kernel_rfl) rfl (by kernel_rfl) (bool_of h20) ?_
        refine RunO.tk 7 (by kernel_rfl) ?_
        refine RunO.done (e' := (mkE [(2, (V.bool true))] 18)) (by kernel_rfl) ?_
        refine Run.ret ?_
        have h := Option.some.inj h; subst h
        exact ⟨(V.bool true), (by kernel_rfl), (by kernel_rfl), hp⟩
      · rw [ite_f h20] at h; refine RunO.p1 (by kernel_rfl) rfl (by kernel_rfl) (bool_of h20) ?_
        refine RunO.tk 7 (by kernel_rfl) ?_
        refine RunO.done (e' := (mkE [(2, (V.bool (x0 == (95 : Int))))] 18)) (by kernel_rfl) ?_
        refine Run.ret ?_
        have h := Option.some.inj h; subst h
        exact ⟨(V.bool (x0 == (95 : Int))), (by kernel_rfl), (by kernel_rfl), hp⟩
    · rw [ite_f h19] at h; refine RunO.p1 (by kernel_rfl) rfl (by kernel_rfl) (bool_of h19) ?_
      refine RunO.tk 10 (by kernel_rfl) ?_
      refine RunO.done (e' := (mkE [(2, (V.bool (x0 == (95 : Int))))] 18)) (by kernel_rfl) ?_
      refine Run.ret ?_
      have h := Option.some.inj h; subst h
      exact ⟨(V.bool (x0 == (95 : Int))), (by kernel_rfl), (by kernel_rfl), hp⟩

theorem c23 {x0 : Int} {r : Bool} (h : F23 x0 = some r) (s : Bool) : Fn T 23 [(V.int .u8 x0)] [] (fun v hh => deep s hh deepN v = some (EB.e r)) := by
  refine (w23 h HP.nil).mono ?_
  rintro v hh ⟨rfl, hp⟩
  exact EB.hd s hh 38 _ (.inr rfl)

/- smithy/smithyref02.Sign -/
abbrev Q27 (L : List Ob) (r : Int) : V → Heap → Prop := fun v h => v = (EI .i64).e r ∧ HP h (L)
abbrev RR27 (L : List Ob) (r : Int) : List V → Heap → Prop := fun e h => endR none [4] (Q27 L r) e h

abbrev I27_1 (x0 : (List UInt8)) (x1 : Int) (L : List Ob) : (Int) → List V → Heap → Prop := fun s e h => e = (mkE [(0, (ES.e x0)), (0, (V.int .i64 x1)), (3, (V.int .i64 s))] 34) ∧ HP h (L)

abbrev J27_1 (x0 : (List UInt8)) (x1 : Int) (L : List Ob) : Unit → Nat → List V → Heap → Prop := fun a i e h => i = 0 ∧ clrEnv [4, 5, 7, 8, 9, 10, 11, 12, 13, 14, 15, 16, 17, 18, 19, 20, 21, 22, 23, 24, 25, 26, 27, 28, 29] e = (mkE [(0, (ES.e x0)), (0, (V.int .i64 x1))] 38) ∧ HP h (L)

def F27_1_b (x0 : (List UInt8)) (x1 : Int) (y83 : Int) : Option (Stp (Int) Int Unit) :=
  if (decide ((IntKind.i64.wrap (x1 + (2 : Int))) ≤ ((List.length x0 : Nat) : Int))) then
    if (decide ((IntKind.i64.wrap (y83 + (2 : Int))) < (25 : Int))) then
      (part ([32, 61, 61, 32, 33, 61, 32, 60, 61, 32, 62, 61, 32, 60, 60, 32, 62, 62, 32, 38, 38, 32, 124, 124, 32] : List UInt8) (IntKind.i64.wrap (y83 + (1 : Int))) (IntKind.i64.wrap (y83 + (3 : Int)))).bind fun y107 =>
      (part x0 x1 (IntKind.i64.wrap (x1 + (2 : Int)))).bind fun y109 =>
      if (y107 == y109) then
        some (.ret (2 : Int))
      else
        some (.next ((IntKind.i64.wrap (y83 + (3 : Int)))))
    else
      some (.go ())
  else
    some (.go ())

theorem w27_1_b {x0 : (List UInt8)} {x1 : Int} {y83 : Int} {t : (Stp (Int) Int Unit)} (h : F27_1_b x0 x1 y83 = some t) {H : Heap} {L : List Ob} (hp : HP H (L)) :
    Run T i27n13 (mkE [(0, (ES.e x0)), (0, (V.int .i64 x1)), (3, (V.int .i64 y83))] 34) H (stp [4, 7, 8, 9, 10, 11, 12, 13, 14, 15, 16, 17, 18, 19, 20, 21, 22, 23, 24, 25, 26, 27, 28, 29] (I27_1 x0 x1 L) (RR27 L) (J27_1 x0 x1 L) t) := by
  unfold F27_1_b at h
  refine Run.seq ?_
  refine Run.seq ?_
  refine Run.rgn ?_
  refine RunO.tk 4 (by kernel_rfl) ?_
  rcases Bool.eq_false_or_eq_true (decide ((IntKind.i64.wrap (x1 + (2 : Int))) ≤ ((List.length x0 : Nat) : Int))) with h100 | h100
  · rw [ite_t h100] at h; refine RunO.p1 (by kernel_rfl) rfl (by kernel_rfl) (bool_of h100) ?_
    refine RunO.tk 5 (by kernel_rfl) ?_
    refine RunO.done (e' := (mkE [(0, (ES.e x0)), (0, (V.int .i64 x1)), (3, (V.int .i64 y83)), (10, (V.bool (decide ((IntKind.i64.wrap (y83 + (2 : Int))) < (25 : Int)))))] 23)) (by kernel_rfl) ?_
    rcases Bool.eq_false_or_eq_true (decide ((IntKind.i64.wrap (y83 + (2 : Int))) < (25 : Int))) with h101 | h101
    · rw [ite_t h101] at h; refine Run.condT (by rw [← h101]; kernel_rfl) ?_
      refine Run.skip ?_
      refine Run.clrE (ts := [7, 8, 9, 10, 11, 12, 13, 14, 15, 16]) (b := i27n12) (Q := (stp [4, 7, 8, 9, 10, 11, 12, 13, 14, 15, 16, 17, 18, 19, 20, 21, 22, 23, 24, 25, 26, 27, 28, 29] (I27_1 x0 x1 L) (RR27 L) (J27_1 x0 x1 L) t)) (e' := (mkE [(0, (ES.e x0)), (0, (V.int .i64 x1)), (3, (V.int .i64 y83))] 34)) (by kernel_rfl) ?_
      refine Run.seq ?_
      refine Run.block ?_
      refine Run.seq ?_
      refine Run.rgn ?_
      refine RunO.tk 4 (by kernel_rfl) ?_
      obtain ⟨y107, h108, h⟩ := bind_some h
      refine RunO.p1 (by kernel_rfl) rfl (by kernel_rfl) (slc_str .i64 .i64 h108) ?_
      refine RunO.tk 4 (by kernel_rfl) ?_
      obtain ⟨y109, h110, h⟩ := bind_some h
      refine RunO.p1 (by kernel_rfl) rfl (by kernel_rfl) (slc_str .i64 .i64 h110) ?_
      refine RunO.p1 (by kernel_rfl) rfl (by kernel_rfl) (str_eql y107 y109) ?_
      refine RunO.done (e' := (mkE [(0, (ES.e x0)), (0, (V.int .i64 x1)), (3, (V.int .i64 y83)), (23, (V.bool (y107 == y109)))] 10)) (by kernel_rfl) ?_
      rcases Bool.eq_false_or_eq_true (y107 == y109) with h111 | h111
      · rw [ite_t h111] at h; refine Run.condT (by rw [← h111]; kernel_rfl) ?_
        refine Run.seq ?_
        refine Run.rgn ?_
        refine RunO.tk 1 (by kernel_rfl) ?_
        refine RunO.done (e' := (mkE [(4, (V.int .i64 (2 : Int)))] 35)) (by kernel_rfl) ?_
        refine Run.ret ?_
        have h := Option.some.inj h; subst h
        show RR27 L _ _ _
        exact ⟨(V.int .i64 (2 : Int)), (by kernel_rfl), (by kernel_rfl), hp⟩
      · rw [ite_f h111] at h; refine Run.condF (by rw [← h111]; kernel_rfl) ?_
        refine Run.skip ?_
        refine Run.clrE (ts := [4, 19, 20, 21, 22, 23, 24, 25, 26, 27, 28, 29]) (b := (.rgn i27r11)) (Q := (stp [4, 7, 8, 9, 10, 11, 12, 13, 14, 15, 16, 17, 18, 19, 20, 21, 22, 23, 24, 25, 26, 27, 28, 29] (I27_1 x0 x1 L) (RR27 L) (J27_1 x0 x1 L) t)) (e' := (mkE [(0, (ES.e x0)), (0, (V.int .i64 x1)), (3, (V.int .i64 y83))] 34)) (by kernel_rfl) ?_
        refine Run.rgn ?_
        refine RunO.tk 3 (by kernel_rfl) ?_
        refine RunO.nil ?_
        have h := Option.some.inj h; subst h
        show I27_1 x0 x1 L _ _ _
        exact ⟨(by kernel_rfl), hp⟩
    · rw [ite_f h101] at h; refine Run.condF (by rw [← h101]; kernel_rfl) ?_
      refine Run.exit ?_
      have h := Option.some.inj h; subst h
      show J27_1 x0 x1 L () _ _ _
      exact ⟨rfl, (by kernel_rfl), hp⟩
  · rw [ite_f h100] at h; refine RunO.p1 (by kernel_rfl) rfl (by kernel_rfl) (bool_of h100) ?_
    refine RunO.tk 5 (by kernel_rfl) ?_
    refine RunO.done (e' := (mkE [(0, (ES.e x0)), (0, (V.int .i64 x1)), (3, (V.int .i64 y83)), (10, (V.bool false))] 23)) (by kernel_rfl) ?_
    refine Run.condF (by kernel_rfl) ?_
    refine Run.exit ?_
    have h := Option.some.inj h; subst h
    show J27_1 x0 x1 L () _ _ _
    exact ⟨rfl, (by kernel_rfl), hp⟩

abbrev I27_2 (x0 : (List UInt8)) (x1 : Int) (L : List Ob) : (Int) → List V → Heap → Prop := fun s e h => e = (mkE [(0, (ES.e x0)), (0, (V.int .i64 x1)), (4, (V.int .i64 s))] 33) ∧ HP h (L)

abbrev J27_2 (x0 : (List UInt8)) (x1 : Int) (L : List Ob) : Unit → Nat → List V → Heap → Prop := fun a i e h => i = 2 ∧ clrEnv [0, 1, 4, 6, 30, 31, 32, 33, 34, 35, 36, 37, 38, 39] e = (mkE [] 40) ∧ HP h (L)

def F27_2_b (x0 : (List UInt8)) (x1 : Int) (y123 : Int) : Option (Stp (Int) Int Unit) :=
  if (decide (y123 < (20 : Int))) then
    (sidx ([40, 41, 123, 125, 91, 93, 44, 59, 61, 60, 62, 43, 45, 42, 47, 37, 38, 124, 94, 33] : List UInt8) y123).bind fun y143 =>
    (sidx x0 x1).bind fun y145 =>
    if (y143 == y145) then
      some (.ret (1 : Int))
    else
      some (.next ((IntKind.i64.wrap (y123 + (1 : Int)))))
  else
    some (.go ())

theorem w27_2_b {x0 : (List UInt8)} {x1 : Int} {y123 : Int} {t : (Stp (Int) Int Unit)} (h : F27_2_b x0 x1 y123 = some t) {H : Heap} {L : List Ob} (hp : HP H (L)) :
    Run T i27n29 (mkE [(0, (ES.e x0)), (0, (V.int .i64 x1)), (4, (V.int .i64 y123))] 33) H (stp [4, 30, 31, 32, 33, 34, 35, 36, 37, 38, 39] (I27_2 x0 x1 L) (RR27 L) (J27_2 x0 x1 L) t) := by
  unfold F27_2_b at h
  refine Run.seq ?_
  refine Run.seq ?_
  refine Run.rgn ?_
  refine RunO.tk 2 (by kernel_rfl) ?_
  refine RunO.done (e' := (mkE [(0, (ES.e x0)), (0, (V.int .i64 x1)), (4, (V.int .i64 y123)), (24, (V.bool (decide (y123 < (20 : Int)))))] 8)) (by kernel_rfl) ?_
  rcases Bool.eq_false_or_eq_true (decide (y123 < (20 : Int))) with h137 | h137
  · rw [ite_t h137] at h; refine Run.condT (by rw [← h137]; kernel_rfl) ?_
    refine Run.skip ?_
    refine Run.clrE (ts := [30, 31]) (b := i27n28) (Q := (stp [4, 30, 31, 32, 33, 34, 35, 36, 37, 38, 39] (I27_2 x0 x1 L) (RR27 L) (J27_2 x0 x1 L) t)) (e' := (mkE [(0, (ES.e x0)), (0, (V.int .i64 x1)), (4, (V.int .i64 y123))] 33)) (by kernel_rfl) ?_
    refine Run.seq ?_
    refine Run.block ?_
    refine Run.seq ?_
    refine Run.rgn ?_
    refine RunO.tk 1 (by kernel_rfl) ?_
    obtain ⟨y143, h144, h⟩ := bind_some h
    refine RunO.p1 (by kernel_rfl) rfl (by kernel_rfl) (sidx_st .i64 h144) ?_
    refine RunO.tk 2 (by kernel_rfl) ?_
    obtain ⟨y145, h146, h⟩ := bind_some h
    refine RunO.p1 (by kernel_rfl) rfl (by kernel_rfl) (sidx_st .i64 h146) ?_
    refine RunO.tk 1 (by kernel_rfl) ?_
    refine RunO.done (e' := (mkE [(0, (ES.e x0)), (0, (V.int .i64 x1)), (4, (V.int .i64 y123)), (32, (V.bool (y143 == y145)))] 0)) (by kernel_rfl) ?_
    rcases Bool.eq_false_or_eq_true (y143 == y145) with h147 | h147
    · rw [ite_t h147] at h; refine Run.condT (by rw [← h147]; kernel_rfl) ?_
      refine Run.seq ?_
      refine Run.rgn ?_
      refine RunO.tk 1 (by kernel_rfl) ?_
      refine RunO.done (e' := (mkE [(4, (V.int .i64 (1 : Int)))] 35)) (by kernel_rfl) ?_
      refine Run.ret ?_
      have h := Option.some.inj h; subst h
      show RR27 L _ _ _
      exact ⟨(V.int .i64 (1 : Int)), (by kernel_rfl), (by kernel_rfl), hp⟩
    · rw [ite_f h147] at h; refine Run.condF (by rw [← h147]; kernel_rfl) ?_
      refine Run.skip ?_
      refine Run.clrE (ts := [4, 34, 35, 36, 37, 38, 39]) (b := (.rgn i27r27)) (Q := (stp [4, 30, 31, 32, 33, 34, 35, 36, 37, 38, 39] (I27_2 x0 x1 L) (RR27 L) (J27_2 x0 x1 L) t)) (e' := (mkE [(0, (ES.e x0)), (0, (V.int .i64 x1)), (4, (V.int .i64 y123))] 33)) (by kernel_rfl) ?_
      refine Run.rgn ?_
      refine RunO.tk 3 (by kernel_rfl) ?_
      refine RunO.nil ?_
      have h := Option.some.inj h; subst h
      show I27_2 x0 x1 L _ _ _
      exact ⟨(by kernel_rfl), hp⟩
  · rw [ite_f h137] at h; refine Run.condF (by rw [← h137]; kernel_rfl) ?_
    refine Run.exit ?_
    have h := Option.some.inj h; subst h
    show J27_2 x0 x1 L () _ _ _
    exact ⟨rfl, (by kernel_rfl), hp⟩

def F27 (x0 : (List UInt8)) (x1 : Int) : Option Int :=
  (iter (fun s : (Int) => F27_1_b x0 x1 s) FUEL ((0 : Int))).bind fun o => match o with
  | .ret r => some r
  | .go () =>
    (iter (fun s : (Int) => F27_2_b x0 x1 s) FUEL ((0 : Int))).bind fun o => match o with
    | .ret r => some r
    | .go () =>
      some (0 : Int)

theorem w27 {x0 : (List UInt8)} {x1 : Int} {r : Int} (h : F27 x0 x1 = some r) {H : Heap} {L : List Ob} (hp : HP H L) : Fn T 27 [(ES.e x0), (V.int .i64 x1)] H (Q27 L r) := by
  refine Fn.enterE t27 (e0 := (mkE [(0, (ES.e x0)), (0, (V.int .i64 x1))] 38)) (by kernel_rfl) ?_
  show Run T (.clr [] i27n37) _ _ (finE none [4] (Q27 L r))
  refine Run.clrE (ts := []) (b := i27n37) (e' := (mkE [(0, (ES.e x0)), (0, (V.int .i64 x1))] 38)) (by kernel_rfl) ?_
  unfold F27 at h
  refine Run.seq ?_
  refine Run.rgn ?_
  refine RunO.tk 1 (by kernel_rfl) ?_
  refine RunO.done (e' := (mkE [(0, (ES.e x0)), (0, (V.int .i64 x1))] 38)) (by kernel_rfl) ?_
  refine Run.seq ?_
  refine Run.seq ?_
  refine Run.rgn ?_
  refine RunO.tk 1 (by kernel_rfl) ?_
  refine RunO.done (e' := (mkE [(0, (ES.e x0)), (0, (V.int .i64 x1)), (3, (V.int .i64 (0 : Int)))] 34)) (by kernel_rfl) ?_
  refine Run.block ?_
  obtain ⟨o, h112, h⟩ := bind_some h
  refine (Run.iter (I := I27_1 x0 x1 L) (RR := RR27 L) (J := J27_1 x0 x1 L) (fun s e h' t hI hf => ?_) FUEL h112 (by exact ⟨(by kernel_rfl), hp⟩)).mono ?_
  · obtain ⟨rfl, hp⟩ := hI; exact w27_1_b hf hp
  · rintro X e' H hq
    cases o with
    | ret r => cases X <;> first | exact hq.elim | (cases h; exact hq)
    | go a => 
      cases X with | nrm => exact hq.elim | ret => exact hq.elim | ext i => ?_
      obtain ⟨rfl, he, hp⟩ := hq
      dsimp only at h
      refine Run.clrE (ts := [4, 5, 7, 8, 9, 10, 11, 12, 13, 14, 15, 16, 17, 18, 19, 20, 21, 22, 23, 24, 25, 26, 27, 28, 29]) (b := i27n35) (Q := (finE none [4] (Q27 L r))) he ?_
      refine Run.seq ?_
      refine Run.seq ?_
      refine Run.rgn ?_
      refine RunO.tk 1 (by kernel_rfl) ?_
      refine RunO.done (e' := (mkE [(0, (ES.e x0)), (0, (V.int .i64 x1)), (4, (V.int .i64 (0 : Int)))] 33)) (by kernel_rfl) ?_
      refine Run.block ?_
      obtain ⟨o, h148, h⟩ := bind_some h
      refine (Run.iter (I := I27_2 x0 x1 L) (RR := RR27 L) (J := J27_2 x0 x1 L) (fun s e h' t hI hf => ?_) FUEL h148 (by exact ⟨(by kernel_rfl), hp⟩)).mono ?_
      · obtain ⟨rfl, hp⟩ := hI; exact w27_2_b hf hp
      · rintro X e' H hq
        cases o with
        | ret r => cases X <;> first | exact hq.elim | (cases h; exact hq)
        | go a => 
          cases X with | nrm => exact hq.elim | ret => exact hq.elim | ext i => ?_
          obtain ⟨rfl, he, hp⟩ := hq
          dsimp only at h
          refine Run.clrE (ts := [0, 1, 4, 6, 30, 31, 32, 33, 34, 35, 36, 37, 38, 39]) (b := i27n34) (Q := (finE none [4] (Q27 L r))) he ?_
          refine Run.seq ?_
          refine Run.rgn ?_
          refine RunO.tk 1 (by kernel_rfl) ?_
          refine RunO.done (e' := (mkE [(4, (V.int .i64 (0 : Int)))] 35)) (by kernel_rfl) ?_
          refine Run.ret ?_
          have h := Option.some.inj h; subst h
          exact ⟨(V.int .i64 (0 : Int)), (by kernel_rfl), (by kernel_rfl), hp⟩

theorem c27 {x0 : (List UInt8)} {x1 : Int} {r : Int} (h : F27 x0 x1 = some r) (s : Bool) : Fn T 27 [(ES.e x0), (V.int .i64 x1)] [] (fun v hh => deep s hh deepN v = some ((EI .i64).e r)) := by
  refine (w27 h HP.nil).mono ?_
  rintro v hh ⟨rfl, hp⟩
  exact (EI .i64).hd s hh 38 _ (.inr rfl)

/- smithy/smithyref02.row -/
abbrev Q24 (L : List Ob) (r : Int) : V → Heap → Prop := fun v h => v = (EI .i64).e r ∧ HP h (L)
abbrev RR24 (L : List Ob) (r : Int) : List V → Heap → Prop := fun e h => endR none [6] (Q24 L r) e h

abbrev I24_1 (x0 : (List UInt8)) (x2 : Bool) (L : List Ob) : (Int) → List V → Heap → Prop := fun s e h => e = (mkE [(0, (ES.e x0)), (0, (V.int .i64 s)), (0, (V.bool x2))] 26) ∧ HP h (L)

abbrev J24_1 (x0 : (List UInt8)) (x2 : Bool) (L : List Ob) : (Int) → Nat → List V → Heap → Prop := fun a i e h => i = 0 ∧ clrEnv [0, 2, 7, 8, 9, 10, 11, 12, 13, 14, 15, 16, 17, 18, 19, 20, 21, 22, 23, 24, 25, 26, 27] e = (mkE [(1, (V.int .i64 a))] 27) ∧ HP h (L)

def F24_j1 (x0 : (List UInt8)) (x2 : Bool) (y223 : Int) : Option (Stp (Int) Int (Int)) :=
  some (.next ((IntKind.i64.wrap (y223 + (1 : Int)))))

theorem w24_j1 {x0 : (List UInt8)} {x2 : Bool} {y223 : Int} {t : (Stp (Int) Int (Int))} (h : F24_j1 x0 x2 y223 = some t) {H : Heap} {L : List Ob} (hp : HP H (L)) :
    Run T i24n5 (mkE [(0, (ES.e x0)), (0, (V.int .i64 y223)), (0, (V.bool x2))] 26) H (stp [7, 8, 9, 10, 11, 12, 13, 14, 15, 16, 17, 18, 19, 20, 21, 22, 23, 24, 25, 26, 27] (I24_1 x0 x2 L) (RR24 L) (J24_1 x0 x2 L) t) := by
  unfold F24_j1 at h
  refine Run.block ?_
  refine Run.rgn ?_
  refine RunO.tk 3 (by kernel_rfl) ?_
  refine RunO.nil ?_
  have h := Option.some.inj h; subst h
  show I24_1 x0 x2 L _ _ _
  exact ⟨(by kernel_rfl), hp⟩

def F24_1_b (x0 : (List UInt8)) (x2 : Bool) (y223 : Int) : Option (Stp (Int) Int (Int)) :=
  if (decide (y223 < ((List.length x0 : Nat) : Int))) then
    (sidx x0 y223).bind fun y262 =>
    (F25 y262).bind fun y264 =>
    if y264 then
      F24_j1 x0 x2 y223
    else
      if x2 then
        (sidx x0 y223).bind fun y268 =>
        (F23 y268).bind fun y270 =>
        if y270 then
          F24_j1 x0 x2 y223
        else
          some (.go (y223))
      else
        some (.go (y223))
  else
    some (.go (y223))

theorem w24_1_b {x0 : (List UInt8)} {x2 : Bool} {y223 : Int} {t : (Stp (Int) Int (Int))} (h : F24_1_b x0 x2 y223 = some t) {H : Heap} {L : List Ob} (hp : HP H (L)) :
    Run T i24n6 (mkE [(0, (ES.e x0)), (0, (V.int .i64 y223)), (0, (V.bool x2))] 26) H (stp [7, 8, 9, 10, 11, 12, 13, 14, 15, 16, 17, 18, 19, 20, 21, 22, 23, 24, 25, 26, 27] (I24_1 x0 x2 L) (RR24 L) (J24_1 x0 x2 L) t) := by
  unfold F24_1_b at h
  refine Run.seq ?_
  refine Run.seq ?_
  refine Run.rgn ?_
  refine RunO.tk 3 (by kernel_rfl) ?_
  rcases Bool.eq_false_or_eq_true (decide (y223 < ((List.length x0 : Nat) : Int))) with h261 | h261
  · rw [ite_t h261] at h; refine RunO.p1 (by kernel_rfl) rfl (by kernel_rfl) (bool_of h261) ?_
    refine RunO.tk 3 (by kernel_rfl) ?_
    obtain ⟨y262, h263, h⟩ := bind_some h
    refine RunO.p1 (by kernel_rfl) rfl (by kernel_rfl) (sidx_st .i64 h263) ?_
    obtain ⟨y264, h265, h⟩ := bind_some h
    refine RunO.c1 (by kernel_rfl) (by kernel_rfl) (c25 h265 _) ?_
    rcases Bool.eq_false_or_eq_true y264 with h266 | h266
    · rw [ite_t h266] at h; refine RunO.p1 (by kernel_rfl) rfl (by kernel_rfl) (bool_of h266) ?_
      refine RunO.tk 9 (by kernel_rfl) ?_
      refine RunO.done (e' := (mkE [(0, (ES.e x0)), (0, (V.int .i64 y223)), (0, (V.bool x2)), (22, (V.bool true))] 3)) (by kernel_rfl) ?_
      refine Run.condT (by kernel_rfl) ?_
      refine Run.skip ?_
      refine Run.clrE (ts := [7, 8, 9, 10, 11, 12, 13, 14, 15, 16, 17, 18, 19, 20, 21, 22, 23, 24, 25]) (b := i24n5) (Q := (stp [7, 8, 9, 10, 11, 12, 13, 14, 15, 16, 17, 18, 19, 20, 21, 22, 23, 24, 25, 26, 27] (I24_1 x0 x2 L) (RR24 L) (J24_1 x0 x2 L) t)) (e' := (mkE [(0, (ES.e x0)), (0, (V.int .i64 y223)), (0, (V.bool x2))] 26)) (by kernel_rfl) ?_
      exact w24_j1 h hp
    · rw [ite_f h266] at h; refine RunO.p1 (by kernel_rfl) rfl (by kernel_rfl) (bool_of h266) ?_
      rcases Bool.eq_false_or_eq_true x2 with h267 | h267
      · rw [ite_t h267] at h; refine RunO.p1 (by kernel_rfl) rfl (by kernel_rfl) (bool_of h267) ?_
        refine RunO.tk 3 (by kernel_rfl) ?_
        obtain ⟨y268, h269, h⟩ := bind_some h
        refine RunO.p1 (by kernel_rfl) rfl (by kernel_rfl) (sidx_st .i64 h269) ?_
        obtain ⟨y270, h271, h⟩ := bind_some h
        refine RunO.c1 (by kernel_rfl) (by kernel_rfl) (c23 h271 _) ?_
        refine RunO.tk 3 (by kernel_rfl) ?_
        refine RunO.done (e' := (mkE [(0, (ES.e x0)), (0, (V.int .i64 y223)), (0, (V.bool x2)), (22, (V.bool y270))] 3)) (by kernel_rfl) ?_
        rcases Bool.eq_false_or_eq_true y270 with h272 | h272
        · rw [ite_t h272] at h; refine Run.condT (by rw [← h272]; kernel_rfl) ?_
          refine Run.skip ?_
          refine Run.clrE (ts := [7, 8, 9, 10, 11, 12, 13, 14, 15, 16, 17, 18, 19, 20, 21, 22, 23, 24, 25]) (b := i24n5) (Q := (stp [7, 8, 9, 10, 11, 12, 13, 14, 15, 16, 17, 18, 19, 20, 21, 22, 23, 24, 25, 26, 27] (I24_1 x0 x2 L) (RR24 L) (J24_1 x0 x2 L) t)) (e' := (mkE [(0, (ES.e x0)), (0, (V.int .i64 y223)), (0, (V.bool x2))] 26)) (by kernel_rfl) ?_
          exact w24_j1 h hp
        · rw [ite_f h272] at h; refine Run.condF (by rw [← h272]; kernel_rfl) ?_
          refine Run.exit ?_
          have h := Option.some.inj h; subst h
          show J24_1 x0 x2 L _ _ _ _
          exact ⟨rfl, (by kernel_rfl), hp⟩
      · rw [ite_f h267] at h; refine RunO.p1 (by kernel_rfl) rfl (by kernel_rfl) (bool_of h267) ?_
        refine RunO.tk 8 (by kernel_rfl) ?_
        refine RunO.done (e' := (mkE [(0, (ES.e x0)), (0, (V.int .i64 y223)), (0, (V.bool x2)), (22, (V.bool false))] 3)) (by kernel_rfl) ?_
        refine Run.condF (by kernel_rfl) ?_
        refine Run.exit ?_
        have h := Option.some.inj h; subst h
        show J24_1 x0 x2 L _ _ _ _
        exact ⟨rfl, (by kernel_rfl), hp⟩
  · rw [ite_f h261] at h; refine RunO.p1 (by kernel_rfl) rfl (by kernel_rfl) (bool_of h261) ?_
    refine RunO.tk 15 (by kernel_rfl) ?_
    refine RunO.done (e' := (mkE [(0, (ES.e x0)), (0, (V.int .i64 y223)), (0, (V.bool x2)), (22, (V.bool false))] 3)) (by kernel_rfl) ?_
    refine Run.condF (by kernel_rfl) ?_
    refine Run.exit ?_
    have h := Option.some.inj h; subst h
    show J24_1 x0 x2 L _ _ _ _
    exact ⟨rfl, (by kernel_rfl), hp⟩

def F24 (x0 : (List UInt8)) (x1 : Int) (x2 : Bool) : Option Int :=
  (iter (fun s : (Int) => F24_1_b x0 x2 s) FUEL (x1)).bind fun o => match o with
  | .ret r => some r
  | .go (y248) =>
    some y248

theorem w24 {x0 : (List UInt8)} {x1 : Int} {x2 : Bool} {r : Int} (h : F24 x0 x1 x2 = some r) {H : Heap} {L : List Ob} (hp : HP H L) : Fn T 24 [(ES.e x0), (V.int .i64 x1), (V.bool x2)] H (Q24 L r) := by
  refine Fn.enterE t24 (e0 := (mkE [(0, (ES.e x0)), (0, (V.int .i64 x1)), (0, (V.bool x2))] 26)) (by kernel_rfl) ?_
  show Run T (.clr [] i24n12) _ _ (finE none [6] (Q24 L r))
  refine Run.clrE (ts := []) (b := i24n12) (e' := (mkE [(0, (ES.e x0)), (0, (V.int .i64 x1)), (0, (V.bool x2))] 26)) (by kernel_rfl) ?_
  unfold F24 at h
  refine Run.seq ?_
  refine Run.rgn ?_
  refine RunO.tk 1 (by kernel_rfl) ?_
  refine RunO.done (e' := (mkE [(0, (ES.e x0)), (0, (V.int .i64 x1)), (0, (V.bool x2))] 26)) (by kernel_rfl) ?_
  refine Run.seq ?_
  refine Run.block ?_
  obtain ⟨o, h273, h⟩ := bind_some h
  refine (Run.iter (I := I24_1 x0 x2 L) (RR := RR24 L) (J := J24_1 x0 x2 L) (fun s e h' t hI hf => ?_) FUEL h273 (by exact ⟨(by kernel_rfl), hp⟩)).mono ?_
  · obtain ⟨rfl, hp⟩ := hI; exact w24_1_b hf hp
  · rintro X e' H hq
    cases o with
    | ret r => cases X <;> first | exact hq.elim | (cases h; exact hq)
    | go y248 => 
      cases X with | nrm => exact hq.elim | ret => exact hq.elim | ext i => ?_
      obtain ⟨rfl, he, hp⟩ := hq
      dsimp only at h
      refine Run.clrE (ts := [0, 2, 7, 8, 9, 10, 11, 12, 13, 14, 15, 16, 17, 18, 19, 20, 21, 22, 23, 24, 25, 26, 27]) (b := i24n10) (Q := (finE none [6] (Q24 L r))) he ?_
      refine Run.seq ?_
      refine Run.rgn ?_
      refine RunO.tk 2 (by kernel_rfl) ?_
      refine RunO.done (e' := (mkE [(6, (V.int .i64 y248))] 22)) (by kernel_rfl) ?_
      refine Run.ret ?_
      have h := Option.some.inj h; subst h
      exact ⟨(V.int .i64 y248), (by kernel_rfl), (by kernel_rfl), hp⟩

theorem c24 {x0 : (List UInt8)} {x1 : Int} {x2 : Bool} {r : Int} (h : F24 x0 x1 x2 = some r) (s : Bool) : Fn T 24 [(ES.e x0), (V.int .i64 x1), (V.bool x2)] [] (fun v hh => deep s hh deepN v = some ((EI .i64).e r)) := by
  refine (w24 h HP.nil).mono ?_
  rintro v hh ⟨rfl, hp⟩
  exact (EI .i64).hd s hh 38 _ (.inr rfl)

/- smithy/smithyref02.Word -/
abbrev Q15 (L : List Ob) (r : Bool) : V → Heap → Prop := fun v h => v = EB.e r ∧ HP h (L)
abbrev RR15 (L : List Ob) (r : Bool) : List V → Heap → Prop := fun e h => endR none [2] (Q15 L r) e h

abbrev I15_1 (x0 : (List UInt8)) (L : List Ob) : (Int) → List V → Heap → Prop := fun s e h => e = (mkE [(0, (ES.e x0)), (2, (V.int .i64 s))] 46) ∧ HP h (L)

abbrev J15_1 (x0 : (List UInt8)) (L : List Ob) : Unit → Nat → List V → Heap → Prop := fun a i e h => i = 0 ∧ clrEnv [2, 3, 5, 6, 7, 8, 9, 10, 11, 12, 13, 14] e = (mkE [(0, (ES.e x0))] 49) ∧ HP h (L)

def F15_1_b (x0 : (List UInt8)) (y340 : Int) : Option (Stp (Int) Bool Unit) :=
  if (decide (y340 < ((List.length x0 : Nat) : Int))) then
    (sidx x0 y340).bind fun y354 =>
    if (y354 == (32 : Int)) then
      some (.ret false)
    else
      some (.next ((IntKind.i64.wrap (y340 + (1 : Int)))))
  else
    some (.go ())

theorem w15_1_b {x0 : (List UInt8)} {y340 : Int} {t : (Stp (Int) Bool Unit)} (h : F15_1_b x0 y340 = some t) {H : Heap} {L : List Ob} (hp : HP H (L)) :
    Run T i15n13 (mkE [(0, (ES.e x0)), (2, (V.int .i64 y340))] 46) H (stp [2, 5, 6, 7, 8, 9, 10, 11, 12, 13, 14] (I15_1 x0 L) (RR15 L) (J15_1 x0 L) t) := by
  unfold F15_1_b at h
  refine Run.seq ?_
  refine Run.seq ?_
  refine Run.rgn ?_
  refine RunO.tk 4 (by kernel_rfl) ?_
  refine RunO.done (e' := (mkE [(0, (ES.e x0)), (2, (V.int .i64 y340)), (4, (V.bool (decide (y340 < ((List.length x0 : Nat) : Int)))))] 41)) (by kernel_rfl) ?_
  rcases Bool.eq_false_or_eq_true (decide (y340 < ((List.length x0 : Nat) : Int))) with h350 | h350
  · rw [ite_t h350] at h; refine Run.condT (by rw [← h350]; kernel_rfl) ?_
    refine Run.skip ?_
    refine Run.clrE (ts := [5, 6, 7, 8]) (b := i15n12) (Q := (stp [2, 5, 6, 7, 8, 9, 10, 11, 12, 13, 14] (I15_1 x0 L) (RR15 L) (J15_1 x0 L) t)) (e' := (mkE [(0, (ES.e x0)), (2, (V.int .i64 y340))] 46)) (by kernel_rfl) ?_
    refine Run.seq ?_
    refine Run.block ?_
    refine Run.seq ?_
    refine Run.rgn ?_
    refine RunO.tk 2 (by kernel_rfl) ?_
    obtain ⟨y354, h355, h⟩ := bind_some h
    refine RunO.p1 (by kernel_rfl) rfl (by kernel_rfl) (sidx_st .i64 h355) ?_
    refine RunO.tk 1 (by kernel_rfl) ?_
    refine RunO.done (e' := (mkE [(0, (ES.e x0)), (2, (V.int .i64 y340)), (10, (V.bool (y354 == (32 : Int))))] 35)) (by kernel_rfl) ?_
    rcases Bool.eq_false_or_eq_true (y354 == (32 : Int)) with h356 | h356
    · rw [ite_t h356] at h; refine Run.condT (by rw [← h356]; kernel_rfl) ?_
      refine Run.seq ?_
      refine Run.rgn ?_
      refine RunO.tk 1 (by kernel_rfl) ?_
      refine RunO.done (e' := (mkE [(2, (V.bool false))] 47)) (by kernel_rfl) ?_
      refine Run.ret ?_
      have h := Option.some.inj h; subst h
      show RR15 L _ _ _
      exact ⟨(V.bool false), (by kernel_rfl), (by kernel_rfl), hp⟩
    · rw [ite_f h356] at h; refine Run.condF (by rw [← h356]; kernel_rfl) ?_
      refine Run.skip ?_
      refine Run.clrE (ts := [2, 11, 12, 13, 14]) (b := (.rgn i15r11)) (Q := (stp [2, 5, 6, 7, 8, 9, 10, 11, 12, 13, 14] (I15_1 x0 L) (RR15 L) (J15_1 x0 L) t)) (e' := (mkE [(0, (ES.e x0)), (2, (V.int .i64 y340))] 46)) (by kernel_rfl) ?_
      refine Run.rgn ?_
      refine RunO.tk 3 (by kernel_rfl) ?_
      refine RunO.nil ?_
      have h := Option.some.inj h; subst h
      show I15_1 x0 L _ _ _
      exact ⟨(by kernel_rfl), hp⟩
  · rw [ite_f h350] at h; refine Run.condF (by rw [← h350]; kernel_rfl) ?_
    refine Run.exit ?_
    have h := Option.some.inj h; subst h
    show J15_1 x0 L () _ _ _
    exact ⟨rfl, (by kernel_rfl), hp⟩

abbrev I15_2 (x0 : (List UInt8)) (L : List Ob) : (Int) → List V → Heap → Prop := fun s e h => e = (mkE [(0, (ES.e x0)), (3, (V.int .i64 s))] 45) ∧ HP h (L)

abbrev J15_2 (x0 : (List UInt8)) (L : List Ob) : Unit → Nat → List V → Heap → Prop := fun a i e h => i = 2 ∧ clrEnv [0, 2, 4, 15, 16, 17, 18, 19, 20, 21, 22, 23, 24, 25, 26, 27, 28, 29, 30, 31, 32, 33, 34, 35, 36, 37, 38, 39, 40, 41, 42, 43, 44, 45, 46, 47, 48, 49] e = (mkE [] 50) ∧ HP h (L)

def F15_j1 (x0 : (List UInt8)) (y378 : Int) : Option (Stp (Int) Bool Unit) :=
  some (.next ((IntKind.i64.wrap (y378 + (1 : Int)))))

theorem w15_j1 {x0 : (List UInt8)} {y378 : Int} {t : (Stp (Int) Bool Unit)} (h : F15_j1 x0 y378 = some t) {H : Heap} {L : List Ob} (hp : HP H (L)) :
    Run T (.rgn i15r27) (mkE [(0, (ES.e x0)), (3, (V.int .i64 y378))] 45) H (stp [2, 15, 16, 17, 18, 19, 20, 21, 22, 23, 24, 25, 26, 27, 28, 29, 30, 31, 32, 33, 34, 35, 36, 37, 38, 39, 40, 41, 42, 43, 44, 45, 46, 47, 48, 49] (I15_2 x0 L) (RR15 L) (J15_2 x0 L) t) := by
  unfold F15_j1 at h
  refine Run.rgn ?_
  refine RunO.tk 3 (by kernel_rfl) ?_
  refine RunO.nil ?_
  have h := Option.some.inj h; subst h
  show I15_2 x0 L _ _ _
  exact ⟨(by kernel_rfl), hp⟩

def F15_2_b (x0 : (List UInt8)) (y378 : Int) : Option (Stp (Int) Bool Unit) :=
  if (decide ((IntKind.i64.wrap ((IntKind.i64.wrap (y378 + ((List.length x0 : Nat) : Int))) + (2 : Int))) ≤ (83 : Int))) then
    (sidx ([32, 102, 117, 110, 99, 32, 118, 97, 114, 32, 105, 102, 32, 101, 108, 115, 101, 32, 119, 104, 105, 108, 101, 32, 98, 114, 101, 97, 107, 32, 99, 111, 110, 116, 105, 110, 117, 101, 32, 114, 101, 116, 117, 114, 110, 32, 112, 114, 105, 110, 116, 32, 116, 114, 117, 101, 32, 102, 97, 108, 115, 101, 32, 105, 54, 52, 32, 105, 51, 50, 32, 117, 56, 32, 98, 111, 111, 108, 32, 102, 54, 52, 32] : List UInt8) y378).bind fun y410 =>
    if (y410 == (32 : Int)) then
      (part ([32, 102, 117, 110, 99, 32, 118, 97, 114, 32, 105, 102, 32, 101, 108, 115, 101, 32, 119, 104, 105, 108, 101, 32, 98, 114, 101, 97, 107, 32, 99, 111, 110, 116, 105, 110, 117, 101, 32, 114, 101, 116, 117, 114, 110, 32, 112, 114, 105, 110, 116, 32, 116, 114, 117, 101, 32, 102, 97, 108, 115, 101, 32, 105, 54, 52, 32, 105, 51, 50, 32, 117, 56, 32, 98, 111, 111, 108, 32, 102, 54, 52, 32] : List UInt8) (IntKind.i64.wrap (y378 + (1 : Int))) (IntKind.i64.wrap ((IntKind.i64.wrap (y378 + (1 : Int))) + ((List.length x0 : Nat) : Int)))).bind fun y413 =>
      if (y413 == x0) then
        (sidx ([32, 102, 117, 110, 99, 32, 118, 97, 114, 32, 105, 102, 32, 101, 108, 115, 101, 32, 119, 104, 105, 108, 101, 32, 98, 114, 101, 97, 107, 32, 99, 111, 110, 116, 105, 110, 117, 101, 32, 114, 101, 116, 117, 114, 110, 32, 112, 114, 105, 110, 116, 32, 116, 114, 117, 101, 32, 102, 97, 108, 115, 101, 32, 105, 54, 52, 32, 105, 51, 50, 32, 117, 56, 32, 98, 111, 111, 108, 32, 102, 54, 52, 32] : List UInt8) (IntKind.i64.wrap ((IntKind.i64.wrap (y378 + (1 : Int))) + ((List.length x0 : Nat) : Int)))).bind fun y416 =>
        if (y416 == (32 : Int)) then
          some (.ret (decide (((List.length x0 : Nat) : Int) > (0 : Int))))
        else
          F15_j1 x0 y378
      else
        F15_j1 x0 y378
    else
      F15_j1 x0 y378
  else
    some (.go ())

theorem w15_2_b {x0 : (List UInt8)} {y378 : Int} {t : (Stp (Int) Bool Unit)} (h : F15_2_b x0 y378 = some t) {H : Heap} {L : List Ob} (hp : HP H (L)) :
    Run T i15n29 (mkE [(0, (ES.e x0)), (3, (V.int .i64 y378))] 45) H (stp [2, 15, 16, 17, 18, 19, 20, 21, 22, 23, 24, 25, 26, 27, 28, 29, 30, 31, 32, 33, 34, 35, 36, 37, 38, 39, 40, 41, 42, 43, 44, 45, 46, 47, 48, 49] (I15_2 x0 L) (RR15 L) (J15_2 x0 L) t) := by
  unfold F15_2_b at h
  refine Run.seq ?_
  refine Run.seq ?_
  refine Run.rgn ?_
  refine RunO.tk 6 (by kernel_rfl) ?_
  refine RunO.done (e' := (mkE [(0, (ES.e x0)), (3, (V.int .i64 y378)), (15, (V.bool (decide ((IntKind.i64.wrap ((IntKind.i64.wrap (y378 + ((List.length x0 : Nat) : Int))) + (2 : Int))) ≤ (83 : Int)))))] 29)) (by kernel_rfl) ?_
  rcases Bool.eq_false_or_eq_true (decide ((IntKind.i64.wrap ((IntKind.i64.wrap (y378 + ((List.length x0 : Nat) : Int))) + (2 : Int))) ≤ (83 : Int))) with h400 | h400
  · rw [ite_t h400] at h; refine Run.condT (by rw [← h400]; kernel_rfl) ?_
    refine Run.skip ?_
    refine Run.clrE (ts := [15, 16, 17, 18, 19, 20]) (b := i15n28) (Q := (stp [2, 15, 16, 17, 18, 19, 20, 21, 22, 23, 24, 25, 26, 27, 28, 29, 30, 31, 32, 33, 34, 35, 36, 37, 38, 39, 40, 41, 42, 43, 44, 45, 46, 47, 48, 49] (I15_2 x0 L) (RR15 L) (J15_2 x0 L) t)) (e' := (mkE [(0, (ES.e x0)), (3, (V.int .i64 y378))] 45)) (by kernel_rfl) ?_
    refine Run.seq ?_
    refine Run.block ?_
    refine Run.seq ?_
    refine Run.rgn ?_
    refine RunO.tk 1 (by kernel_rfl) ?_
    obtain ⟨y410, h411, h⟩ := bind_some h
    refine RunO.p1 (by kernel_rfl) rfl (by kernel_rfl) (sidx_st .i64 h411) ?_
    rcases Bool.eq_false_or_eq_true (y410 == (32 : Int)) with h412 | h412
    · rw [ite_t h412] at h; refine RunO.p1 (by kernel_rfl) rfl (by kernel_rfl) (bool_of h412) ?_
      refine RunO.tk 8 (by kernel_rfl) ?_
      obtain ⟨y413, h414, h⟩ := bind_some h
      refine RunO.p1 (by kernel_rfl) rfl (by kernel_rfl) (slc_str .i64 .i64 h414) ?_
      refine RunO.tk 1 (by kernel_rfl) ?_
      rcases Bool.eq_false_or_eq_true (y413 == x0) with h415 | h415
      · rw [ite_t h415] at h; refine RunO.p1 (by kernel_rfl) rfl (by kernel_rfl) (Eq.trans (str_eql y413 x0) (bool_of h415)) ?_
        refine RunO.tk 7 (by kernel_rfl) ?_
        obtain ⟨y416, h417, h⟩ := bind_some h
        refine RunO.p1 (by kernel_rfl) rfl (by kernel_rfl) (sidx_st .i64 h417) ?_
        refine RunO.tk 2 (by kernel_rfl) ?_
        refine RunO.done (e' := (mkE [(0, (ES.e x0)), (3, (V.int .i64 y378)), (41, (V.bool (y416 == (32 : Int))))] 3)) (by kernel_rfl) ?_
        rcases Bool.eq_false_or_eq_true (y416 == (32 : Int)) with h418 | h418
        · rw [ite_t h418] at h; refine Run.condT (by rw [← h418]; kernel_rfl) ?_
          refine Run.seq ?_
          refine Run.rgn ?_
          refine RunO.tk 4 (by kernel_rfl) ?_
          refine RunO.done (e' := (mkE [(2, (V.bool (decide (((List.length x0 : Nat) : Int) > (0 : Int)))))] 47)) (by kernel_rfl) ?_
          refine Run.ret ?_
          have h := Option.some.inj h; subst h
          show RR15 L _ _ _
          exact ⟨(V.bool (decide (((List.length x0 : Nat) : Int) > (0 : Int)))), (by kernel_rfl), (by kernel_rfl), hp⟩
        · rw [ite_f h418] at h; refine Run.condF (by rw [← h418]; kernel_rfl) ?_
          refine Run.skip ?_
          refine Run.clrE (ts := [2, 23, 24, 25, 26, 27, 28, 29, 30, 31, 32, 33, 34, 35, 36, 37, 38, 39, 40, 41, 42, 43, 44, 45, 46, 47, 48, 49]) (b := (.rgn i15r27)) (Q := (stp [2, 15, 16, 17, 18, 19, 20, 21, 22, 23, 24, 25, 26, 27, 28, 29, 30, 31, 32, 33, 34, 35, 36, 37, 38, 39, 40, 41, 42, 43, 44, 45, 46, 47, 48, 49] (I15_2 x0 L) (RR15 L) (J15_2 x0 L) t)) (e' := (mkE [(0, (ES.e x0)), (3, (V.int .i64 y378))] 45)) (by kernel_rfl) ?_
          exact w15_j1 h hp
      · rw [ite_f h415] at h; refine RunO.p1 (by kernel_rfl) rfl (by kernel_rfl) (Eq.trans (str_eql y413 x0) (bool_of h415)) ?_
        refine RunO.tk 10 (by kernel_rfl) ?_
        refine RunO.done (e' := (mkE [(0, (ES.e x0)), (3, (V.int .i64 y378)), (41, (V.bool false))] 3)) (by kernel_rfl) ?_
        refine Run.condF (by kernel_rfl) ?_
        refine Run.skip ?_
        refine Run.clrE (ts := [2, 23, 24, 25, 26, 27, 28, 29, 30, 31, 32, 33, 34, 35, 36, 37, 38, 39, 40, 41, 42, 43, 44, 45, 46, 47, 48, 49]) (b := (.rgn i15r27)) (Q := (stp [2, 15, 16, 17, 18, 19, 20, 21, 22, 23, 24, 25, 26, 27, 28, 29, 30, 31, 32, 33, 34, 35, 36, 37, 38, 39, 40, 41, 42, 43, 44, 45, 46, 47, 48, 49] (I15_2 x0 L) (RR15 L) (J15_2 x0 L) t)) (e' := (mkE [(0, (ES.e x0)), (3, (V.int .i64 y378))] 45)) (by kernel_rfl) ?_
        exact w15_j1 h hp
    · rw [ite_f h412] at h; refine RunO.p1 (by kernel_rfl) rfl (by kernel_rfl) (bool_of h412) ?_
      refine RunO.tk 21 (by kernel_rfl) ?_
      refine RunO.done (e' := (mkE [(0, (ES.e x0)), (3, (V.int .i64 y378)), (41, (V.bool false))] 3)) (by kernel_rfl) ?_
      refine Run.condF (by kernel_rfl) ?_
      refine Run.skip ?_
      refine Run.clrE (ts := [2, 23, 24, 25, 26, 27, 28, 29, 30, 31, 32, 33, 34, 35, 36, 37, 38, 39, 40, 41, 42, 43, 44, 45, 46, 47, 48, 49]) (b := (.rgn i15r27)) (Q := (stp [2, 15, 16, 17, 18, 19, 20, 21, 22, 23, 24, 25, 26, 27, 28, 29, 30, 31, 32, 33, 34, 35, 36, 37, 38, 39, 40, 41, 42, 43, 44, 45, 46, 47, 48, 49] (I15_2 x0 L) (RR15 L) (J15_2 x0 L) t)) (e' := (mkE [(0, (ES.e x0)), (3, (V.int .i64 y378))] 45)) (by kernel_rfl) ?_
      exact w15_j1 h hp
  · rw [ite_f h400] at h; refine Run.condF (by rw [← h400]; kernel_rfl) ?_
    refine Run.exit ?_
    have h := Option.some.inj h; subst h
    show J15_2 x0 L () _ _ _
    exact ⟨rfl, (by kernel_rfl), hp⟩

def F15 (x0 : (List UInt8)) : Option Bool :=
  (iter (fun s : (Int) => F15_1_b x0 s) FUEL ((0 : Int))).bind fun o => match o with
  | .ret r => some r
  | .go () =>
    (iter (fun s : (Int) => F15_2_b x0 s) FUEL ((0 : Int))).bind fun o => match o with
    | .ret r => some r
    | .go () =>
      some false

theorem w15 {x0 : (List UInt8)} {r : Bool} (h : F15 x0 = some r) {H : Heap} {L : List Ob} (hp : HP H L) : Fn T 15 [(ES.e x0)] H (Q15 L r) := by
  refine Fn.enterE t15 (e0 := (mkE [(0, (ES.e x0))] 49)) (by kernel_rfl) ?_
  show Run T (.clr [] i15n37) _ _ (finE none [2] (Q15 L r))
  refine Run.clrE (ts := []) (b := i15n37) (e' := (mkE [(0, (ES.e x0))] 49)) (by kernel_rfl) ?_
  unfold F15 at h
  refine Run.seq ?_
  refine Run.rgn ?_
  refine RunO.tk 1 (by kernel_rfl) ?_
  refine RunO.done (e' := (mkE [(0, (ES.e x0))] 49)) (by kernel_rfl) ?_
  refine Run.seq ?_
  refine Run.seq ?_
  refine Run.rgn ?_
  refine RunO.tk 1 (by kernel_rfl) ?_
  refine RunO.done (e' := (mkE [(0, (ES.e x0)), (2, (V.int .i64 (0 : Int)))] 46)) (by kernel_rfl) ?_
  refine Run.block ?_
  obtain ⟨o, h357, h⟩ := bind_some h
  refine (Run.iter (I := I15_1 x0 L) (RR := RR15 L) (J := J15_1 x0 L) (fun s e h' t hI hf => ?_) FUEL h357 (by exact ⟨(by kernel_rfl), hp⟩)).mono ?_
  · obtain ⟨rfl, hp⟩ := hI; exact w15_1_b hf hp
  · rintro X e' H hq
    cases o with
    | ret r => cases X <;> first | exact hq.elim | (cases h; exact hq)
    | go a => 
      cases X with | nrm => exact hq.elim | ret => exact hq.elim | ext i => ?_
      obtain ⟨rfl, he, hp⟩ := hq
      dsimp only at h
      refine Run.clrE (ts := [2, 3, 5, 6, 7, 8, 9, 10, 11, 12, 13, 14]) (b := i15n35) (Q := (finE none [2] (Q15 L r))) he ?_
      refine Run.seq ?_
      refine Run.seq ?_
      refine Run.rgn ?_
      refine RunO.tk 1 (by kernel_rfl) ?_
      refine RunO.done (e' := (mkE [(0, (ES.e x0)), (3, (V.int .i64 (0 : Int)))] 45)) (by kernel_rfl) ?_
      refine Run.block ?_
      obtain ⟨o, h419, h⟩ := bind_some h
      refine (Run.iter (I := I15_2 x0 L) (RR := RR15 L) (J := J15_2 x0 L) (fun s e h' t hI hf => ?_) FUEL h419 (by exact ⟨(by kernel_rfl), hp⟩)).mono ?_
      · obtain ⟨rfl, hp⟩ := hI; exact w15_2_b hf hp
      · rintro X e' H hq
        cases o with
        | ret r => cases X <;> first | exact hq.elim | (cases h; exact hq)
        | go a => 
          cases X with | nrm => exact hq.elim | ret => exact hq.elim | ext i => ?_
          obtain ⟨rfl, he, hp⟩ := hq
          dsimp only at h
          refine Run.clrE (ts := [0, 2, 4, 15, 16, 17, 18, 19, 20, 21, 22, 23, 24, 25, 26, 27, 28, 29, 30, 31, 32, 33, 34, 35, 36, 37, 38, 39, 40, 41, 42, 43, 44, 45, 46, 47, 48, 49]) (b := i15n34) (Q := (finE none [2] (Q15 L r))) he ?_
          refine Run.seq ?_
          refine Run.rgn ?_
          refine RunO.tk 1 (by kernel_rfl) ?_
          refine RunO.done (e' := (mkE [(2, (V.bool false))] 47)) (by kernel_rfl) ?_
          refine Run.ret ?_
          have h := Option.some.inj h; subst h
          exact ⟨(V.bool false), (by kernel_rfl), (by kernel_rfl), hp⟩

theorem c15 {x0 : (List UInt8)} {r : Bool} (h : F15 x0 = some r) (s : Bool) : Fn T 15 [(ES.e x0)] [] (fun v hh => deep s hh deepN v = some (EB.e r)) := by
  refine (w15 h HP.nil).mono ?_
  rintro v hh ⟨rfl, hp⟩
  exact EB.hd s hh 38 _ (.inr rfl)

/- smithy/smithyref02.skip -/
abbrev Q22 (L : List Ob) (r : Int) : V → Heap → Prop := fun v h => v = (EI .i64).e r ∧ HP h (L)
abbrev RR22 (L : List Ob) (r : Int) : List V → Heap → Prop := fun e h => endR none [4] (Q22 L r) e h

abbrev I22_1 (x0 : (List UInt8)) (L : List Ob) : (Int) → List V → Heap → Prop := fun s e h => e = (mkE [(0, (ES.e x0)), (0, (V.int .i64 s))] 45) ∧ HP h (L)

abbrev J22_1 (x0 : (List UInt8)) (L : List Ob) : (Int) → Nat → List V → Heap → Prop := fun a i e h => i = 0 ∧ clrEnv [0, 4, 5, 6, 7, 8, 9, 10, 11, 12, 13, 14, 15, 16, 17, 18, 19, 20, 21, 22, 23, 24, 25, 26, 27, 28, 29, 30, 31, 32, 33, 34, 35, 36, 37, 38, 39, 40, 41, 42, 43, 44, 45] e = (mkE [(1, (V.int .i64 a))] 45) ∧ HP h (L)

abbrev I22_2 (x0 : (List UInt8)) (L : List Ob) : (Int) → List V → Heap → Prop := fun s e h => e = (mkE [(0, (ES.e x0)), (0, (V.int .i64 s))] 45) ∧ HP h (L)

abbrev J22_2 (x0 : (List UInt8)) (L : List Ob) : (Int) → Nat → List V → Heap → Prop := fun a i e h => i = 2 ∧ clrEnv [4, 5, 6, 7, 8, 9, 10, 11, 12, 13, 14, 15, 16, 17, 18, 19, 20, 21, 22, 23, 24, 25, 26, 27, 28, 29, 30, 31, 32, 33, 34, 35, 36, 37, 38, 39, 40, 41, 42, 43, 44, 45] e = (mkE [(0, (ES.e x0)), (0, (V.int .i64 a))] 45) ∧ HP h (L)

def F22_2_b (x0 : (List UInt8)) (y593 : Int) : Option (Stp (Int) Int (Int)) :=
  if (decide (y593 < ((List.length x0 : Nat) : Int))) then
    (sidx x0 y593).bind fun y608 =>
    if (y608 != (10 : Int)) then
      some (.next ((IntKind.i64.wrap (y593 + (1 : Int)))))
    else
      some (.go (y593))
  else
    some (.go (y593))

theorem w22_2_b {x0 : (List UInt8)} {y593 : Int} {t : (Stp (Int) Int (Int))} (h : F22_2_b x0 y593 = some t) {H : Heap} {L : List Ob} (hp : HP H (L)) :
    Run T i22n12 (mkE [(0, (ES.e x0)), (0, (V.int .i64 y593))] 45) H (stp [32, 33, 34, 35, 36, 37, 38, 39, 40, 41, 42, 43, 44] (I22_2 x0 L) (RR22 L) (J22_2 x0 L) t) := by
  unfold F22_2_b at h
  refine Run.seq ?_
  refine Run.seq ?_
  refine Run.rgn ?_
  refine RunO.tk 3 (by kernel_rfl) ?_
  rcases Bool.eq_false_or_eq_true (decide (y593 < ((List.length x0 : Nat) : Int))) with h607 | h607
  · rw [ite_t h607] at h; refine RunO.p1 (by kernel_rfl) rfl (by kernel_rfl) (bool_of h607) ?_
    refine RunO.tk 3 (by kernel_rfl) ?_
    obtain ⟨y608, h609, h⟩ := bind_some h
    refine RunO.p1 (by kernel_rfl) rfl (by kernel_rfl) (sidx_st .i64 h609) ?_
    refine RunO.tk 2 (by kernel_rfl) ?_
    refine RunO.done (e' := (mkE [(0, (ES.e x0)), (0, (V.int .i64 y593)), (40, (V.bool (y608 != (10 : Int))))] 4)) (by kernel_rfl) ?_
    rcases Bool.eq_false_or_eq_true (y608 != (10 : Int)) with h610 | h610
    · rw [ite_t h610] at h; refine Run.condT (by rw [← h610]; kernel_rfl) ?_
      refine Run.skip ?_
      refine Run.clrE (ts := [33, 34, 35, 36, 37, 38, 39, 40, 41, 42]) (b := i22n11) (Q := (stp [32, 33, 34, 35, 36, 37, 38, 39, 40, 41, 42, 43, 44] (I22_2 x0 L) (RR22 L) (J22_2 x0 L) t)) (e' := (mkE [(0, (ES.e x0)), (0, (V.int .i64 y593))] 45)) (by kernel_rfl) ?_
      refine Run.block ?_
      refine Run.rgn ?_
      refine RunO.tk 3 (by kernel_rfl) ?_
      refine RunO.nil ?_
      have h := Option.some.inj h; subst h
      show I22_2 x0 L _ _ _
      exact ⟨(by kernel_rfl), hp⟩
    · rw [ite_f h610] at h; refine Run.condF (by rw [← h610]; kernel_rfl) ?_
      refine Run.exit ?_
      have h := Option.some.inj h; subst h
      show J22_2 x0 L _ _ _ _
      exact ⟨rfl, (by kernel_rfl), hp⟩
  · rw [ite_f h607] at h; refine RunO.p1 (by kernel_rfl) rfl (by kernel_rfl) (bool_of h607) ?_
    refine RunO.tk 6 (by kernel_rfl) ?_
    refine RunO.done (e' := (mkE [(0, (ES.e x0)), (0, (V.int .i64 y593)), (40, (V.bool false))] 4)) (by kernel_rfl) ?_
    refine Run.condF (by kernel_rfl) ?_
    refine Run.exit ?_
    have h := Option.some.inj h; subst h
    show J22_2 x0 L _ _ _ _
    exact ⟨rfl, (by kernel_rfl), hp⟩

def F22_j1 (x0 : (List UInt8)) (y533 : Int) (y585 : Bool) : Option (Stp (Int) Int (Int)) :=
  if y585 then
    (iter (fun s : (Int) => F22_2_b x0 s) FUEL (y533)).bind fun o => match o with
    | .ret r => some (.ret r)
    | .go (y602) =>
      some (.next (y602))
  else
    some (.ret y533)

theorem w22_j1 {x0 : (List UInt8)} {y533 : Int} {y585 : Bool} {t : (Stp (Int) Int (Int))} (h : F22_j1 x0 y533 y585 = some t) {H : Heap} {L : List Ob} (hp : HP H (L)) :
    Run T i22n17 (mkE [(0, (ES.e x0)), (0, (V.int .i64 y533)), (30, (V.bool y585))] 14) H (blk 1 (stp [4, 5, 6, 7, 8, 9, 10, 11, 12, 13, 14, 15, 16, 17, 18, 19, 20, 21, 22, 23, 24, 25, 26, 27, 28, 29, 30, 31, 32, 33, 34, 35, 36, 37, 38, 39, 40, 41, 42, 43, 44, 45] (I22_1 x0 L) (RR22 L) (J22_1 x0 L) t)) := by
  unfold F22_j1 at h
  rcases Bool.eq_false_or_eq_true y585 with h586 | h586
  · rw [ite_t h586] at h; refine Run.condT (by rw [← h586]; kernel_rfl) ?_
    refine Run.block ?_
    obtain ⟨o, h611, h⟩ := bind_some h
    refine (Run.iter (I := I22_2 x0 L) (RR := RR22 L) (J := J22_2 x0 L) (fun s e h' t hI hf => ?_) FUEL h611 (by exact ⟨(by kernel_rfl), hp⟩)).mono ?_
    · obtain ⟨rfl, hp⟩ := hI; exact w22_2_b hf hp
    · rintro X e' H hq
      cases o with
      | ret r => cases X <;> first | exact hq.elim | (cases h; exact hq)
      | go y602 => 
        cases X with | nrm => exact hq.elim | ret => exact hq.elim | ext i => ?_
        obtain ⟨rfl, he, hp⟩ := hq
        dsimp only at h
        have h := Option.some.inj h; subst h
        show I22_1 x0 L _ _ _
        exact ⟨he, hp⟩
  · rw [ite_f h586] at h; refine Run.condF (by rw [← h586]; kernel_rfl) ?_
    refine Run.seq ?_
    refine Run.rgn ?_
    refine RunO.tk 2 (by kernel_rfl) ?_
    refine RunO.done (e' := (mkE [(4, (V.int .i64 y533))] 42)) (by kernel_rfl) ?_
    refine Run.ret ?_
    have h := Option.some.inj h; subst h
    show RR22 L _ _ _
    exact ⟨(V.int .i64 y533), (by kernel_rfl), (by kernel_rfl), hp⟩

def F22_1_b (x0 : (List UInt8)) (y533 : Int) : Option (Stp (Int) Int (Int)) :=
  if (decide (y533 < ((List.length x0 : Nat) : Int))) then
    (sidx x0 y533).bind fun y574 =>
    (F32 y574).bind fun y576 =>
    if y576 then
      some (.next ((IntKind.i64.wrap (y533 + (1 : Int)))))
    else
      (sidx x0 y533).bind fun y612 =>
      if (y612 == (47 : Int)) then
        if (decide ((IntKind.i64.wrap (y533 + (1 : Int))) < ((List.length x0 : Nat) : Int))) then
          (sidx x0 (IntKind.i64.wrap (y533 + (1 : Int)))).bind fun y616 =>
          F22_j1 x0 y533 ((y616 == (47 : Int)))
        else
          F22_j1 x0 y533 (false)
      else
        F22_j1 x0 y533 (false)
  else
    some (.go (y533))

theorem w22_1_b {x0 : (List UInt8)} {y533 : Int} {t : (Stp (Int) Int (Int))} (h : F22_1_b x0 y533 = some t) {H : Heap} {L : List Ob} (hp : HP H (L)) :
    Run T i22n22 (mkE [(0, (ES.e x0)), (0, (V.int .i64 y533))] 45) H (stp [4, 5, 6, 7, 8, 9, 10, 11, 12, 13, 14, 15, 16, 17, 18, 19, 20, 21, 22, 23, 24, 25, 26, 27, 28, 29, 30, 31, 32, 33, 34, 35, 36, 37, 38, 39, 40, 41, 42, 43, 44, 45] (I22_1 x0 L) (RR22 L) (J22_1 x0 L) t) := by
  unfold F22_1_b at h
  refine Run.seq ?_
  refine Run.seq ?_
  refine Run.rgn ?_
  refine RunO.tk 4 (by kernel_rfl) ?_
  refine RunO.done (e' := (mkE [(0, (ES.e x0)), (0, (V.int .i64 y533)), (6, (V.bool (decide (y533 < ((List.length x0 : Nat) : Int)))))] 38)) (by kernel_rfl) ?_
  rcases Bool.eq_false_or_eq_true (decide (y533 < ((List.length x0 : Nat) : Int))) with h573 | h573
  · rw [ite_t h573] at h; refine Run.condT (by rw [← h573]; kernel_rfl) ?_
    refine Run.skip ?_
    refine Run.clrE (ts := [5, 6, 7, 8]) (b := i22n21) (Q := (stp [4, 5, 6, 7, 8, 9, 10, 11, 12, 13, 14, 15, 16, 17, 18, 19, 20, 21, 22, 23, 24, 25, 26, 27, 28, 29, 30, 31, 32, 33, 34, 35, 36, 37, 38, 39, 40, 41, 42, 43, 44, 45] (I22_1 x0 L) (RR22 L) (J22_1 x0 L) t)) (e' := (mkE [(0, (ES.e x0)), (0, (V.int .i64 y533))] 45)) (by kernel_rfl) ?_
    refine Run.block ?_
    refine Run.seq ?_
    refine Run.rgn ?_
    refine RunO.tk 2 (by kernel_rfl) ?_
    obtain ⟨y574, h575, h⟩ := bind_some h
    refine RunO.p1 (by kernel_rfl) rfl (by kernel_rfl) (sidx_st .i64 h575) ?_
    obtain ⟨y576, h577, h⟩ := bind_some h
    refine RunO.c1 (by kernel_rfl) (by kernel_rfl) (c32 h577 _) ?_
    refine RunO.done (e' := (mkE [(0, (ES.e x0)), (0, (V.int .i64 y533)), (10, (V.bool y576))] 34)) (by kernel_rfl) ?_
    rcases Bool.eq_false_or_eq_true y576 with h578 | h578
    · rw [ite_t h578] at h; refine Run.condT (by rw [← h578]; kernel_rfl) ?_
      refine Run.rgn ?_
      refine RunO.tk 3 (by kernel_rfl) ?_
      refine RunO.nil ?_
      have h := Option.some.inj h; subst h
      show I22_1 x0 L _ _ _
      exact ⟨(by kernel_rfl), hp⟩
    · rw [ite_f h578] at h; refine Run.condF (by rw [← h578]; kernel_rfl) ?_
      refine Run.seq ?_
      refine Run.rgn ?_
      refine RunO.tk 2 (by kernel_rfl) ?_
      obtain ⟨y612, h613, h⟩ := bind_some h
      refine RunO.p1 (by kernel_rfl) rfl (by kernel_rfl) (sidx_st .i64 h613) ?_
      rcases Bool.eq_false_or_eq_true (y612 == (47 : Int)) with h614 | h614
      · rw [ite_t h614] at h; refine RunO.p1 (by kernel_rfl) rfl (by kernel_rfl) (bool_of h614) ?_
        refine RunO.tk 5 (by kernel_rfl) ?_
        rcases Bool.eq_false_or_eq_true (decide ((IntKind.i64.wrap (y533 + (1 : Int))) < ((List.length x0 : Nat) : Int))) with h615 | h615
        · rw [ite_t h615] at h; refine RunO.p1 (by kernel_rfl) rfl (by kernel_rfl) (bool_of h615) ?_
          refine RunO.tk 5 (by kernel_rfl) ?_
          obtain ⟨y616, h617, h⟩ := bind_some h
          refine RunO.p1 (by kernel_rfl) rfl (by kernel_rfl) (sidx_st .i64 h617) ?_
          refine RunO.tk 2 (by kernel_rfl) ?_
          refine RunO.done (e' := (mkE [(0, (ES.e x0)), (0, (V.int .i64 y533)), (30, (V.bool (y616 == (47 : Int))))] 14)) (by kernel_rfl) ?_
          exact w22_j1 h hp
        · rw [ite_f h615] at h; refine RunO.p1 (by kernel_rfl) rfl (by kernel_rfl) (bool_of h615) ?_
          refine RunO.tk 8 (by kernel_rfl) ?_
          refine RunO.done (e' := (mkE [(0, (ES.e x0)), (0, (V.int .i64 y533)), (30, (V.bool false))] 14)) (by kernel_rfl) ?_
          exact w22_j1 h hp
      · rw [ite_f h614] at h; refine RunO.p1 (by kernel_rfl) rfl (by kernel_rfl) (bool_of h614) ?_
        refine RunO.tk 14 (by kernel_rfl) ?_
        refine RunO.done (e' := (mkE [(0, (ES.e x0)), (0, (V.int .i64 y533)), (30, (V.bool false))] 14)) (by kernel_rfl) ?_
        exact w22_j1 h hp
  · rw [ite_f h573] at h; refine Run.condF (by rw [← h573]; kernel_rfl) ?_
    refine Run.exit ?_
    have h := Option.some.inj h; subst h
    show J22_1 x0 L _ _ _ _
    exact ⟨rfl, (by kernel_rfl), hp⟩

def F22 (x0 : (List UInt8)) (x1 : Int) : Option Int :=
  (iter (fun s : (Int) => F22_1_b x0 s) FUEL (x1)).bind fun o => match o with
  | .ret r => some r
  | .go (y571) =>
    some y571

theorem w22 {x0 : (List UInt8)} {x1 : Int} {r : Int} (h : F22 x0 x1 = some r) {H : Heap} {L : List Ob} (hp : HP H L) : Fn T 22 [(ES.e x0), (V.int .i64 x1)] H (Q22 L r) := by
  refine Fn.enterE t22 (e0 := (mkE [(0, (ES.e x0)), (0, (V.int .i64 x1))] 45)) (by kernel_rfl) ?_
  show Run T (.clr [] i22n28) _ _ (finE none [4] (Q22 L r))
  refine Run.clrE (ts := []) (b := i22n28) (e' := (mkE [(0, (ES.e x0)), (0, (V.int .i64 x1))] 45)) (by kernel_rfl) ?_
  unfold F22 at h
  refine Run.seq ?_
  refine Run.rgn ?_
  refine RunO.tk 1 (by kernel_rfl) ?_
  refine RunO.done (e' := (mkE [(0, (ES.e x0)), (0, (V.int .i64 x1))] 45)) (by kernel_rfl) ?_
  refine Run.seq ?_
  refine Run.block ?_
  obtain ⟨o, h618, h⟩ := bind_some h
  refine (Run.iter (I := I22_1 x0 L) (RR := RR22 L) (J := J22_1 x0 L) (fun s e h' t hI hf => ?_) FUEL h618 (by exact ⟨(by kernel_rfl), hp⟩)).mono ?_
  · obtain ⟨rfl, hp⟩ := hI; exact w22_1_b hf hp
  · rintro X e' H hq
    cases o with
    | ret r => cases X <;> first | exact hq.elim | (cases h; exact hq)
    | go y571 => 
      cases X with | nrm => exact hq.elim | ret => exact hq.elim | ext i => ?_
      obtain ⟨rfl, he, hp⟩ := hq
      dsimp only at h
      refine Run.clrE (ts := [0, 4, 5, 6, 7, 8, 9, 10, 11, 12, 13, 14, 15, 16, 17, 18, 19, 20, 21, 22, 23, 24, 25, 26, 27, 28, 29, 30, 31, 32, 33, 34, 35, 36, 37, 38, 39, 40, 41, 42, 43, 44, 45]) (b := i22n26) (Q := (finE none [4] (Q22 L r))) he ?_
      refine Run.seq ?_
      refine Run.rgn ?_
      refine RunO.tk 2 (by kernel_rfl) ?_
      refine RunO.done (e' := (mkE [(4, (V.int .i64 y571))] 42)) (by kernel_rfl) ?_
      refine Run.ret ?_
      have h := Option.some.inj h; subst h
      exact ⟨(V.int .i64 y571), (by kernel_rfl), (by kernel_rfl), hp⟩

theorem c22 {x0 : (List UInt8)} {x1 : Int} {r : Int} (h : F22 x0 x1 = some r) (s : Bool) : Fn T 22 [(ES.e x0), (V.int .i64 x1)] [] (fun v hh => deep s hh deepN v = some ((EI .i64).e r)) := by
  refine (w22 h HP.nil).mono ?_
  rintro v hh ⟨rfl, hp⟩
  exact (EI .i64).hd s hh 38 _ (.inr rfl)

/- smithy/smithyref02.literal -/
abbrev Q26 (L : List Ob) (r : (T_Token × Int × Bool)) : V → Heap → Prop := fun v h => v = .tup [E_Token.e r.1, (EI .i64).e r.2.1, EB.e r.2.2] ∧ HP h (L)
abbrev RR26 (L : List Ob) (r : (T_Token × Int × Bool)) : List V → Heap → Prop := fun e h => endR (some [some (some 3), none, none]) [4, 5, 6] (Q26 L r) e h

def F26_j3 (x1 : Int) (y909 : Int) : Option (T_Token × Int × Bool) :=
  some ((⟨(5 : Int), x1, y909⟩ : T_Token), (0 : Int), true)

theorem w26_j3 {x1 : Int} {y909 : Int} {r : (T_Token × Int × Bool)} (h : F26_j3 x1 y909 = some r) {b792 : Nat} {H : Heap} {L : List Ob} (hp : HP H ((some (b792, 0), [(V.int .u8 (0 : Int)), (V.int .i64 (0 : Int)), (V.int .i64 (0 : Int))]) :: L)) :
    Run T i26n33 (mkE [(1, (V.int .i64 x1)), (2, (V.ptr b792 0 0)), (2, (V.int .i64 y909))] 112) H (thn T (.clr [5, 6, 8, 14, 15, 16, 17, 18, 19, 20, 21, 22, 23, 24, 25, 26, 27, 28, 29, 30, 31, 32, 33, 34, 35, 36, 37, 38, 39, 40, 41, 42, 43, 44, 45, 46, 47, 48, 49, 50, 51, 52, 53, 54, 55, 56, 57, 58, 59, 60, 61, 62, 63, 64, 65, 66, 67, 68, 69, 70, 71, 72, 73, 74, 75, 76, 77, 78, 79, 80, 81, 82, 83, 84, 85, 86, 87, 88, 89, 90, 91, 92, 93] i26n52) (finE (some [some (some 3), none, none]) [4, 5, 6] (Q26 L r))) := by
  unfold F26_j3 at h
  refine Run.seq ?_
  refine Run.rgn ?_
  refine RunO.tk 3 (by kernel_rfl) ?_
  refine RunO.st hp (by kernel_rfl) 0 (off := 0) (v := (V.ag [(V.int .u8 (5 : Int)), (V.int .i64 x1), (V.int .i64 y909)])) (cs' := [(V.int .u8 (5 : Int)), (V.int .i64 x1), (V.int .i64 y909)]) rfl (by kernel_rfl) (by kernel_rfl) (by kernel_rfl) ?_
  intro H hp
  refine RunO.tk 2 (by kernel_rfl) ?_
  refine RunO.done (e' := (mkE [(4, (V.ptr b792 0 0)), (0, (V.int .i64 (0 : Int))), (0, (V.bool true))] 113)) (by kernel_rfl) ?_
  refine Run.ret ?_
  have h := Option.some.inj h; subst h
  have hw := resW_cells (env := (mkE [(4, (V.ptr b792 0 0)), (0, (V.int .i64 (0 : Int))), (0, (V.bool true))] 113)) (H := H) (ds := [some (some 3), none, none]) (res := [4, 5, 6]) (vs := [(V.ag [(V.int .u8 (5 : Int)), (V.int .i64 x1), (V.int .i64 y909)]), (V.int .i64 (0 : Int)), (V.bool true)]) (omapc (Eq.trans (b := ldV _ (V.ptr b792 0 0) (some 3)) (by kernel_rfl) (hp.ld 0 rfl (by kernel_rfl))) (omapc (by kernel_rfl) (omapc (by kernel_rfl) omapn)))
  have hp := hp.del 0
  exact ⟨(V.tup [(V.ag [(V.int .u8 (5 : Int)), (V.int .i64 x1), (V.int .i64 y909)]), (V.int .i64 (0 : Int)), (V.bool true)]), (hw), (by kernel_rfl), hp⟩

def F26_j2 (x0 : (List UInt8)) (x1 : Int) (y909 : Int) : Option (T_Token × Int × Bool) :=
  (F24 x0 y909 true).bind fun y917 =>
  if (decide (y917 > y909)) then
    some ((⟨(0 : Int), (0 : Int), (0 : Int)⟩ : T_Token), y909, false)
  else
    if (decide (y909 < ((List.length x0 : Nat) : Int))) then
      (sidx x0 y909).bind fun y921 =>
      if (y921 == (46 : Int)) then
        some ((⟨(0 : Int), (0 : Int), (0 : Int)⟩ : T_Token), y909, false)
      else
        F26_j3 x1 y909
    else
      F26_j3 x1 y909

theorem w26_j2 {x0 : (List UInt8)} {x1 : Int} {y909 : Int} {r : (T_Token × Int × Bool)} (h : F26_j2 x0 x1 y909 = some r) {b792 : Nat} {H : Heap} {L : List Ob} (hp : HP H ((some (b792, 0), [(V.int .u8 (0 : Int)), (V.int .i64 (0 : Int)), (V.int .i64 (0 : Int))]) :: L)) :
    Run T i26n34 (mkE [(0, (ES.e x0)), (0, (V.int .i64 x1)), (2, (V.ptr b792 0 0)), (2, (V.int .i64 y909))] 112) H (thn T (.clr [5, 6, 8, 14, 15, 16, 17, 18, 19, 20, 21, 22, 23, 24, 25, 26, 27, 28, 29, 30, 31, 32, 33, 34, 35, 36, 37, 38, 39, 40, 41, 42, 43, 44, 45, 46, 47, 48, 49, 50, 51, 52, 53, 54, 55, 56, 57, 58, 59, 60, 61, 62, 63, 64, 65, 66, 67, 68, 69, 70, 71, 72, 73, 74, 75, 76, 77, 78, 79, 80, 81, 82, 83, 84, 85, 86, 87, 88, 89, 90, 91, 92, 93] i26n52) (finE (some [some (some 3), none, none]) [4, 5, 6] (Q26 L r))) := by
  unfold F26_j2 at h
  refine Run.seq ?_
  refine Run.seq ?_
  refine Run.rgn ?_
  refine RunO.tk 2 (by kernel_rfl) ?_
  obtain ⟨y917, h918, h⟩ := bind_some h
  refine RunO.c1 (by kernel_rfl) (by kernel_rfl) (c24 h918 _) ?_
  refine RunO.tk 1 (by kernel_rfl) ?_
  rcases Bool.eq_false_or_eq_true (decide (y917 > y909)) with h919 | h919
  · rw [ite_t h919] at h; refine RunO.p1 (by kernel_rfl) rfl (by kernel_rfl) (bool_of h919) ?_
    refine RunO.tk 12 (by kernel_rfl) ?_
    refine RunO.done (e' := (mkE [(1, (V.int .i64 x1)), (2, (V.ptr b792 0 0)), (2, (V.int .i64 y909)), (80, (V.bool true))] 31)) (by kernel_rfl) ?_
    refine Run.condT (by kernel_rfl) ?_
    refine Run.seq ?_
    refine Run.rgn ?_
    refine RunO.tk 2 (by kernel_rfl) ?_
    refine RunO.st hp (by kernel_rfl) 0 (off := 0) (v := (V.ag [(V.int .u8 (0 : Int)), (V.int .i64 (0 : Int)), (V.int .i64 (0 : Int))])) (cs' := [(V.int .u8 (0 : Int)), (V.int .i64 (0 : Int)), (V.int .i64 (0 : Int))]) rfl (by kernel_rfl) (by kernel_rfl) (by kernel_rfl) ?_
    intro H hp
    refine RunO.tk 2 (by kernel_rfl) ?_
    refine RunO.done (e' := (mkE [(4, (V.ptr b792 0 0)), (0, (V.int .i64 y909)), (0, (V.bool false))] 113)) (by kernel_rfl) ?_
    refine Run.ret ?_
    have h := Option.some.inj h; subst h
    have hw := resW_cells (env := (mkE [(4, (V.ptr b792 0 0)), (0, (V.int .i64 y909)), (0, (V.bool false))] 113)) (H := H) (ds := [some (some 3), none, none]) (res := [4, 5, 6]) (vs := [(V.ag [(V.int .u8 (0 : Int)), (V.int .i64 (0 : Int)), (V.int .i64 (0 : Int))]), (V.int .i64 y909), (V.bool false)]) (omapc (Eq.trans (b := ldV _ (V.ptr b792 0 0) (some 3)) (by kernel_rfl) (hp.ld 0 rfl (by kernel_rfl))) (omapc (by kernel_rfl) (omapc (by kernel_rfl) omapn)))
    have hp := hp.del 0
    exact ⟨(V.tup [(V.ag [(V.int .u8 (0 : Int)), (V.int .i64 (0 : Int)), (V.int .i64 (0 : Int))]), (V.int .i64 y909), (V.bool false)]), (hw), (by kernel_rfl), hp⟩
  · rw [ite_f h919] at h; refine RunO.p1 (by kernel_rfl) rfl (by kernel_rfl) (bool_of h919) ?_
    refine RunO.tk 4 (by kernel_rfl) ?_
    rcases Bool.eq_false_or_eq_true (decide (y909 < ((List.length x0 : Nat) : Int))) with h920 | h920
    · rw [ite_t h920] at h; refine RunO.p1 (by kernel_rfl) rfl (by kernel_rfl) (bool_of h920) ?_
      refine RunO.tk 3 (by kernel_rfl) ?_
      obtain ⟨y921, h922, h⟩ := bind_some h
      refine RunO.p1 (by kernel_rfl) rfl (by kernel_rfl) (sidx_st .i64 h922) ?_
      refine RunO.tk 3 (by kernel_rfl) ?_
      refine RunO.done (e' := (mkE [(1, (V.int .i64 x1)), (2, (V.ptr b792 0 0)), (2, (V.int .i64 y909)), (80, (V.bool (y921 == (46 : Int))))] 31)) (by kernel_rfl) ?_
      rcases Bool.eq_false_or_eq_true (y921 == (46 : Int)) with h923 | h923
      · rw [ite_t h923] at h; refine Run.condT (by rw [← h923]; kernel_rfl) ?_
        refine Run.seq ?_
        refine Run.rgn ?_
        refine RunO.tk 2 (by kernel_rfl) ?_
        refine RunO.st hp (by kernel_rfl) 0 (off := 0) (v := (V.ag [(V.int .u8 (0 : Int)), (V.int .i64 (0 : Int)), (V.int .i64 (0 : Int))])) (cs' := [(V.int .u8 (0 : Int)), (V.int .i64 (0 : Int)), (V.int .i64 (0 : Int))]) rfl (by kernel_rfl) (by kernel_rfl) (by kernel_rfl) ?_
        intro H hp
        refine RunO.tk 2 (by kernel_rfl) ?_
        refine RunO.done (e' := (mkE [(4, (V.ptr b792 0 0)), (0, (V.int .i64 y909)), (0, (V.bool false))] 113)) (by kernel_rfl) ?_
        refine Run.ret ?_
        have h := Option.some.inj h; subst h
        have hw := resW_cells (env := (mkE [(4, (V.ptr b792 0 0)), (0, (V.int .i64 y909)), (0, (V.bool false))] 113)) (H := H) (ds := [some (some 3), none, none]) (res := [4, 5, 6]) (vs := [(V.ag [(V.int .u8 (0 : Int)), (V.int .i64 (0 : Int)), (V.int .i64 (0 : Int))]), (V.int .i64 y909), (V.bool false)]) (omapc (Eq.trans (b := ldV _ (V.ptr b792 0 0) (some 3)) (by kernel_rfl) (hp.ld 0 rfl (by kernel_rfl))) (omapc (by kernel_rfl) (omapc (by kernel_rfl) omapn)))
        have hp := hp.del 0
        exact ⟨(V.tup [(V.ag [(V.int .u8 (0 : Int)), (V.int .i64 (0 : Int)), (V.int .i64 (0 : Int))]), (V.int .i64 y909), (V.bool false)]), (hw), (by kernel_rfl), hp⟩
      · rw [ite_f h923] at h; refine Run.condF (by rw [← h923]; kernel_rfl) ?_
        refine Run.skip ?_
        refine Run.clrE (ts := [0, 5, 6, 72, 73, 74, 75, 76, 77, 78, 79, 80, 81, 82, 83, 84, 85, 86, 87, 88, 89, 90]) (b := i26n33) (Q := (thn T (.clr [5, 6, 8, 14, 15, 16, 17, 18, 19, 20, 21, 22, 23, 24, 25, 26, 27, 28, 29, 30, 31, 32, 33, 34, 35, 36, 37, 38, 39, 40, 41, 42, 43, 44, 45, 46, 47, 48, 49, 50, 51, 52, 53, 54, 55, 56, 57, 58, 59, 60, 61, 62, 63, 64, 65, 66, 67, 68, 69, 70, 71, 72, 73, 74, 75, 76, 77, 78, 79, 80, 81, 82, 83, 84, 85, 86, 87, 88, 89, 90, 91, 92, 93] i26n52) (finE (some [some (some 3), none, none]) [4, 5, 6] (Q26 L r)))) (e' := (mkE [(1, (V.int .i64 x1)), (2, (V.ptr b792 0 0)), (2, (V.int .i64 y909))] 112)) (by kernel_rfl) ?_
        exact w26_j3 h hp
    · rw [ite_f h920] at h; refine RunO.p1 (by kernel_rfl) rfl (by kernel_rfl) (bool_of h920) ?_
      refine RunO.tk 7 (by kernel_rfl) ?_
      refine RunO.done (e' := (mkE [(1, (V.int .i64 x1)), (2, (V.ptr b792 0 0)), (2, (V.int .i64 y909)), (80, (V.bool false))] 31)) (by kernel_rfl) ?_
      refine Run.condF (by kernel_rfl) ?_
      refine Run.skip ?_
      refine Run.clrE (ts := [0, 5, 6, 72, 73, 74, 75, 76, 77, 78, 79, 80, 81, 82, 83, 84, 85, 86, 87, 88, 89, 90]) (b := i26n33) (Q := (thn T (.clr [5, 6, 8, 14, 15, 16, 17, 18, 19, 20, 21, 22, 23, 24, 25, 26, 27, 28, 29, 30, 31, 32, 33, 34, 35, 36, 37, 38, 39, 40, 41, 42, 43, 44, 45, 46, 47, 48, 49, 50, 51, 52, 53, 54, 55, 56, 57, 58, 59, 60, 61, 62, 63, 64, 65, 66, 67, 68, 69, 70, 71, 72, 73, 74, 75, 76, 77, 78, 79, 80, 81, 82, 83, 84, 85, 86, 87, 88, 89, 90, 91, 92, 93] i26n52) (finE (some [some (some 3), none, none]) [4, 5, 6] (Q26 L r)))) (e' := (mkE [(1, (V.int .i64 x1)), (2, (V.ptr b792 0 0)), (2, (V.int .i64 y909))] 112)) (by kernel_rfl) ?_
      exact w26_j3 h hp

def F26_j5 (x0 : (List UInt8)) (x1 : Int) (y936 : Int) : Option (T_Token × Int × Bool) :=
  (F24 x0 y936 false).bind fun y937 =>
  if (y937 == y936) then
    some ((⟨(0 : Int), (0 : Int), (0 : Int)⟩ : T_Token), y937, false)
  else
    F26_j2 x0 x1 (y937)

theorem w26_j5 {x0 : (List UInt8)} {x1 : Int} {y936 : Int} {r : (T_Token × Int × Bool)} (h : F26_j5 x0 x1 y936 = some r) {b792 : Nat} {H : Heap} {L : List Ob} (hp : HP H ((some (b792, 0), [(V.int .u8 (0 : Int)), (V.int .i64 (0 : Int)), (V.int .i64 (0 : Int))]) :: L)) :
    Run T i26n22 (mkE [(0, (ES.e x0)), (0, (V.int .i64 x1)), (2, (V.ptr b792 0 0)), (3, (V.int .i64 y936))] 111) H (thn T (.clr [5, 6, 8, 34, 35, 36, 37, 38, 39, 40, 41, 42, 43, 44, 45, 46, 47, 48, 49, 50, 51, 52, 53, 54, 55, 56, 57, 58, 59, 60, 61, 62, 63, 64, 65, 66, 67, 68, 69, 70, 71] i26n34) (thn T (.clr [5, 6, 8, 14, 15, 16, 17, 18, 19, 20, 21, 22, 23, 24, 25, 26, 27, 28, 29, 30, 31, 32, 33, 34, 35, 36, 37, 38, 39, 40, 41, 42, 43, 44, 45, 46, 47, 48, 49, 50, 51, 52, 53, 54, 55, 56, 57, 58, 59, 60, 61, 62, 63, 64, 65, 66, 67, 68, 69, 70, 71, 72, 73, 74, 75, 76, 77, 78, 79, 80, 81, 82, 83, 84, 85, 86, 87, 88, 89, 90, 91, 92, 93] i26n52) (finE (some [some (some 3), none, none]) [4, 5, 6] (Q26 L r)))) := by
  unfold F26_j5 at h
  refine Run.seq ?_
  refine Run.rgn ?_
  refine RunO.tk 2 (by kernel_rfl) ?_
  obtain ⟨y937, h938, h⟩ := bind_some h
  refine RunO.c1 (by kernel_rfl) (by kernel_rfl) (c24 h938 _) ?_
  refine RunO.tk 1 (by kernel_rfl) ?_
  refine RunO.done (e' := (mkE [(0, (ES.e x0)), (0, (V.int .i64 x1)), (2, (V.ptr b792 0 0)), (2, (V.int .i64 y937)), (0, (V.int .i64 y936))] 111)) (by kernel_rfl) ?_
  refine Run.seq ?_
  refine Run.rgn ?_
  refine RunO.tk 3 (by kernel_rfl) ?_
  refine RunO.done (e' := (mkE [(0, (ES.e x0)), (0, (V.int .i64 x1)), (2, (V.ptr b792 0 0)), (2, (V.int .i64 y937)), (61, (V.bool (y937 == y936)))] 50)) (by kernel_rfl) ?_
  rcases Bool.eq_false_or_eq_true (y937 == y936) with h939 | h939
  · rw [ite_t h939] at h; refine Run.condT (by rw [← h939]; kernel_rfl) ?_
    refine Run.seq ?_
    refine Run.rgn ?_
    refine RunO.tk 2 (by kernel_rfl) ?_
    refine RunO.st hp (by kernel_rfl) 0 (off := 0) (v := (V.ag [(V.int .u8 (0 : Int)), (V.int .i64 (0 : Int)), (V.int .i64 (0 : Int))])) (cs' := [(V.int .u8 (0 : Int)), (V.int .i64 (0 : Int)), (V.int .i64 (0 : Int))]) rfl (by kernel_rfl) (by kernel_rfl) (by kernel_rfl) ?_
    intro H hp
    refine RunO.tk 2 (by kernel_rfl) ?_
    refine RunO.done (e' := (mkE [(4, (V.ptr b792 0 0)), (0, (V.int .i64 y937)), (0, (V.bool false))] 113)) (by kernel_rfl) ?_
    refine Run.ret ?_
    have h := Option.some.inj h; subst h
    have hw := resW_cells (env := (mkE [(4, (V.ptr b792 0 0)), (0, (V.int .i64 y937)), (0, (V.bool false))] 113)) (H := H) (ds := [some (some 3), none, none]) (res := [4, 5, 6]) (vs := [(V.ag [(V.int .u8 (0 : Int)), (V.int .i64 (0 : Int)), (V.int .i64 (0 : Int))]), (V.int .i64 y937), (V.bool false)]) (omapc (Eq.trans (b := ldV _ (V.ptr b792 0 0) (some 3)) (by kernel_rfl) (hp.ld 0 rfl (by kernel_rfl))) (omapc (by kernel_rfl) (omapc (by kernel_rfl) omapn)))
    have hp := hp.del 0
    exact ⟨(V.tup [(V.ag [(V.int .u8 (0 : Int)), (V.int .i64 (0 : Int)), (V.int .i64 (0 : Int))]), (V.int .i64 y937), (V.bool false)]), (hw), (by kernel_rfl), hp⟩
  · rw [ite_f h939] at h; refine Run.condF (by rw [← h939]; kernel_rfl) ?_
    refine Run.skip ?_
    refine Run.clrE (ts := [5, 6, 8, 34, 35, 36, 37, 38, 39, 40, 41, 42, 43, 44, 45, 46, 47, 48, 49, 50, 51, 52, 53, 54, 55, 56, 57, 58, 59, 60, 61, 62, 63, 64, 65, 66, 67, 68, 69, 70, 71]) (b := i26n34) (Q := (thn T (.clr [5, 6, 8, 14, 15, 16, 17, 18, 19, 20, 21, 22, 23, 24, 25, 26, 27, 28, 29, 30, 31, 32, 33, 34, 35, 36, 37, 38, 39, 40, 41, 42, 43, 44, 45, 46, 47, 48, 49, 50, 51, 52, 53, 54, 55, 56, 57, 58, 59, 60, 61, 62, 63, 64, 65, 66, 67, 68, 69, 70, 71, 72, 73, 74, 75, 76, 77, 78, 79, 80, 81, 82, 83, 84, 85, 86, 87, 88, 89, 90, 91, 92, 93] i26n52) (finE (some [some (some 3), none, none]) [4, 5, 6] (Q26 L r)))) (e' := (mkE [(0, (ES.e x0)), (0, (V.int .i64 x1)), (2, (V.ptr b792 0 0)), (2, (V.int .i64 y937))] 112)) (by kernel_rfl) ?_
    exact w26_j2 h hp

def F26_j4 (x0 : (List UInt8)) (x1 : Int) (y879 : Int) (y927 : Bool) : Option (T_Token × Int × Bool) :=
  if y927 then
    if (decide ((IntKind.i64.wrap (y879 + (1 : Int))) < ((List.length x0 : Nat) : Int))) then
      (sidx x0 (IntKind.i64.wrap (y879 + (1 : Int)))).bind fun y941 =>
      if (y941 == (43 : Int)) then
        F26_j5 x0 x1 ((IntKind.i64.wrap ((IntKind.i64.wrap (y879 + (1 : Int))) + (1 : Int))))
      else
        (sidx x0 (IntKind.i64.wrap (y879 + (1 : Int)))).bind fun y944 =>
        if (y944 == (45 : Int)) then
          F26_j5 x0 x1 ((IntKind.i64.wrap ((IntKind.i64.wrap (y879 + (1 : Int))) + (1 : Int))))
        else
          F26_j5 x0 x1 ((IntKind.i64.wrap (y879 + (1 : Int))))
    else
      F26_j5 x0 x1 ((IntKind.i64.wrap (y879 + (1 : Int))))
  else
    F26_j2 x0 x1 (y879)

theorem w26_j4 {x0 : (List UInt8)} {x1 : Int} {y879 : Int} {y927 : Bool} {r : (T_Token × Int × Bool)} (h : F26_j4 x0 x1 y879 y927 = some r) {b792 : Nat} {H : Heap} {L : List Ob} (hp : HP H ((some (b792, 0), [(V.int .u8 (0 : Int)), (V.int .i64 (0 : Int)), (V.int .i64 (0 : Int))]) :: L)) :
    Run T i26n25 (mkE [(0, (ES.e x0)), (0, (V.int .i64 x1)), (2, (V.ptr b792 0 0)), (2, (V.int .i64 y879)), (35, (V.bool y927))] 76) H (thn T (.clr [5, 6, 8, 34, 35, 36, 37, 38, 39, 40, 41, 42, 43, 44, 45, 46, 47, 48, 49, 50, 51, 52, 53, 54, 55, 56, 57, 58, 59, 60, 61, 62, 63, 64, 65, 66, 67, 68, 69, 70, 71] i26n34) (thn T (.clr [5, 6, 8, 14, 15, 16, 17, 18, 19, 20, 21, 22, 23, 24, 25, 26, 27, 28, 29, 30, 31, 32, 33, 34, 35, 36, 37, 38, 39, 40, 41, 42, 43, 44, 45, 46, 47, 48, 49, 50, 51, 52, 53, 54, 55, 56, 57, 58, 59, 60, 61, 62, 63, 64, 65, 66, 67, 68, 69, 70, 71, 72, 73, 74, 75, 76, 77, 78, 79, 80, 81, 82, 83, 84, 85, 86, 87, 88, 89, 90, 91, 92, 93] i26n52) (finE (some [some (some 3), none, none]) [4, 5, 6] (Q26 L r)))) := by
  unfold F26_j4 at h
  rcases Bool.eq_false_or_eq_true y927 with h928 | h928
  · rw [ite_t h928] at h; refine Run.condT (by rw [← h928]; kernel_rfl) ?_
    refine Run.seq ?_
    refine Run.rgn ?_
    refine RunO.tk 3 (by kernel_rfl) ?_
    refine RunO.done (e' := (mkE [(0, (ES.e x0)), (0, (V.int .i64 x1)), (2, (V.ptr b792 0 0)), (3, (V.int .i64 (IntKind.i64.wrap (y879 + (1 : Int)))))] 111)) (by kernel_rfl) ?_
    refine Run.seq ?_
    refine Run.seq ?_
    refine Run.rgn ?_
    refine RunO.tk 3 (by kernel_rfl) ?_
    rcases Bool.eq_false_or_eq_true (decide ((IntKind.i64.wrap (y879 + (1 : Int))) < ((List.length x0 : Nat) : Int))) with h940 | h940
    · rw [ite_t h940] at h; refine RunO.p1 (by kernel_rfl) rfl (by kernel_rfl) (bool_of h940) ?_
      refine RunO.tk 3 (by kernel_rfl) ?_
      obtain ⟨y941, h942, h⟩ := bind_some h
      refine RunO.p1 (by kernel_rfl) rfl (by kernel_rfl) (sidx_st .i64 h942) ?_
      rcases Bool.eq_false_or_eq_true (y941 == (43 : Int)) with h943 | h943
      · rw [ite_t h943] at h; refine RunO.p1 (by kernel_rfl) rfl (by kernel_rfl) (bool_of h943) ?_
        refine RunO.tk 7 (by kernel_rfl) ?_
        refine RunO.done (e' := (mkE [(0, (ES.e x0)), (0, (V.int .i64 x1)), (2, (V.ptr b792 0 0)), (3, (V.int .i64 (IntKind.i64.wrap (y879 + (1 : Int))))), (52, (V.bool true))] 58)) (by kernel_rfl) ?_
        refine Run.condT (by kernel_rfl) ?_
        refine Run.rgn ?_
        refine RunO.tk 3 (by kernel_rfl) ?_
        refine RunO.done (e' := (mkE [(0, (ES.e x0)), (0, (V.int .i64 x1)), (2, (V.ptr b792 0 0)), (3, (V.int .i64 (IntKind.i64.wrap ((IntKind.i64.wrap (y879 + (1 : Int))) + (1 : Int)))))] 111)) (by kernel_rfl) ?_
        exact w26_j5 h hp
      · rw [ite_f h943] at h; refine RunO.p1 (by kernel_rfl) rfl (by kernel_rfl) (bool_of h943) ?_
        refine RunO.tk 3 (by kernel_rfl) ?_
        obtain ⟨y944, h945, h⟩ := bind_some h
        refine RunO.p1 (by kernel_rfl) rfl (by kernel_rfl) (sidx_st .i64 h945) ?_
        refine RunO.tk 3 (by kernel_rfl) ?_
        refine RunO.done (e' := (mkE [(0, (ES.e x0)), (0, (V.int .i64 x1)), (2, (V.ptr b792 0 0)), (3, (V.int .i64 (IntKind.i64.wrap (y879 + (1 : Int))))), (52, (V.bool (y944 == (45 : Int))))] 58)) (by kernel_rfl) ?_
        rcases Bool.eq_false_or_eq_true (y944 == (45 : Int)) with h946 | h946
        · rw [ite_t h946] at h; refine Run.condT (by rw [← h946]; kernel_rfl) ?_
          refine Run.rgn ?_
          refine RunO.tk 3 (by kernel_rfl) ?_
          refine RunO.done (e' := (mkE [(0, (ES.e x0)), (0, (V.int .i64 x1)), (2, (V.ptr b792 0 0)), (3, (V.int .i64 (IntKind.i64.wrap ((IntKind.i64.wrap (y879 + (1 : Int))) + (1 : Int)))))] 111)) (by kernel_rfl) ?_
          exact w26_j5 h hp
        · rw [ite_f h946] at h; refine Run.condF (by rw [← h946]; kernel_rfl) ?_
          refine Run.skip ?_
          refine Run.clrE (ts := [46, 47, 48, 49, 50, 51, 52, 53, 54, 55, 56, 57, 58, 59, 60, 61, 62, 63]) (b := i26n22) (Q := (thn T (.clr [5, 6, 8, 34, 35, 36, 37, 38, 39, 40, 41, 42, 43, 44, 45, 46, 47, 48, 49, 50, 51, 52, 53, 54, 55, 56, 57, 58, 59, 60, 61, 62, 63, 64, 65, 66, 67, 68, 69, 70, 71] i26n34) (thn T (.clr [5, 6, 8, 14, 15, 16, 17, 18, 19, 20, 21, 22, 23, 24, 25, 26, 27, 28, 29, 30, 31, 32, 33, 34, 35, 36, 37, 38, 39, 40, 41, 42, 43, 44, 45, 46, 47, 48, 49, 50, 51, 52, 53, 54, 55, 56, 57, 58, 59, 60, 61, 62, 63, 64, 65, 66, 67, 68, 69, 70, 71, 72, 73, 74, 75, 76, 77, 78, 79, 80, 81, 82, 83, 84, 85, 86, 87, 88, 89, 90, 91, 92, 93] i26n52) (finE (some [some (some 3), none, none]) [4, 5, 6] (Q26 L r))))) (e' := (mkE [(0, (ES.e x0)), (0, (V.int .i64 x1)), (2, (V.ptr b792 0 0)), (3, (V.int .i64 (IntKind.i64.wrap (y879 + (1 : Int)))))] 111)) (by kernel_rfl) ?_
          exact w26_j5 h hp
    · rw [ite_f h940] at h; refine RunO.p1 (by kernel_rfl) rfl (by kernel_rfl) (bool_of h940) ?_
      refine RunO.tk 12 (by kernel_rfl) ?_
      refine RunO.done (e' := (mkE [(0, (ES.e x0)), (0, (V.int .i64 x1)), (2, (V.ptr b792 0 0)), (3, (V.int .i64 (IntKind.i64.wrap (y879 + (1 : Int))))), (52, (V.bool false))] 58)) (by kernel_rfl) ?_
      refine Run.condF (by kernel_rfl) ?_
      refine Run.skip ?_
      refine Run.clrE (ts := [46, 47, 48, 49, 50, 51, 52, 53, 54, 55, 56, 57, 58, 59, 60, 61, 62, 63]) (b := i26n22) (Q := (thn T (.clr [5, 6, 8, 34, 35, 36, 37, 38, 39, 40, 41, 42, 43, 44, 45, 46, 47, 48, 49, 50, 51, 52, 53, 54, 55, 56, 57, 58, 59, 60, 61, 62, 63, 64, 65, 66, 67, 68, 69, 70, 71] i26n34) (thn T (.clr [5, 6, 8, 14, 15, 16, 17, 18, 19, 20, 21, 22, 23, 24, 25, 26, 27, 28, 29, 30, 31, 32, 33, 34, 35, 36, 37, 38, 39, 40, 41, 42, 43, 44, 45, 46, 47, 48, 49, 50, 51, 52, 53, 54, 55, 56, 57, 58, 59, 60, 61, 62, 63, 64, 65, 66, 67, 68, 69, 70, 71, 72, 73, 74, 75, 76, 77, 78, 79, 80, 81, 82, 83, 84, 85, 86, 87, 88, 89, 90, 91, 92, 93] i26n52) (finE (some [some (some 3), none, none]) [4, 5, 6] (Q26 L r))))) (e' := (mkE [(0, (ES.e x0)), (0, (V.int .i64 x1)), (2, (V.ptr b792 0 0)), (3, (V.int .i64 (IntKind.i64.wrap (y879 + (1 : Int)))))] 111)) (by kernel_rfl) ?_
      exact w26_j5 h hp
  · rw [ite_f h928] at h; refine Run.condF (by rw [← h928]; kernel_rfl) ?_
    refine Run.skip ?_
    refine Run.clrE (ts := [5, 6, 8, 34, 35, 36, 37, 38, 39, 40, 41, 42, 43, 44, 45, 46, 47, 48, 49, 50, 51, 52, 53, 54, 55, 56, 57, 58, 59, 60, 61, 62, 63, 64, 65, 66, 67, 68, 69, 70, 71]) (b := i26n34) (Q := (thn T (.clr [5, 6, 8, 14, 15, 16, 17, 18, 19, 20, 21, 22, 23, 24, 25, 26, 27, 28, 29, 30, 31, 32, 33, 34, 35, 36, 37, 38, 39, 40, 41, 42, 43, 44, 45, 46, 47, 48, 49, 50, 51, 52, 53, 54, 55, 56, 57, 58, 59, 60, 61, 62, 63, 64, 65, 66, 67, 68, 69, 70, 71, 72, 73, 74, 75, 76, 77, 78, 79, 80, 81, 82, 83, 84, 85, 86, 87, 88, 89, 90, 91, 92, 93] i26n52) (finE (some [some (some 3), none, none]) [4, 5, 6] (Q26 L r)))) (e' := (mkE [(0, (ES.e x0)), (0, (V.int .i64 x1)), (2, (V.ptr b792 0 0)), (2, (V.int .i64 y879))] 112)) (by kernel_rfl) ?_
    exact w26_j2 h hp

def F26_j6 (x1 : Int) (y950 : Int) : Option (T_Token × Int × Bool) :=
  some ((⟨(4 : Int), x1, y950⟩ : T_Token), (0 : Int), true)

theorem w26_j6 {x1 : Int} {y950 : Int} {r : (T_Token × Int × Bool)} (h : F26_j6 x1 y950 = some r) {b792 : Nat} {H : Heap} {L : List Ob} (hp : HP H ((some (b792, 0), [(V.int .u8 (0 : Int)), (V.int .i64 (0 : Int)), (V.int .i64 (0 : Int))]) :: L)) :
    Run T i26n49 (mkE [(1, (V.int .i64 x1)), (2, (V.ptr b792 0 0)), (4, (V.int .i64 y950))] 110) H (finE (some [some (some 3), none, none]) [4, 5, 6] (Q26 L r)) := by
  unfold F26_j6 at h
  refine Run.seq ?_
  refine Run.rgn ?_
  refine RunO.tk 3 (by kernel_rfl) ?_
  refine RunO.st hp (by kernel_rfl) 0 (off := 0) (v := (V.ag [(V.int .u8 (4 : Int)), (V.int .i64 x1), (V.int .i64 y950)])) (cs' := [(V.int .u8 (4 : Int)), (V.int .i64 x1), (V.int .i64 y950)]) rfl (by kernel_rfl) (by kernel_rfl) (by kernel_rfl) ?_
  intro H hp
  refine RunO.tk 2 (by kernel_rfl) ?_
  refine RunO.done (e' := (mkE [(4, (V.ptr b792 0 0)), (0, (V.int .i64 (0 : Int))), (0, (V.bool true))] 113)) (by kernel_rfl) ?_
  refine Run.ret ?_
  have h := Option.some.inj h; subst h
  have hw := resW_cells (env := (mkE [(4, (V.ptr b792 0 0)), (0, (V.int .i64 (0 : Int))), (0, (V.bool true))] 113)) (H := H) (ds := [some (some 3), none, none]) (res := [4, 5, 6]) (vs := [(V.ag [(V.int .u8 (4 : Int)), (V.int .i64 x1), (V.int .i64 y950)]), (V.int .i64 (0 : Int)), (V.bool true)]) (omapc (Eq.trans (b := ldV _ (V.ptr b792 0 0) (some 3)) (by kernel_rfl) (hp.ld 0 rfl (by kernel_rfl))) (omapc (by kernel_rfl) (omapc (by kernel_rfl) omapn)))
  have hp := hp.del 0
  exact ⟨(V.tup [(V.ag [(V.int .u8 (4 : Int)), (V.int .i64 x1), (V.int .i64 y950)]), (V.int .i64 (0 : Int)), (V.bool true)]), (hw), (by kernel_rfl), hp⟩

def F26_j1 (x0 : (List UInt8)) (x1 : Int) (y793 : Int) (y877 : Bool) : Option (T_Token × Int × Bool) :=
  if y877 then
    (F24 x0 (IntKind.i64.wrap (y793 + (1 : Int))) false).bind fun y879 =>
    if (y879 == (IntKind.i64.wrap (y793 + (1 : Int)))) then
      some ((⟨(0 : Int), (0 : Int), (0 : Int)⟩ : T_Token), y879, false)
    else
      if (decide (y879 < ((List.length x0 : Nat) : Int))) then
        (sidx x0 y879).bind fun y948 =>
        F26_j4 x0 x1 y879 ((y948 == (101 : Int)))
      else
        F26_j4 x0 x1 y879 (false)
  else
    (F24 x0 y793 true).bind fun y950 =>
    (part x0 y793 y950).bind fun y952 =>
    if (!(y952 == ([] : List UInt8))) then
      if (!(y952 == ([105, 54, 52] : List UInt8))) then
        if (!(y952 == ([105, 51, 50] : List UInt8))) then
          if (!(y952 == ([117, 56] : List UInt8))) then
            some ((⟨(0 : Int), (0 : Int), (0 : Int)⟩ : T_Token), y793, false)
          else
            F26_j6 x1 y950
        else
          F26_j6 x1 y950
      else
        F26_j6 x1 y950
    else
      F26_j6 x1 y950

theorem w26_j1 {x0 : (List UInt8)} {x1 : Int} {y793 : Int} {y877 : Bool} {r : (T_Token × Int × Bool)} (h : F26_j1 x0 x1 y793 y877 = some r) {b792 : Nat} {H : Heap} {L : List Ob} (hp : HP H ((some (b792, 0), [(V.int .u8 (0 : Int)), (V.int .i64 (0 : Int)), (V.int .i64 (0 : Int))]) :: L)) :
    Run T i26n39 (mkE [(0, (ES.e x0)), (0, (V.int .i64 x1)), (2, (V.ptr b792 0 0)), (2, (V.int .i64 y793)), (15, (V.bool y877))] 96) H (thn T (.clr [5, 6, 8, 14, 15, 16, 17, 18, 19, 20, 21, 22, 23, 24, 25, 26, 27, 28, 29, 30, 31, 32, 33, 34, 35, 36, 37, 38, 39, 40, 41, 42, 43, 44, 45, 46, 47, 48, 49, 50, 51, 52, 53, 54, 55, 56, 57, 58, 59, 60, 61, 62, 63, 64, 65, 66, 67, 68, 69, 70, 71, 72, 73, 74, 75, 76, 77, 78, 79, 80, 81, 82, 83, 84, 85, 86, 87, 88, 89, 90, 91, 92, 93] i26n52) (finE (some [some (some 3), none, none]) [4, 5, 6] (Q26 L r))) := by
  unfold F26_j1 at h
  rcases Bool.eq_false_or_eq_true y877 with h878 | h878
  · rw [ite_t h878] at h; refine Run.condT (by rw [← h878]; kernel_rfl) ?_
    refine Run.seq ?_
    refine Run.rgn ?_
    refine RunO.tk 3 (by kernel_rfl) ?_
    refine RunO.done (e' := (mkE [(0, (ES.e x0)), (0, (V.int .i64 x1)), (2, (V.ptr b792 0 0)), (3, (V.int .i64 (IntKind.i64.wrap (y793 + (1 : Int)))))] 111)) (by kernel_rfl) ?_
    refine Run.seq ?_
    refine Run.rgn ?_
    refine RunO.tk 2 (by kernel_rfl) ?_
    obtain ⟨y879, h880, h⟩ := bind_some h
    refine RunO.c1 (by kernel_rfl) (by kernel_rfl) (c24 h880 _) ?_
    refine RunO.tk 1 (by kernel_rfl) ?_
    refine RunO.done (e' := (mkE [(0, (ES.e x0)), (0, (V.int .i64 x1)), (2, (V.ptr b792 0 0)), (2, (V.int .i64 y879)), (0, (V.int .i64 (IntKind.i64.wrap (y793 + (1 : Int)))))] 111)) (by kernel_rfl) ?_
    refine Run.seq ?_
    refine Run.seq ?_
    refine Run.rgn ?_
    refine RunO.tk 3 (by kernel_rfl) ?_
    refine RunO.done (e' := (mkE [(0, (ES.e x0)), (0, (V.int .i64 x1)), (2, (V.ptr b792 0 0)), (2, (V.int .i64 y879)), (23, (V.bool (y879 == (IntKind.i64.wrap (y793 + (1 : Int))))))] 88)) (by kernel_rfl) ?_
    rcases Bool.eq_false_or_eq_true (y879 == (IntKind.i64.wrap (y793 + (1 : Int)))) with h882 | h882
    · rw [ite_t h882] at h; refine Run.condT (by rw [← h882]; kernel_rfl) ?_
      refine Run.seq ?_
      refine Run.rgn ?_
      refine RunO.tk 2 (by kernel_rfl) ?_
      refine RunO.st hp (by kernel_rfl) 0 (off := 0) (v := (V.ag [(V.int .u8 (0 : Int)), (V.int .i64 (0 : Int)), (V.int .i64 (0 : Int))])) (cs' := [(V.int .u8 (0 : Int)), (V.int .i64 (0 : Int)), (V.int .i64 (0 : Int))]) rfl (by kernel_rfl) (by kernel_rfl) (by kernel_rfl) ?_
      intro H hp
      refine RunO.tk 2 (by kernel_rfl) ?_
      refine RunO.done (e' := (mkE [(4, (V.ptr b792 0 0)), (0, (V.int .i64 y879)), (0, (V.bool false))] 113)) (by kernel_rfl) ?_
      refine Run.ret ?_
      have h := Option.some.inj h; subst h
      have hw := resW_cells (env := (mkE [(4, (V.ptr b792 0 0)), (0, (V.int .i64 y879)), (0, (V.bool false))] 113)) (H := H) (ds := [some (some 3), none, none]) (res := [4, 5, 6]) (vs := [(V.ag [(V.int .u8 (0 : Int)), (V.int .i64 (0 : Int)), (V.int .i64 (0 : Int))]), (V.int .i64 y879), (V.bool false)]) (omapc (Eq.trans (b := ldV _ (V.ptr b792 0 0) (some 3)) (by kernel_rfl) (hp.ld 0 rfl (by kernel_rfl))) (omapc (by kernel_rfl) (omapc (by kernel_rfl) omapn)))
      have hp := hp.del 0
      exact ⟨(V.tup [(V.ag [(V.int .u8 (0 : Int)), (V.int .i64 (0 : Int)), (V.int .i64 (0 : Int))]), (V.int .i64 y879), (V.bool false)]), (hw), (by kernel_rfl), hp⟩
    · rw [ite_f h882] at h; refine Run.condF (by rw [← h882]; kernel_rfl) ?_
      refine Run.skip ?_
      refine Run.clrE (ts := [5, 6, 8, 29, 30, 31, 32, 33]) (b := i26n35) (Q := (thn T (.clr [5, 6, 8, 14, 15, 16, 17, 18, 19, 20, 21, 22, 23, 24, 25, 26, 27, 28, 29, 30, 31, 32, 33, 34, 35, 36, 37, 38, 39, 40, 41, 42, 43, 44, 45, 46, 47, 48, 49, 50, 51, 52, 53, 54, 55, 56, 57, 58, 59, 60, 61, 62, 63, 64, 65, 66, 67, 68, 69, 70, 71, 72, 73, 74, 75, 76, 77, 78, 79, 80, 81, 82, 83, 84, 85, 86, 87, 88, 89, 90, 91, 92, 93] i26n52) (finE (some [some (some 3), none, none]) [4, 5, 6] (Q26 L r)))) (e' := (mkE [(0, (ES.e x0)), (0, (V.int .i64 x1)), (2, (V.ptr b792 0 0)), (2, (V.int .i64 y879))] 112)) (by kernel_rfl) ?_
      refine Run.seq ?_
      refine Run.seq ?_
      refine Run.rgn ?_
      refine RunO.tk 3 (by kernel_rfl) ?_
      rcases Bool.eq_false_or_eq_true (decide (y879 < ((List.length x0 : Nat) : Int))) with h947 | h947
      · rw [ite_t h947] at h; refine RunO.p1 (by kernel_rfl) rfl (by kernel_rfl) (bool_of h947) ?_
        refine RunO.tk 3 (by kernel_rfl) ?_
        obtain ⟨y948, h949, h⟩ := bind_some h
        refine RunO.p1 (by kernel_rfl) rfl (by kernel_rfl) (sidx_st .i64 h949) ?_
        refine RunO.tk 2 (by kernel_rfl) ?_
        refine RunO.done (e' := (mkE [(0, (ES.e x0)), (0, (V.int .i64 x1)), (2, (V.ptr b792 0 0)), (2, (V.int .i64 y879)), (35, (V.bool (y948 == (101 : Int))))] 76)) (by kernel_rfl) ?_
        exact w26_j4 h hp
      · rw [ite_f h947] at h; refine RunO.p1 (by kernel_rfl) rfl (by kernel_rfl) (bool_of h947) ?_
        refine RunO.tk 6 (by kernel_rfl) ?_
        refine RunO.done (e' := (mkE [(0, (ES.e x0)), (0, (V.int .i64 x1)), (2, (V.ptr b792 0 0)), (2, (V.int .i64 y879)), (35, (V.bool false))] 76)) (by kernel_rfl) ?_
        exact w26_j4 h hp
  · rw [ite_f h878] at h; refine Run.condF (by rw [← h878]; kernel_rfl) ?_
    refine Run.skip ?_
    refine Run.clrE (ts := [5, 6, 8, 14, 15, 16, 17, 18, 19, 20, 21, 22, 23, 24, 25, 26, 27, 28, 29, 30, 31, 32, 33, 34, 35, 36, 37, 38, 39, 40, 41, 42, 43, 44, 45, 46, 47, 48, 49, 50, 51, 52, 53, 54, 55, 56, 57, 58, 59, 60, 61, 62, 63, 64, 65, 66, 67, 68, 69, 70, 71, 72, 73, 74, 75, 76, 77, 78, 79, 80, 81, 82, 83, 84, 85, 86, 87, 88, 89, 90, 91, 92, 93]) (b := i26n52) (Q := (finE (some [some (some 3), none, none]) [4, 5, 6] (Q26 L r))) (e' := (mkE [(0, (ES.e x0)), (0, (V.int .i64 x1)), (2, (V.ptr b792 0 0)), (2, (V.int .i64 y793))] 112)) (by kernel_rfl) ?_
    refine Run.seq ?_
    refine Run.rgn ?_
    refine RunO.tk 2 (by kernel_rfl) ?_
    obtain ⟨y950, h951, h⟩ := bind_some h
    refine RunO.c1 (by kernel_rfl) (by kernel_rfl) (c24 h951 _) ?_
    refine RunO.tk 1 (by kernel_rfl) ?_
    refine RunO.done (e' := (mkE [(0, (ES.e x0)), (0, (V.int .i64 x1)), (2, (V.ptr b792 0 0)), (2, (V.int .i64 y793)), (1, (V.int .i64 y950))] 110)) (by kernel_rfl) ?_
    refine Run.seq ?_
    refine Run.rgn ?_
    refine RunO.tk 3 (by kernel_rfl) ?_
    obtain ⟨y952, h953, h⟩ := bind_some h
    refine RunO.p1 (by kernel_rfl) rfl (by kernel_rfl) (slc_str .i64 .i64 h953) ?_
    refine RunO.tk 1 (by kernel_rfl) ?_
    refine RunO.done (e' := (mkE [(1, (V.int .i64 x1)), (2, (V.ptr b792 0 0)), (2, (V.int .i64 y793)), (1, (V.int .i64 y950)), (0, (ES.e y952))] 109)) (by kernel_rfl) ?_
    refine Run.seq ?_
    refine Run.seq ?_
    refine Run.rgn ?_
    refine RunO.tk 1 (by kernel_rfl) ?_
    rcases Bool.eq_false_or_eq_true (!(y952 == ([] : List UInt8))) with h958 | h958
    · rw [ite_t h958] at h; refine RunO.p1 (by kernel_rfl) rfl (by kernel_rfl) (Eq.trans (str_neq y952 ([] : List UInt8)) (bool_of h958)) ?_
      refine RunO.tk 2 (by kernel_rfl) ?_
      rcases Bool.eq_false_or_eq_true (!(y952 == ([105, 54, 52] : List UInt8))) with h959 | h959
      · rw [ite_t h959] at h; refine RunO.p1 (by kernel_rfl) rfl (by kernel_rfl) (Eq.trans (str_neq y952 ([105, 54, 52] : List UInt8)) (bool_of h959)) ?_
        refine RunO.tk 3 (by kernel_rfl) ?_
        rcases Bool.eq_false_or_eq_true (!(y952 == ([105, 51, 50] : List UInt8))) with h960 | h960
        · rw [ite_t h960] at h; refine RunO.p1 (by kernel_rfl) rfl (by kernel_rfl) (Eq.trans (str_neq y952 ([105, 51, 50] : List UInt8)) (bool_of h960)) ?_
          refine RunO.tk 3 (by kernel_rfl) ?_
          refine RunO.p1 (by kernel_rfl) rfl (by kernel_rfl) (str_neq y952 ([117, 56] : List UInt8)) ?_
          refine RunO.tk 1 (by kernel_rfl) ?_
          refine RunO.done (e' := (mkE [(1, (V.int .i64 x1)), (2, (V.ptr b792 0 0)), (2, (V.int .i64 y793)), (1, (V.int .i64 y950)), (104, (V.bool (!(y952 == ([117, 56] : List UInt8)))))] 5)) (by kernel_rfl) ?_
          rcases Bool.eq_false_or_eq_true (!(y952 == ([117, 56] : List UInt8))) with h961 | h961
          · rw [ite_t h961] at h; refine Run.condT (by rw [← h961]; kernel_rfl) ?_
            refine Run.seq ?_
            refine Run.rgn ?_
            refine RunO.tk 2 (by kernel_rfl) ?_
            refine RunO.st hp (by kernel_rfl) 0 (off := 0) (v := (V.ag [(V.int .u8 (0 : Int)), (V.int .i64 (0 : Int)), (V.int .i64 (0 : Int))])) (cs' := [(V.int .u8 (0 : Int)), (V.int .i64 (0 : Int)), (V.int .i64 (0 : Int))]) rfl (by kernel_rfl) (by kernel_rfl) (by kernel_rfl) ?_
            intro H hp
            refine RunO.tk 2 (by kernel_rfl) ?_
            refine RunO.done (e' := (mkE [(4, (V.ptr b792 0 0)), (0, (V.int .i64 y793)), (0, (V.bool false))] 113)) (by kernel_rfl) ?_
            refine Run.ret ?_
            have h := Option.some.inj h; subst h
            have hw := resW_cells (env := (mkE [(4, (V.ptr b792 0 0)), (0, (V.int .i64 y793)), (0, (V.bool false))] 113)) (H := H) (ds := [some (some 3), none, none]) (res := [4, 5, 6]) (vs := [(V.ag [(V.int .u8 (0 : Int)), (V.int .i64 (0 : Int)), (V.int .i64 (0 : Int))]), (V.int .i64 y793), (V.bool false)]) (omapc (Eq.trans (b := ldV _ (V.ptr b792 0 0) (some 3)) (by kernel_rfl) (hp.ld 0 rfl (by kernel_rfl))) (omapc (by kernel_rfl) (omapc (by kernel_rfl) omapn)))
            have hp := hp.del 0
            exact ⟨(V.tup [(V.ag [(V.int .u8 (0 : Int)), (V.int .i64 (0 : Int)), (V.int .i64 (0 : Int))]), (V.int .i64 y793), (V.bool false)]), (hw), (by kernel_rfl), hp⟩
          · rw [ite_f h961] at h; refine Run.condF (by rw [← h961]; kernel_rfl) ?_
            refine Run.skip ?_
            refine Run.clrE (ts := [5, 6, 7, 10, 101, 102, 103, 104, 105, 106, 107, 108, 109, 110, 111, 112, 113, 114, 115, 116]) (b := i26n49) (Q := (finE (some [some (some 3), none, none]) [4, 5, 6] (Q26 L r))) (e' := (mkE [(1, (V.int .i64 x1)), (2, (V.ptr b792 0 0)), (4, (V.int .i64 y950))] 110)) (by kernel_rfl) ?_
            exact w26_j6 h hp
        · rw [ite_f h960] at h; refine RunO.p1 (by kernel_rfl) rfl (by kernel_rfl) (Eq.trans (str_neq y952 ([105, 51, 50] : List UInt8)) (bool_of h960)) ?_
          refine RunO.tk 5 (by kernel_rfl) ?_
          refine RunO.done (e' := (mkE [(1, (V.int .i64 x1)), (2, (V.ptr b792 0 0)), (2, (V.int .i64 y793)), (1, (V.int .i64 y950)), (104, (V.bool false))] 5)) (by kernel_rfl) ?_
          refine Run.condF (by kernel_rfl) ?_
          refine Run.skip ?_
          refine Run.clrE (ts := [5, 6, 7, 10, 101, 102, 103, 104, 105, 106, 107, 108, 109, 110, 111, 112, 113, 114, 115, 116]) (b := i26n49) (Q := (finE (some [some (some 3), none, none]) [4, 5, 6] (Q26 L r))) (e' := (mkE [(1, (V.int .i64 x1)), (2, (V.ptr b792 0 0)), (4, (V.int .i64 y950))] 110)) (by kernel_rfl) ?_
          exact w26_j6 h hp
      · rw [ite_f h959] at h; refine RunO.p1 (by kernel_rfl) rfl (by kernel_rfl) (Eq.trans (str_neq y952 ([105, 54, 52] : List UInt8)) (bool_of h959)) ?_
        refine RunO.tk 9 (by kernel_rfl) ?_
        refine RunO.done (e' := (mkE [(1, (V.int .i64 x1)), (2, (V.ptr b792 0 0)), (2, (V.int .i64 y793)), (1, (V.int .i64 y950)), (104, (V.bool false))] 5)) (by kernel_rfl) ?_
        refine Run.condF (by kernel_rfl) ?_
        refine Run.skip ?_
        refine Run.clrE (ts := [5, 6, 7, 10, 101, 102, 103, 104, 105, 106, 107, 108, 109, 110, 111, 112, 113, 114, 115, 116]) (b := i26n49) (Q := (finE (some [some (some 3), none, none]) [4, 5, 6] (Q26 L r))) (e' := (mkE [(1, (V.int .i64 x1)), (2, (V.ptr b792 0 0)), (4, (V.int .i64 y950))] 110)) (by kernel_rfl) ?_
        exact w26_j6 h hp
    · rw [ite_f h958] at h; refine RunO.p1 (by kernel_rfl) rfl (by kernel_rfl) (Eq.trans (str_neq y952 ([] : List UInt8)) (bool_of h958)) ?_
      refine RunO.tk 12 (by kernel_rfl) ?_
      refine RunO.done (e' := (mkE [(1, (V.int .i64 x1)), (2, (V.ptr b792 0 0)), (2, (V.int .i64 y793)), (1, (V.int .i64 y950)), (104, (V.bool false))] 5)) (by kernel_rfl) ?_
      refine Run.condF (by kernel_rfl) ?_
      refine Run.skip ?_
      refine Run.clrE (ts := [5, 6, 7, 10, 101, 102, 103, 104, 105, 106, 107, 108, 109, 110, 111, 112, 113, 114, 115, 116]) (b := i26n49) (Q := (finE (some [some (some 3), none, none]) [4, 5, 6] (Q26 L r))) (e' := (mkE [(1, (V.int .i64 x1)), (2, (V.ptr b792 0 0)), (4, (V.int .i64 y950))] 110)) (by kernel_rfl) ?_
      exact w26_j6 h hp

def F26 (x0 : (List UInt8)) (x1 : Int) : Option (T_Token × Int × Bool) :=
  (F24 x0 x1 false).bind fun y793 =>
  if (decide (y793 < ((List.length x0 : Nat) : Int))) then
    (sidx x0 y793).bind fun y963 =>
    F26_j1 x0 x1 y793 ((y963 == (46 : Int)))
  else
    F26_j1 x0 x1 y793 (false)

theorem w26 {x0 : (List UInt8)} {x1 : Int} {r : (T_Token × Int × Bool)} (h : F26 x0 x1 = some r) {H : Heap} {L : List Ob} (hp : HP H L) : Fn T 26 [(ES.e x0), (V.int .i64 x1)] H (Q26 L r) := by
  refine Fn.enterE t26 (e0 := (mkE [(0, (ES.e x0)), (0, (V.int .i64 x1))] 118)) (by kernel_rfl) ?_
  show Run T (.fin [some (some 3), none, none] (.clr [] i26n55)) _ _ (finE (some [some (some 3), none, none]) [4, 5, 6] (Q26 L r))
  refine Run.finb ?_
  refine Run.clrE (ts := []) (b := i26n55) (e' := (mkE [(0, (ES.e x0)), (0, (V.int .i64 x1))] 118)) (by kernel_rfl) ?_
  unfold F26 at h
  refine Run.seq ?_
  refine Run.rgn ?_
  refine RunO.alloc hp (by kernel_rfl) ?_
  intro b792 H hp
  have hp : HP H ((some (b792, 0), [(V.int .u8 (0 : Int)), (V.int .i64 (0 : Int)), (V.int .i64 (0 : Int))]) :: L) := hp
  refine RunO.tk 2 (by kernel_rfl) ?_
  refine RunO.done (e' := (mkE [(0, (ES.e x0)), (0, (V.int .i64 x1)), (2, (V.ptr b792 0 0))] 115)) (by kernel_rfl) ?_
  refine Run.seq ?_
  refine Run.rgn ?_
  refine RunO.tk 2 (by kernel_rfl) ?_
  obtain ⟨y793, h794, h⟩ := bind_some h
  refine RunO.c1 (by kernel_rfl) (by kernel_rfl) (c24 h794 _) ?_
  refine RunO.tk 1 (by kernel_rfl) ?_
  refine RunO.done (e' := (mkE [(0, (ES.e x0)), (0, (V.int .i64 x1)), (2, (V.ptr b792 0 0)), (2, (V.int .i64 y793))] 112)) (by kernel_rfl) ?_
  refine Run.seq ?_
  refine Run.seq ?_
  refine Run.rgn ?_
  refine RunO.tk 3 (by kernel_rfl) ?_
  rcases Bool.eq_false_or_eq_true (decide (y793 < ((List.length x0 : Nat) : Int))) with h962 | h962
  · rw [ite_t h962] at h; refine RunO.p1 (by kernel_rfl) rfl (by kernel_rfl) (bool_of h962) ?_
    refine RunO.tk 3 (by kernel_rfl) ?_
    obtain ⟨y963, h964, h⟩ := bind_some h
    refine RunO.p1 (by kernel_rfl) rfl (by kernel_rfl) (sidx_st .i64 h964) ?_
    refine RunO.tk 2 (by kernel_rfl) ?_
    refine RunO.done (e' := (mkE [(0, (ES.e x0)), (0, (V.int .i64 x1)), (2, (V.ptr b792 0 0)), (2, (V.int .i64 y793)), (15, (V.bool (y963 == (46 : Int))))] 96)) (by kernel_rfl) ?_
    exact w26_j1 h hp
  · rw [ite_f h962] at h; refine RunO.p1 (by kernel_rfl) rfl (by kernel_rfl) (bool_of h962) ?_
    refine RunO.tk 6 (by kernel_rfl) ?_
    refine RunO.done (e' := (mkE [(0, (ES.e x0)), (0, (V.int .i64 x1)), (2, (V.ptr b792 0 0)), (2, (V.int .i64 y793)), (15, (V.bool false))] 96)) (by kernel_rfl) ?_
    exact w26_j1 h hp

theorem c26 {x0 : (List UInt8)} {x1 : Int} {r : (T_Token × Int × Bool)} (h : F26 x0 x1 = some r) (s : Bool) : Fn T 26 [(ES.e x0), (V.int .i64 x1)] [] (fun v hh => deep s hh deepN v = some (.tup [E_Token.e r.1, (EI .i64).e r.2.1, EB.e r.2.2])) := by
  refine (w26 h HP.nil).mono ?_
  rintro v hh ⟨rfl, hp⟩
  exact congrArg (Option.map V.tup) (omapc (E_Token.hd s hh 37 _ (.inr rfl)) (omapc ((EI .i64).hd s hh 37 _ (.inr rfl)) (omapc (EB.hd s hh 37 _ (.inr rfl)) omapn)))

/- smithy/smithylaw02.same -/
abbrev Q13 (L : List Ob) (r : Bool) : V → Heap → Prop := fun v h => v = EB.e r ∧ HP h (L)
abbrev RR13 (L : List Ob) (r : Bool) : List V → Heap → Prop := fun e h => endR none [4] (Q13 L r) e h

abbrev I13_1 (x0 : (List T_Token)) (x1 : (List T_Token)) (L : List Ob) : (Int) → List V → Heap → Prop := fun s e h => e = (mkE [(0, (V.fz (List.map E_Token.e x0))), (0, (V.fz (List.map E_Token.e x1))), (3, (V.int .i64 s))] 20) ∧ HP h (L)

abbrev J13_1 (x0 : (List T_Token)) (x1 : (List T_Token)) (L : List Ob) : Unit → Nat → List V → Heap → Prop := fun a i e h => i = 0 ∧ clrEnv [0, 1, 4, 5, 11, 12, 13, 14, 15, 16, 17, 18, 19, 20, 21, 22, 23, 24, 25] e = (mkE [] 26) ∧ HP h (L)

def F13_1_b (x0 : (List T_Token)) (x1 : (List T_Token)) (y1006 : Int) : Option (Stp (Int) Bool Unit) :=
  if (decide (y1006 < ((List.length x0 : Nat) : Int))) then
    (idx x0 y1006).bind fun y1026 =>
    (idx x1 y1006).bind fun y1028 =>
    if (!(decide (y1026 = y1028))) then
      some (.ret false)
    else
      some (.next ((IntKind.i64.wrap (y1006 + (1 : Int)))))
  else
    some (.go ())

theorem w13_1_b {x0 : (List T_Token)} {x1 : (List T_Token)} {y1006 : Int} {t : (Stp (Int) Bool Unit)} (h : F13_1_b x0 x1 y1006 = some t) {H : Heap} {L : List Ob} (hp : HP H (L)) :
    Run T i13n18 (mkE [(0, (V.fz (List.map E_Token.e x0))), (0, (V.fz (List.map E_Token.e x1))), (3, (V.int .i64 y1006))] 20) H (stp [4, 11, 12, 13, 14, 15, 16, 17, 18, 19, 20, 21, 22, 23, 24, 25] (I13_1 x0 x1 L) (RR13 L) (J13_1 x0 x1 L) t) := by
  unfold F13_1_b at h
  refine Run.seq ?_
  refine Run.seq ?_
  refine Run.rgn ?_
  refine RunO.tk 2 (by kernel_rfl) ?_
  refine RunO.p1 (by kernel_rfl) rfl (by kernel_rfl) (len_fz E_Token x0) ?_
  refine RunO.tk 1 (by kernel_rfl) ?_
  refine RunO.done (e' := (mkE [(0, (V.fz (List.map E_Token.e x0))), (0, (V.fz (List.map E_Token.e x1))), (3, (V.int .i64 y1006)), (8, (V.bool (decide (y1006 < ((List.length x0 : Nat) : Int)))))] 11)) (by kernel_rfl) ?_
  rcases Bool.eq_false_or_eq_true (decide (y1006 < ((List.length x0 : Nat) : Int))) with h1020 | h1020
  · rw [ite_t h1020] at h; refine Run.condT (by rw [← h1020]; kernel_rfl) ?_
    refine Run.skip ?_
    refine Run.clrE (ts := [11, 12, 13, 14]) (b := i13n17) (Q := (stp [4, 11, 12, 13, 14, 15, 16, 17, 18, 19, 20, 21, 22, 23, 24, 25] (I13_1 x0 x1 L) (RR13 L) (J13_1 x0 x1 L) t)) (e' := (mkE [(0, (V.fz (List.map E_Token.e x0))), (0, (V.fz (List.map E_Token.e x1))), (3, (V.int .i64 y1006))] 20)) (by kernel_rfl) ?_
    refine Run.seq ?_
    refine Run.block ?_
    refine Run.seq ?_
    refine Run.rgn ?_
    refine RunO.tk 2 (by kernel_rfl) ?_
    obtain ⟨y1026, h1027, h⟩ := bind_some h
    refine RunO.p1 (by kernel_rfl) rfl (by kernel_rfl) (idx_fz E_Token .i64 h1027) ?_
    refine RunO.tk 3 (by kernel_rfl) ?_
    obtain ⟨y1028, h1029, h⟩ := bind_some h
    refine RunO.p1 (by kernel_rfl) rfl (by kernel_rfl) (idx_fz E_Token .i64 h1029) ?_
    refine RunO.tk 1 (by kernel_rfl) ?_
    refine RunO.p1 (by kernel_rfl) rfl (by kernel_rfl) (eqs_Token true y1026 y1028) ?_
    refine RunO.done (e' := (mkE [(0, (V.fz (List.map E_Token.e x0))), (0, (V.fz (List.map E_Token.e x1))), (3, (V.int .i64 y1006)), (19, (V.bool (!(decide (y1026 = y1028)))))] 0)) (by kernel_rfl) ?_
    rcases Bool.eq_false_or_eq_true (!(decide (y1026 = y1028))) with h1030 | h1030
    · rw [ite_t h1030] at h; refine Run.condT (by rw [← h1030]; kernel_rfl) ?_
      refine Run.seq ?_
      refine Run.rgn ?_
      refine RunO.tk 1 (by kernel_rfl) ?_
      refine RunO.done (e' := (mkE [(4, (V.bool false))] 21)) (by kernel_rfl) ?_
      refine Run.ret ?_
      have h := Option.some.inj h; subst h
      show RR13 L _ _ _
      exact ⟨(V.bool false), (by kernel_rfl), (by kernel_rfl), hp⟩
    · rw [ite_f h1030] at h; refine Run.condF (by rw [← h1030]; kernel_rfl) ?_
      refine Run.skip ?_
      refine Run.clrE (ts := [4, 17, 18, 19, 20, 21, 22, 23, 24, 25]) (b := (.rgn i13r16)) (Q := (stp [4, 11, 12, 13, 14, 15, 16, 17, 18, 19, 20, 21, 22, 23, 24, 25] (I13_1 x0 x1 L) (RR13 L) (J13_1 x0 x1 L) t)) (e' := (mkE [(0, (V.fz (List.map E_Token.e x0))), (0, (V.fz (List.map E_Token.e x1))), (3, (V.int .i64 y1006))] 20)) (by kernel_rfl) ?_
      refine Run.rgn ?_
      refine RunO.tk 3 (by kernel_rfl) ?_
      refine RunO.nil ?_
      have h := Option.some.inj h; subst h
      show I13_1 x0 x1 L _ _ _
      exact ⟨(by kernel_rfl), hp⟩
  · rw [ite_f h1020] at h; refine Run.condF (by rw [← h1020]; kernel_rfl) ?_
    refine Run.exit ?_
    have h := Option.some.inj h; subst h
    show J13_1 x0 x1 L () _ _ _
    exact ⟨rfl, (by kernel_rfl), hp⟩

def F13 (x0 : (List T_Token)) (x1 : (List T_Token)) : Option Bool :=
  if (((List.length x0 : Nat) : Int) != ((List.length x1 : Nat) : Int)) then
    some false
  else
    (iter (fun s : (Int) => F13_1_b x0 x1 s) FUEL ((0 : Int))).bind fun o => match o with
    | .ret r => some r
    | .go () =>
      some true

theorem w13 {x0 : (List T_Token)} {x1 : (List T_Token)} {r : Bool} (h : F13 x0 x1 = some r) {H : Heap} {L : List Ob} (hp : HP H L) : Fn T 13 [(V.fz (List.map E_Token.e x0)), (V.fz (List.map E_Token.e x1))] H (Q13 L r) := by
  refine Fn.enterE t13 (e0 := (mkE [(0, (V.fz (List.map E_Token.e x0))), (0, (V.fz (List.map E_Token.e x1)))] 24)) (by kernel_rfl) ?_
  show Run T (.clr [] i13n26) _ _ (finE none [4] (Q13 L r))
  refine Run.clrE (ts := []) (b := i13n26) (e' := (mkE [(0, (V.fz (List.map E_Token.e x0))), (0, (V.fz (List.map E_Token.e x1)))] 24)) (by kernel_rfl) ?_
  unfold F13 at h
  refine Run.seq ?_
  refine Run.rgn ?_
  refine RunO.tk 1 (by kernel_rfl) ?_
  refine RunO.done (e' := (mkE [(0, (V.fz (List.map E_Token.e x0))), (0, (V.fz (List.map E_Token.e x1)))] 24)) (by kernel_rfl) ?_
  refine Run.seq ?_
  refine Run.seq ?_
  refine Run.rgn ?_
  refine RunO.tk 1 (by kernel_rfl) ?_
  refine RunO.p1 (by kernel_rfl) rfl (by kernel_rfl) (len_fz E_Token x0) ?_
  refine RunO.tk 1 (by kernel_rfl) ?_
  refine RunO.p1 (by kernel_rfl) rfl (by kernel_rfl) (len_fz E_Token x1) ?_
  refine RunO.tk 1 (by kernel_rfl) ?_
  refine RunO.done (e' := (mkE [(0, (V.fz (List.map E_Token.e x0))), (0, (V.fz (List.map E_Token.e x1))), (8, (V.bool (((List.length x0 : Nat) : Int) != ((List.length x1 : Nat) : Int))))] 15)) (by kernel_rfl) ?_
  rcases Bool.eq_false_or_eq_true (((List.length x0 : Nat) : Int) != ((List.length x1 : Nat) : Int)) with h993 | h993
  · rw [ite_t h993] at h; refine Run.condT (by rw [← h993]; kernel_rfl) ?_
    refine Run.seq ?_
    refine Run.rgn ?_
    refine RunO.tk 1 (by kernel_rfl) ?_
    refine RunO.done (e' := (mkE [(4, (V.bool false))] 21)) (by kernel_rfl) ?_
    refine Run.ret ?_
    have h := Option.some.inj h; subst h
    exact ⟨(V.bool false), (by kernel_rfl), (by kernel_rfl), hp⟩
  · rw [ite_f h993] at h; refine Run.condF (by rw [← h993]; kernel_rfl) ?_
    refine Run.skip ?_
    refine Run.clrE (ts := [4, 6, 7, 8, 9, 10]) (b := i13n24) (Q := (finE none [4] (Q13 L r))) (e' := (mkE [(0, (V.fz (List.map E_Token.e x0))), (0, (V.fz (List.map E_Token.e x1)))] 24)) (by kernel_rfl) ?_
    refine Run.seq ?_
    refine Run.seq ?_
    refine Run.rgn ?_
    refine RunO.tk 1 (by kernel_rfl) ?_
    refine RunO.done (e' := (mkE [(0, (V.fz (List.map E_Token.e x0))), (0, (V.fz (List.map E_Token.e x1))), (3, (V.int .i64 (0 : Int)))] 20)) (by kernel_rfl) ?_
    refine Run.block ?_
    obtain ⟨o, h1031, h⟩ := bind_some h
    refine (Run.iter (I := I13_1 x0 x1 L) (RR := RR13 L) (J := J13_1 x0 x1 L) (fun s e h' t hI hf => ?_) FUEL h1031 (by exact ⟨(by kernel_rfl), hp⟩)).mono ?_
    · obtain ⟨rfl, hp⟩ := hI; exact w13_1_b hf hp
    · rintro X e' H hq
      cases o with
      | ret r => cases X <;> first | exact hq.elim | (cases h; exact hq)
      | go a => 
        cases X with | nrm => exact hq.elim | ret => exact hq.elim | ext i => ?_
        obtain ⟨rfl, he, hp⟩ := hq
        dsimp only at h
        refine Run.clrE (ts := [0, 1, 4, 5, 11, 12, 13, 14, 15, 16, 17, 18, 19, 20, 21, 22, 23, 24, 25]) (b := i13n23) (Q := (finE none [4] (Q13 L r))) he ?_
        refine Run.seq ?_
        refine Run.rgn ?_
        refine RunO.tk 1 (by kernel_rfl) ?_
        refine RunO.done (e' := (mkE [(4, (V.bool true))] 21)) (by kernel_rfl) ?_
        refine Run.ret ?_
        have h := Option.some.inj h; subst h
        exact ⟨(V.bool true), (by kernel_rfl), (by kernel_rfl), hp⟩

theorem c13 {x0 : (List T_Token)} {x1 : (List T_Token)} {r : Bool} (h : F13 x0 x1 = some r) (s : Bool) : Fn T 13 [(V.fz (List.map E_Token.e x0)), (V.fz (List.map E_Token.e x1))] [] (fun v hh => deep s hh deepN v = some (EB.e r)) := by
  refine (w13 h HP.nil).mono ?_
  rintro v hh ⟨rfl, hp⟩
  exact EB.hd s hh 38 _ (.inr rfl)

/- smithy/smithyref02.Scan -/
abbrev Q12 (L : List Ob) (r : ((List T_Token) × T_Fault)) : V → Heap → Prop := fun v h => ∃ (o0 : Option (Nat × Nat)) (q0 : List V), v = .tup [slv E_Token.z E_Token.ag (List.length r.1) o0, E_Fault.e r.2] ∧ HP h ((o0, List.flatMap E_Token.c r.1 ++ q0) :: L)
abbrev RR12 (L : List Ob) (r : ((List T_Token) × T_Fault)) : List V → Heap → Prop := fun e h => endR (some [none, some (some 2)]) [2, 3] (Q12 L r) e h

abbrev I12_1 (x0 : (List UInt8)) (b1183 : Nat) (L : List Ob) : ((List T_Token) × Int) → List V → Heap → Prop := fun s e h => ∃ o1257 : Option (Nat × Nat), ∃ q1258 : List V, e = (mkE [(0, (ES.e x0)), (2, (V.ptr b1183 0 0)), (0, (slv E_Token.z E_Token.ag (List.length s.1) o1257)), (0, (V.int .i64 s.2))] 85) ∧ HP h ((some (b1183, 0), [(V.int .i64 (0 : Int)), (V.int .i64 (0 : Int))]) :: (o1257, List.flatMap E_Token.c s.1 ++ q1258) :: L)

abbrev J12_1 (x0 : (List UInt8)) (b1183 : Nat) (L : List Ob) : ((List T_Token)) → Nat → List V → Heap → Prop := fun a i e h => i = 0 ∧ ∃ o1329 : Option (Nat × Nat), ∃ q1330 : List V, clrEnv [2, 5, 6, 7, 8, 9, 10, 17, 18, 19, 20, 21, 22, 23, 24, 25, 26, 27, 28, 29, 30, 31, 32, 33, 34, 35, 36, 37, 38, 39, 40, 41, 42, 43, 44, 45, 46, 47, 48, 49, 50, 51, 52, 53, 54, 55, 56, 57, 58, 59, 60, 61, 62, 63, 64, 65, 66, 67, 68, 69, 70, 71, 72, 73, 74, 75, 76, 77, 78, 79, 80, 81] e = (mkE [(0, (ES.e x0)), (2, (V.ptr b1183 0 0)), (0, (slv E_Token.z E_Token.ag (List.length a) o1329))] 86) ∧ HP h ((some (b1183, 0), [(V.int .i64 (0 : Int)), (V.int .i64 (0 : Int))]) :: (o1329, List.flatMap E_Token.c a ++ q1330) :: L)

def F12_j1 (x0 : (List UInt8)) (l1256 : (List T_Token)) (y1363 : Int) (y1364 : Int) (y1365 : Int) : Option (Stp ((List T_Token) × Int) ((List T_Token) × T_Fault) ((List T_Token))) :=
  (more 24 l1256 ([(⟨y1363, y1364, y1365⟩ : T_Token)] : List T_Token)).bind fun y1366 =>
  (F22 x0 y1365).bind fun y1369 =>
  some (.next (y1366, y1369))

theorem w12_j1 {x0 : (List UInt8)} {l1256 : (List T_Token)} {y1363 : Int} {y1364 : Int} {y1365 : Int} {t : (Stp ((List T_Token) × Int) ((List T_Token) × T_Fault) ((List T_Token)))} (h : F12_j1 x0 l1256 y1363 y1364 y1365 = some t) {b1183 : Nat} {b1362 : Nat} {o1257 : Option (Nat × Nat)} {q1258 : List V} {H : Heap} {L : List Ob} (hp : HP H ((some (b1183, 0), [(V.int .i64 (0 : Int)), (V.int .i64 (0 : Int))]) :: (o1257, List.flatMap E_Token.c l1256 ++ q1258) :: (some (b1362, 0), [(V.int .u8 y1363), (V.int .i64 y1364), (V.int .i64 y1365)]) :: L)) :
    Run T i12n54 (mkE [(0, (ES.e x0)), (2, (V.ptr b1183 0 0)), (0, (slv E_Token.z E_Token.ag (List.length l1256) o1257)), (1, (V.ptr b1362 0 0))] 84) H (blk 1 (stp [2, 6, 7, 8, 9, 10, 17, 18, 19, 20, 21, 22, 23, 24, 25, 26, 27, 28, 29, 30, 31, 32, 33, 34, 35, 36, 37, 38, 39, 40, 41, 42, 43, 44, 45, 46, 47, 48, 49, 50, 51, 52, 53, 54, 55, 56, 57, 58, 59, 60, 61, 62, 63, 64, 65, 66, 67, 68, 69, 70, 71, 72, 73, 74, 75, 76, 77, 78, 79, 80, 81] (I12_1 x0 b1183 L) (RR12 L) (J12_1 x0 b1183 L) t)) := by
  unfold F12_j1 at h
  refine Run.seq ?_
  refine Run.rgn ?_
  refine RunO.tk 1 (by kernel_rfl) ?_
  refine RunO.p1 (by kernel_rfl) rfl (by kernel_rfl) (hp.ld 2 (off := 0) (n := (some 3)) (v := (V.ag [(V.int .u8 y1363), (V.int .i64 y1364), (V.int .i64 y1365)])) rfl (by kernel_rfl)) ?_
  refine RunO.tk 1 (by kernel_rfl) ?_
  obtain ⟨y1366, h1367, h⟩ := bind_some h
  refine RunO.app1 E_Token hp (by kernel_rfl) 1 (o := o1257) (l := l1256) (rest := q1258) (m := ([(⟨y1363, y1364, y1365⟩ : T_Token)] : List T_Token)) rfl (by kernel_rfl) (by kernel_rfl) (E_Token.new_fz _ ([(⟨y1363, y1364, y1365⟩ : T_Token)] : List T_Token)) (by kernel_rfl) (by kernel_rfl) h1367 ?_
  intro o1368 H hp
  have hp : HP H ((some (b1183, 0), [(V.int .i64 (0 : Int)), (V.int .i64 (0 : Int))]) :: (o1368, List.flatMap E_Token.c y1366 ++ []) :: (some (b1362, 0), [(V.int .u8 y1363), (V.int .i64 y1364), (V.int .i64 y1365)]) :: L) := hp
  refine RunO.tk 1 (by kernel_rfl) ?_
  refine RunO.done (e' := (mkE [(0, (ES.e x0)), (2, (V.ptr b1183 0 0)), (0, (slv E_Token.z E_Token.ag (List.length y1366) o1368)), (1, (V.ptr b1362 0 0))] 84)) (by kernel_rfl) ?_
  refine Run.rgn ?_
  refine RunO.tk 2 (by kernel_rfl) ?_
  refine RunO.p1 (by kernel_rfl) rfl (by kernel_rfl) (hp.ld 2 (off := 2) (n := none) (v := (V.int .i64 y1365)) rfl (by kernel_rfl)) ?_
  obtain ⟨y1369, h1370, h⟩ := bind_some h
  refine RunO.c1 (by kernel_rfl) (by kernel_rfl) (c22 h1370 _) ?_
  refine RunO.tk 1 (by kernel_rfl) ?_
  refine RunO.nil ?_
  have h := Option.some.inj h; subst h
  have hp := hp.del 2
  show I12_1 x0 b1183 L _ _ _
  exact ⟨o1368, [], (by kernel_rfl), hp⟩

def F12_1_b (x0 : (List UInt8)) (l1256 : (List T_Token)) (y1259 : Int) : Option (Stp ((List T_Token) × Int) ((List T_Token) × T_Fault) ((List T_Token))) :=
  if (decide (y1259 < ((List.length x0 : Nat) : Int))) then
    (sidx x0 y1259).bind fun y1371 =>
    (F23 y1371).bind fun y1373 =>
    if y1373 then
      (F24 x0 y1259 true).bind fun y1376 =>
      if (decide ((IntKind.i64.wrap (y1376 - y1259)) > (32 : Int))) then
        some (.ret ([], (⟨(120 : Int), y1259⟩ : T_Fault)))
      else
        (part x0 y1259 y1376).bind fun y1380 =>
        (F15 y1380).bind fun y1382 =>
        if y1382 then
          F12_j1 x0 l1256 ((3 : Int)) (y1259) (y1376)
        else
          F12_j1 x0 l1256 ((2 : Int)) (y1259) (y1376)
    else
      (sidx x0 y1259).bind fun y1385 =>
      (F25 y1385).bind fun y1387 =>
      if y1387 then
        (F26 x0 y1259).bind fun y1390 =>
        if (!y1390.2.2) then
          some (.ret ([], (⟨(120 : Int), y1390.2.1⟩ : T_Fault)))
        else
          F12_j1 x0 l1256 (y1390.1.fKind) (y1390.1.fAt) (y1390.1.fEnd)
      else
        (F27 x0 y1259).bind fun y1395 =>
        if (y1395 == (0 : Int)) then
          some (.ret ([], (⟨(120 : Int), y1259⟩ : T_Fault)))
        else
          F12_j1 x0 l1256 ((6 : Int)) (y1259) ((IntKind.i64.wrap (y1259 + y1395)))
  else
    some (.go (l1256))

theorem w12_1_b {x0 : (List UInt8)} {l1256 : (List T_Token)} {y1259 : Int} {t : (Stp ((List T_Token) × Int) ((List T_Token) × T_Fault) ((List T_Token)))} (h : F12_1_b x0 l1256 y1259 = some t) {b1183 : Nat} {o1257 : Option (Nat × Nat)} {q1258 : List V} {H : Heap} {L : List Ob} (hp : HP H ((some (b1183, 0), [(V.int .i64 (0 : Int)), (V.int .i64 (0 : Int))]) :: (o1257, List.flatMap E_Token.c l1256 ++ q1258) :: L)) :
    Run T i12n58 (mkE [(0, (ES.e x0)), (2, (V.ptr b1183 0 0)), (0, (slv E_Token.z E_Token.ag (List.length l1256) o1257)), (0, (V.int .i64 y1259))] 85) H (stp [2, 6, 7, 8, 9, 10, 17, 18, 19, 20, 21, 22, 23, 24, 25, 26, 27, 28, 29, 30, 31, 32, 33, 34, 35, 36, 37, 38, 39, 40, 41, 42, 43, 44, 45, 46, 47, 48, 49, 50, 51, 52, 53, 54, 55, 56, 57, 58, 59, 60, 61, 62, 63, 64, 65, 66, 67, 68, 69, 70, 71, 72, 73, 74, 75, 76, 77, 78, 79, 80, 81] (I12_1 x0 b1183 L) (RR12 L) (J12_1 x0 b1183 L) t) := by
  unfold F12_1_b at h
  refine Run.seq ?_
  refine Run.seq ?_
  refine Run.rgn ?_
  refine RunO.tk 4 (by kernel_rfl) ?_
  refine RunO.done (e' := (mkE [(0, (ES.e x0)), (2, (V.ptr b1183 0 0)), (0, (slv E_Token.z E_Token.ag (List.length l1256) o1257)), (0, (V.int .i64 y1259)), (14, (V.bool (decide (y1259 < ((List.length x0 : Nat) : Int)))))] 70)) (by kernel_rfl) ?_
  rcases Bool.eq_false_or_eq_true (decide (y1259 < ((List.length x0 : Nat) : Int))) with h1332 | h1332
  · rw [ite_t h1332] at h; refine Run.condT (by rw [← h1332]; kernel_rfl) ?_
    refine Run.skip ?_
    refine Run.clrE (ts := [17, 18, 19, 20]) (b := i12n57) (Q := (stp [2, 6, 7, 8, 9, 10, 17, 18, 19, 20, 21, 22, 23, 24, 25, 26, 27, 28, 29, 30, 31, 32, 33, 34, 35, 36, 37, 38, 39, 40, 41, 42, 43, 44, 45, 46, 47, 48, 49, 50, 51, 52, 53, 54, 55, 56, 57, 58, 59, 60, 61, 62, 63, 64, 65, 66, 67, 68, 69, 70, 71, 72, 73, 74, 75, 76, 77, 78, 79, 80, 81] (I12_1 x0 b1183 L) (RR12 L) (J12_1 x0 b1183 L) t)) (e' := (mkE [(0, (ES.e x0)), (2, (V.ptr b1183 0 0)), (0, (slv E_Token.z E_Token.ag (List.length l1256) o1257)), (0, (V.int .i64 y1259))] 85)) (by kernel_rfl) ?_
    refine Run.block ?_
    refine Run.seq ?_
    refine Run.rgn ?_
    refine RunO.tk 2 (by kernel_rfl) ?_
    refine RunO.alloc hp (by kernel_rfl) ?_
    intro b1333 H hp
    have hp : HP H ((some (b1333, 0), [(V.int .u8 (0 : Int)), (V.int .i64 (0 : Int)), (V.int .i64 (0 : Int))]) :: (some (b1183, 0), [(V.int .i64 (0 : Int)), (V.int .i64 (0 : Int))]) :: (o1257, List.flatMap E_Token.c l1256 ++ q1258) :: L) := hp
    refine RunO.st hp (by kernel_rfl) 0 (off := 0) (v := (V.ag [(V.int .u8 (0 : Int)), (V.int .i64 y1259), (V.int .i64 (0 : Int))])) (cs' := [(V.int .u8 (0 : Int)), (V.int .i64 y1259), (V.int .i64 (0 : Int))]) rfl (by kernel_rfl) (by kernel_rfl) (by kernel_rfl) ?_
    intro H hp
    refine RunO.done (e' := (mkE [(0, (ES.e x0)), (2, (V.ptr b1183 0 0)), (0, (slv E_Token.z E_Token.ag (List.length l1256) o1257)), (0, (V.int .i64 y1259)), (0, (V.ptr b1333 0 0))] 84)) (by kernel_rfl) ?_
    refine Run.seq ?_
    refine Run.seq ?_
    refine Run.rgn ?_
    refine RunO.tk 2 (by kernel_rfl) ?_
    obtain ⟨y1371, h1372, h⟩ := bind_some h
    refine RunO.p1 (by kernel_rfl) rfl (by kernel_rfl) (sidx_st .i64 h1372) ?_
    obtain ⟨y1373, h1374, h⟩ := bind_some h
    refine RunO.c1 (by kernel_rfl) (by kernel_rfl) (c23 h1374 _) ?_
    refine RunO.done (e' := (mkE [(0, (ES.e x0)), (2, (V.ptr b1183 0 0)), (0, (slv E_Token.z E_Token.ag (List.length l1256) o1257)), (0, (V.int .i64 y1259)), (0, (V.ptr b1333 0 0)), (19, (V.bool y1373))] 64)) (by kernel_rfl) ?_
    rcases Bool.eq_false_or_eq_true y1373 with h1375 | h1375
    · rw [ite_t h1375] at h; refine Run.condT (by rw [← h1375]; kernel_rfl) ?_
      refine Run.seq ?_
      refine Run.rgn ?_
      refine RunO.tk 2 (by kernel_rfl) ?_
      obtain ⟨y1376, h1377, h⟩ := bind_some h
      refine RunO.c1 (by kernel_rfl) (by kernel_rfl) (c24 h1377 _) ?_
      refine RunO.tk 1 (by kernel_rfl) ?_
      refine RunO.st hp (by kernel_rfl) 0 (off := 2) (v := (V.int .i64 y1376)) (cs' := [(V.int .u8 (0 : Int)), (V.int .i64 y1259), (V.int .i64 y1376)]) rfl (by kernel_rfl) (by kernel_rfl) (by kernel_rfl) ?_
      intro H hp
      refine RunO.done (e' := (mkE [(0, (ES.e x0)), (2, (V.ptr b1183 0 0)), (0, (slv E_Token.z E_Token.ag (List.length l1256) o1257)), (0, (V.int .i64 y1259)), (0, (V.ptr b1333 0 0))] 84)) (by kernel_rfl) ?_
      refine Run.seq ?_
      refine Run.rgn ?_
      refine RunO.tk 1 (by kernel_rfl) ?_
      refine RunO.st hp (by kernel_rfl) 0 (off := 0) (v := (V.int .u8 (2 : Int))) (cs' := [(V.int .u8 (2 : Int)), (V.int .i64 y1259), (V.int .i64 y1376)]) rfl (by kernel_rfl) (by kernel_rfl) (by kernel_rfl) ?_
      intro H hp
      refine RunO.done (e' := (mkE [(0, (ES.e x0)), (2, (V.ptr b1183 0 0)), (0, (slv E_Token.z E_Token.ag (List.length l1256) o1257)), (0, (V.int .i64 y1259)), (0, (V.ptr b1333 0 0))] 84)) (by kernel_rfl) ?_
      refine Run.seq ?_
      refine Run.seq ?_
      refine Run.rgn ?_
      refine RunO.tk 1 (by kernel_rfl) ?_
      refine RunO.p1 (by kernel_rfl) rfl (by kernel_rfl) (hp.ld 0 (off := 2) (n := none) (v := (V.int .i64 y1376)) rfl (by kernel_rfl)) ?_
      refine RunO.tk 3 (by kernel_rfl) ?_
      refine RunO.done (e' := (mkE [(0, (ES.e x0)), (2, (V.ptr b1183 0 0)), (0, (slv E_Token.z E_Token.ag (List.length l1256) o1257)), (0, (V.int .i64 y1259)), (0, (V.ptr b1333 0 0)), (29, (V.bool (decide ((IntKind.i64.wrap (y1376 - y1259)) > (32 : Int)))))] 54)) (by kernel_rfl) ?_
      rcases Bool.eq_false_or_eq_true (decide ((IntKind.i64.wrap (y1376 - y1259)) > (32 : Int))) with h1379 | h1379
      · rw [ite_t h1379] at h; refine Run.condT (by rw [← h1379]; kernel_rfl) ?_
        refine Run.seq ?_
        refine Run.rgn ?_
        refine RunO.tk 3 (by kernel_rfl) ?_
        refine RunO.st hp (by kernel_rfl) 1 (off := 0) (v := (V.ag [(V.int .i64 (120 : Int)), (V.int .i64 y1259)])) (cs' := [(V.int .i64 (120 : Int)), (V.int .i64 y1259)]) rfl (by kernel_rfl) (by kernel_rfl) (by kernel_rfl) ?_
        intro H hp
        refine RunO.done (e' := (mkE [(2, V.nils), (0, (V.ptr b1183 0 0))] 87)) (by kernel_rfl) ?_
        refine Run.ret ?_
        have h := Option.some.inj h; subst h
        show RR12 L _ _ _
        have hw := resW_cells (env := (mkE [(2, V.nils), (0, (V.ptr b1183 0 0))] 87)) (H := H) (ds := [none, some (some 2)]) (res := [2, 3]) (vs := [V.nils, (V.ag [(V.int .i64 (120 : Int)), (V.int .i64 y1259)])]) (omapc (by kernel_rfl) (omapc (Eq.trans (b := ldV _ (V.ptr b1183 0 0) (some 2)) (by kernel_rfl) (hp.ld 1 rfl (by kernel_rfl))) omapn))
        have hp := hp.non
        have hp := hp.del 3
        have hp := hp.del 2
        have hp := hp.del 1
        exact ⟨(V.tup [V.nils, (V.ag [(V.int .i64 (120 : Int)), (V.int .i64 y1259)])]), (hw), _, _, (by kernel_rfl), hp⟩
      · rw [ite_f h1379] at h; refine Run.condF (by rw [← h1379]; kernel_rfl) ?_
        refine Run.skip ?_
        refine Run.clrE (ts := [2, 32, 33, 34, 35, 36, 37, 38]) (b := i12n23) (Q := (thn T (.clr [2, 5, 7, 8, 9, 10, 23, 24, 25, 26, 27, 28, 29, 30, 31, 32, 33, 34, 35, 36, 37, 38, 39, 40, 41, 42, 43, 44, 45, 46, 47, 48, 49, 50, 51, 52, 53, 54, 55, 56, 57, 58, 59, 60, 61, 62, 63, 64, 65, 66, 67, 68, 69, 70, 71, 72, 73] i12n54) (blk 1 (stp [2, 6, 7, 8, 9, 10, 17, 18, 19, 20, 21, 22, 23, 24, 25, 26, 27, 28, 29, 30, 31, 32, 33, 34, 35, 36, 37, 38, 39, 40, 41, 42, 43, 44, 45, 46, 47, 48, 49, 50, 51, 52, 53, 54, 55, 56, 57, 58, 59, 60, 61, 62, 63, 64, 65, 66, 67, 68, 69, 70, 71, 72, 73, 74, 75, 76, 77, 78, 79, 80, 81] (I12_1 x0 b1183 L) (RR12 L) (J12_1 x0 b1183 L) t)))) (e' := (mkE [(0, (ES.e x0)), (2, (V.ptr b1183 0 0)), (0, (slv E_Token.z E_Token.ag (List.length l1256) o1257)), (0, (V.int .i64 y1259)), (0, (V.ptr b1333 0 0))] 84)) (by kernel_rfl) ?_
        refine Run.seq ?_
        refine Run.rgn ?_
        refine RunO.tk 3 (by kernel_rfl) ?_
        refine RunO.p1 (by kernel_rfl) rfl (by kernel_rfl) (hp.ld 0 (off := 2) (n := none) (v := (V.int .i64 y1376)) rfl (by kernel_rfl)) ?_
        obtain ⟨y1380, h1381, h⟩ := bind_some h
        refine RunO.p1 (by kernel_rfl) rfl (by kernel_rfl) (slc_str .i64 .i64 h1381) ?_
        obtain ⟨y1382, h1383, h⟩ := bind_some h
        refine RunO.c1 (by kernel_rfl) (by kernel_rfl) (c15 h1383 _) ?_
        refine RunO.done (e' := (mkE [(0, (ES.e x0)), (2, (V.ptr b1183 0 0)), (0, (slv E_Token.z E_Token.ag (List.length l1256) o1257)), (1, (V.ptr b1333 0 0)), (37, (V.bool y1382))] 46)) (by kernel_rfl) ?_
        rcases Bool.eq_false_or_eq_true y1382 with h1384 | h1384
        · rw [ite_t h1384] at h; refine Run.condT (by rw [← h1384]; kernel_rfl) ?_
          refine Run.rgn ?_
          refine RunO.tk 1 (by kernel_rfl) ?_
          refine RunO.st hp (by kernel_rfl) 0 (off := 0) (v := (V.int .u8 (3 : Int))) (cs' := [(V.int .u8 (3 : Int)), (V.int .i64 y1259), (V.int .i64 y1376)]) rfl (by kernel_rfl) (by kernel_rfl) (by kernel_rfl) ?_
          intro H hp
          refine RunO.done (e' := (mkE [(0, (ES.e x0)), (2, (V.ptr b1183 0 0)), (0, (slv E_Token.z E_Token.ag (List.length l1256) o1257)), (1, (V.ptr b1333 0 0))] 84)) (by kernel_rfl) ?_
          have hp := hp.pick 0 rfl
          have hp := hp.pick 2 rfl
          have hp := hp.pick 2 rfl
          exact w12_j1 h hp
        · rw [ite_f h1384] at h; refine Run.condF (by rw [← h1384]; kernel_rfl) ?_
          refine Run.skip ?_
          refine Run.clrE (ts := [2, 5, 7, 8, 9, 10, 23, 24, 25, 26, 27, 28, 29, 30, 31, 32, 33, 34, 35, 36, 37, 38, 39, 40, 41, 42, 43, 44, 45, 46, 47, 48, 49, 50, 51, 52, 53, 54, 55, 56, 57, 58, 59, 60, 61, 62, 63, 64, 65, 66, 67, 68, 69, 70, 71, 72, 73]) (b := i12n54) (Q := (blk 1 (stp [2, 6, 7, 8, 9, 10, 17, 18, 19, 20, 21, 22, 23, 24, 25, 26, 27, 28, 29, 30, 31, 32, 33, 34, 35, 36, 37, 38, 39, 40, 41, 42, 43, 44, 45, 46, 47, 48, 49, 50, 51, 52, 53, 54, 55, 56, 57, 58, 59, 60, 61, 62, 63, 64, 65, 66, 67, 68, 69, 70, 71, 72, 73, 74, 75, 76, 77, 78, 79, 80, 81] (I12_1 x0 b1183 L) (RR12 L) (J12_1 x0 b1183 L) t))) (e' := (mkE [(0, (ES.e x0)), (2, (V.ptr b1183 0 0)), (0, (slv E_Token.z E_Token.ag (List.length l1256) o1257)), (1, (V.ptr b1333 0 0))] 84)) (by kernel_rfl) ?_
          have hp := hp.pick 0 rfl
          have hp := hp.pick 2 rfl
          have hp := hp.pick 2 rfl
          exact w12_j1 h hp
    · rw [ite_f h1375] at h; refine Run.condF (by rw [← h1375]; kernel_rfl) ?_
      refine Run.seq ?_
      refine Run.rgn ?_
      refine RunO.tk 2 (by kernel_rfl) ?_
      obtain ⟨y1385, h1386, h⟩ := bind_some h
      refine RunO.p1 (by kernel_rfl) rfl (by kernel_rfl) (sidx_st .i64 h1386) ?_
      obtain ⟨y1387, h1388, h⟩ := bind_some h
      refine RunO.c1 (by kernel_rfl) (by kernel_rfl) (c25 h1388 _) ?_
      refine RunO.done (e' := (mkE [(0, (ES.e x0)), (2, (V.ptr b1183 0 0)), (0, (slv E_Token.z E_Token.ag (List.length l1256) o1257)), (0, (V.int .i64 y1259)), (0, (V.ptr b1333 0 0)), (42, (V.bool y1387))] 41)) (by kernel_rfl) ?_
      rcases Bool.eq_false_or_eq_true y1387 with h1389 | h1389
      · rw [ite_t h1389] at h; refine Run.condT (by rw [← h1389]; kernel_rfl) ?_
        refine Run.seq ?_
        refine Run.rgn ?_
        refine RunO.tk 2 (by kernel_rfl) ?_
        obtain ⟨y1390, h1391, h⟩ := bind_some h
        refine RunO.c1 (by kernel_rfl) (by kernel_rfl) (c26 h1391 _) ?_
        refine RunO.tk 4 (by kernel_rfl) ?_
        refine RunO.alloc hp (by kernel_rfl) ?_
        intro b1392 H hp
        have hp : HP H ((some (b1392, 0), [(V.int .u8 (0 : Int)), (V.int .i64 (0 : Int)), (V.int .i64 (0 : Int))]) :: (some (b1333, 0), [(V.int .u8 (0 : Int)), (V.int .i64 y1259), (V.int .i64 (0 : Int))]) :: (some (b1183, 0), [(V.int .i64 (0 : Int)), (V.int .i64 (0 : Int))]) :: (o1257, List.flatMap E_Token.c l1256 ++ q1258) :: L) := hp
        refine RunO.st hp (by kernel_rfl) 0 (off := 0) (v := (E_Token.e y1390.1)) (cs' := [(V.int .u8 y1390.1.fKind), (V.int .i64 y1390.1.fAt), (V.int .i64 y1390.1.fEnd)]) rfl (by kernel_rfl) (by kernel_rfl) (by kernel_rfl) ?_
        intro H hp
        refine RunO.tk 2 (by kernel_rfl) ?_
        refine RunO.done (e' := (mkE [(0, (ES.e x0)), (2, (V.ptr b1183 0 0)), (0, (slv E_Token.z E_Token.ag (List.length l1256) o1257)), (1, (V.ptr b1333 0 0)), (0, (V.ptr b1392 0 0)), (0, (V.int .i64 y1390.2.1)), (0, (V.bool y1390.2.2))] 81)) (by kernel_rfl) ?_
        refine Run.seq ?_
        refine Run.seq ?_
        refine Run.rgn ?_
        refine RunO.tk 2 (by kernel_rfl) ?_
        refine RunO.done (e' := (mkE [(0, (ES.e x0)), (2, (V.ptr b1183 0 0)), (0, (slv E_Token.z E_Token.ag (List.length l1256) o1257)), (1, (V.ptr b1333 0 0)), (0, (V.ptr b1392 0 0)), (0, (V.int .i64 y1390.2.1)), (49, (V.bool (!y1390.2.2)))] 32)) (by kernel_rfl) ?_
        rcases Bool.eq_false_or_eq_true (!y1390.2.2) with h1394 | h1394
        · rw [ite_t h1394] at h; refine Run.condT (by rw [← h1394]; kernel_rfl) ?_
          refine Run.seq ?_
          refine Run.rgn ?_
          refine RunO.tk 3 (by kernel_rfl) ?_
          refine RunO.st hp (by kernel_rfl) 2 (off := 0) (v := (V.ag [(V.int .i64 (120 : Int)), (V.int .i64 y1390.2.1)])) (cs' := [(V.int .i64 (120 : Int)), (V.int .i64 y1390.2.1)]) rfl (by kernel_rfl) (by kernel_rfl) (by kernel_rfl) ?_
          intro H hp
          refine RunO.done (e' := (mkE [(2, V.nils), (0, (V.ptr b1183 0 0))] 87)) (by kernel_rfl) ?_
          refine Run.ret ?_
          have h := Option.some.inj h; subst h
          show RR12 L _ _ _
          have hw := resW_cells (env := (mkE [(2, V.nils), (0, (V.ptr b1183 0 0))] 87)) (H := H) (ds := [none, some (some 2)]) (res := [2, 3]) (vs := [V.nils, (V.ag [(V.int .i64 (120 : Int)), (V.int .i64 y1390.2.1)])]) (omapc (by kernel_rfl) (omapc (Eq.trans (b := ldV _ (V.ptr b1183 0 0) (some 2)) (by kernel_rfl) (hp.ld 2 rfl (by kernel_rfl))) omapn))
          have hp := hp.non
          have hp := hp.del 4
          have hp := hp.del 3
          have hp := hp.del 2
          have hp := hp.del 1
          exact ⟨(V.tup [V.nils, (V.ag [(V.int .i64 (120 : Int)), (V.int .i64 y1390.2.1)])]), (hw), _, _, (by kernel_rfl), hp⟩
        · rw [ite_f h1394] at h; refine Run.condF (by rw [← h1394]; kernel_rfl) ?_
          refine Run.skip ?_
          refine Run.clrE (ts := [2, 8, 9, 57, 58, 59, 60]) (b := (.rgn i12r34)) (Q := (thn T (.clr [2, 5, 7, 8, 9, 10, 23, 24, 25, 26, 27, 28, 29, 30, 31, 32, 33, 34, 35, 36, 37, 38, 39, 40, 41, 42, 43, 44, 45, 46, 47, 48, 49, 50, 51, 52, 53, 54, 55, 56, 57, 58, 59, 60, 61, 62, 63, 64, 65, 66, 67, 68, 69, 70, 71, 72, 73] i12n54) (blk 1 (stp [2, 6, 7, 8, 9, 10, 17, 18, 19, 20, 21, 22, 23, 24, 25, 26, 27, 28, 29, 30, 31, 32, 33, 34, 35, 36, 37, 38, 39, 40, 41, 42, 43, 44, 45, 46, 47, 48, 49, 50, 51, 52, 53, 54, 55, 56, 57, 58, 59, 60, 61, 62, 63, 64, 65, 66, 67, 68, 69, 70, 71, 72, 73, 74, 75, 76, 77, 78, 79, 80, 81] (I12_1 x0 b1183 L) (RR12 L) (J12_1 x0 b1183 L) t)))) (e' := (mkE [(0, (ES.e x0)), (2, (V.ptr b1183 0 0)), (0, (slv E_Token.z E_Token.ag (List.length l1256) o1257)), (1, (V.ptr b1333 0 0)), (0, (V.ptr b1392 0 0))] 83)) (by kernel_rfl) ?_
          refine Run.rgn ?_
          refine RunO.p1 (by kernel_rfl) rfl (by kernel_rfl) (hp.ld 0 (off := 0) (n := (some 3)) (v := (E_Token.e y1390.1)) rfl (by kernel_rfl)) ?_
          refine RunO.st hp (by kernel_rfl) 1 (off := 0) (v := (E_Token.e y1390.1)) (cs' := [(V.int .u8 y1390.1.fKind), (V.int .i64 y1390.1.fAt), (V.int .i64 y1390.1.fEnd)]) rfl (by kernel_rfl) (by kernel_rfl) (by kernel_rfl) ?_
          intro H hp
          refine RunO.done (e' := (mkE [(0, (ES.e x0)), (2, (V.ptr b1183 0 0)), (0, (slv E_Token.z E_Token.ag (List.length l1256) o1257)), (1, (V.ptr b1333 0 0))] 84)) (by kernel_rfl) ?_
          have hp := hp.pick 1 rfl
          have hp := hp.pick 3 rfl
          have hp := hp.pick 3 rfl
          have hp := hp.del 3
          exact w12_j1 h hp
      · rw [ite_f h1389] at h; refine Run.condF (by rw [← h1389]; kernel_rfl) ?_
        refine Run.seq ?_
        refine Run.rgn ?_
        refine RunO.tk 2 (by kernel_rfl) ?_
        obtain ⟨y1395, h1396, h⟩ := bind_some h
        refine RunO.c1 (by kernel_rfl) (by kernel_rfl) (c27 h1396 _) ?_
        refine RunO.tk 1 (by kernel_rfl) ?_
        refine RunO.done (e' := (mkE [(0, (ES.e x0)), (2, (V.ptr b1183 0 0)), (0, (slv E_Token.z E_Token.ag (List.length l1256) o1257)), (0, (V.int .i64 y1259)), (0, (V.ptr b1333 0 0)), (3, (V.int .i64 y1395))] 80)) (by kernel_rfl) ?_
        refine Run.seq ?_
        refine Run.seq ?_
        refine Run.rgn ?_
        refine RunO.tk 2 (by kernel_rfl) ?_
        refine RunO.done (e' := (mkE [(0, (ES.e x0)), (2, (V.ptr b1183 0 0)), (0, (slv E_Token.z E_Token.ag (List.length l1256) o1257)), (0, (V.int .i64 y1259)), (0, (V.ptr b1333 0 0)), (3, (V.int .i64 y1395)), (55, (V.bool (y1395 == (0 : Int))))] 24)) (by kernel_rfl) ?_
        rcases Bool.eq_false_or_eq_true (y1395 == (0 : Int)) with h1398 | h1398
        · rw [ite_t h1398] at h; refine Run.condT (by rw [← h1398]; kernel_rfl) ?_
          refine Run.seq ?_
          refine Run.rgn ?_
          refine RunO.tk 3 (by kernel_rfl) ?_
          refine RunO.st hp (by kernel_rfl) 1 (off := 0) (v := (V.ag [(V.int .i64 (120 : Int)), (V.int .i64 y1259)])) (cs' := [(V.int .i64 (120 : Int)), (V.int .i64 y1259)]) rfl (by kernel_rfl) (by kernel_rfl) (by kernel_rfl) ?_
          intro H hp
          refine RunO.done (e' := (mkE [(2, V.nils), (0, (V.ptr b1183 0 0))] 87)) (by kernel_rfl) ?_
          refine Run.ret ?_
          have h := Option.some.inj h; subst h
          show RR12 L _ _ _
          have hw := resW_cells (env := (mkE [(2, V.nils), (0, (V.ptr b1183 0 0))] 87)) (H := H) (ds := [none, some (some 2)]) (res := [2, 3]) (vs := [V.nils, (V.ag [(V.int .i64 (120 : Int)), (V.int .i64 y1259)])]) (omapc (by kernel_rfl) (omapc (Eq.trans (b := ldV _ (V.ptr b1183 0 0) (some 2)) (by kernel_rfl) (hp.ld 1 rfl (by kernel_rfl))) omapn))
          have hp := hp.non
          have hp := hp.del 3
          have hp := hp.del 2
          have hp := hp.del 1
          exact ⟨(V.tup [V.nils, (V.ag [(V.int .i64 (120 : Int)), (V.int .i64 y1259)])]), (hw), _, _, (by kernel_rfl), hp⟩
        · rw [ite_f h1398] at h; refine Run.condF (by rw [← h1398]; kernel_rfl) ?_
          refine Run.skip ?_
          refine Run.clrE (ts := [2, 65, 66, 67, 68]) (b := i12n45) (Q := (thn T (.clr [2, 5, 7, 8, 9, 10, 23, 24, 25, 26, 27, 28, 29, 30, 31, 32, 33, 34, 35, 36, 37, 38, 39, 40, 41, 42, 43, 44, 45, 46, 47, 48, 49, 50, 51, 52, 53, 54, 55, 56, 57, 58, 59, 60, 61, 62, 63, 64, 65, 66, 67, 68, 69, 70, 71, 72, 73] i12n54) (blk 1 (stp [2, 6, 7, 8, 9, 10, 17, 18, 19, 20, 21, 22, 23, 24, 25, 26, 27, 28, 29, 30, 31, 32, 33, 34, 35, 36, 37, 38, 39, 40, 41, 42, 43, 44, 45, 46, 47, 48, 49, 50, 51, 52, 53, 54, 55, 56, 57, 58, 59, 60, 61, 62, 63, 64, 65, 66, 67, 68, 69, 70, 71, 72, 73, 74, 75, 76, 77, 78, 79, 80, 81] (I12_1 x0 b1183 L) (RR12 L) (J12_1 x0 b1183 L) t)))) (e' := (mkE [(0, (ES.e x0)), (2, (V.ptr b1183 0 0)), (0, (slv E_Token.z E_Token.ag (List.length l1256) o1257)), (0, (V.int .i64 y1259)), (0, (V.ptr b1333 0 0)), (3, (V.int .i64 y1395))] 80)) (by kernel_rfl) ?_
          refine Run.seq ?_
          refine Run.rgn ?_
          refine RunO.tk 1 (by kernel_rfl) ?_
          refine RunO.st hp (by kernel_rfl) 0 (off := 0) (v := (V.int .u8 (6 : Int))) (cs' := [(V.int .u8 (6 : Int)), (V.int .i64 y1259), (V.int .i64 (0 : Int))]) rfl (by kernel_rfl) (by kernel_rfl) (by kernel_rfl) ?_
          intro H hp
          refine RunO.done (e' := (mkE [(0, (ES.e x0)), (2, (V.ptr b1183 0 0)), (0, (slv E_Token.z E_Token.ag (List.length l1256) o1257)), (0, (V.int .i64 y1259)), (0, (V.ptr b1333 0 0)), (3, (V.int .i64 y1395))] 80)) (by kernel_rfl) ?_
          refine Run.rgn ?_
          refine RunO.tk 4 (by kernel_rfl) ?_
          refine RunO.st hp (by kernel_rfl) 0 (off := 2) (v := (V.int .i64 (IntKind.i64.wrap (y1259 + y1395)))) (cs' := [(V.int .u8 (6 : Int)), (V.int .i64 y1259), (V.int .i64 (IntKind.i64.wrap (y1259 + y1395)))]) rfl (by kernel_rfl) (by kernel_rfl) (by kernel_rfl) ?_
          intro H hp
          refine RunO.done (e' := (mkE [(0, (ES.e x0)), (2, (V.ptr b1183 0 0)), (0, (slv E_Token.z E_Token.ag (List.length l1256) o1257)), (1, (V.ptr b1333 0 0))] 84)) (by kernel_rfl) ?_
          have hp := hp.pick 0 rfl
          have hp := hp.pick 2 rfl
          have hp := hp.pick 2 rfl
          exact w12_j1 h hp
  · rw [ite_f h1332] at h; refine Run.condF (by rw [← h1332]; kernel_rfl) ?_
    refine Run.exit ?_
    have h := Option.some.inj h; subst h
    show J12_1 x0 b1183 L _ _ _ _
    exact ⟨rfl, o1257, q1258, (by kernel_rfl), hp⟩

def F12 (x0 : (List UInt8)) : Option ((List T_Token) × T_Fault) :=
  if (decide (((List.length x0 : Nat) : Int) > (65536 : Int))) then
    some ([], (⟨(3 : Int), (0 : Int)⟩ : T_Fault))
  else
    (F22 x0 (0 : Int)).bind fun y1186 =>
    (iter (fun s : ((List T_Token) × Int) => F12_1_b x0 s.1 s.2) FUEL ([], y1186)).bind fun o => match o with
    | .ret r => some r
    | .go (l1328) =>
      (more 24 l1328 ([(⟨(1 : Int), ((List.length x0 : Nat) : Int), ((List.length x0 : Nat) : Int)⟩ : T_Token)] : List T_Token)).bind fun y1400 =>
      some (y1400, (⟨(0 : Int), (0 : Int)⟩ : T_Fault))

theorem w12 {x0 : (List UInt8)} {r : ((List T_Token) × T_Fault)} (h : F12 x0 = some r) {H : Heap} {L : List Ob} (hp : HP H L) : Fn T 12 [(ES.e x0)] H (Q12 L r) := by
  refine Fn.enterE t12 (e0 := (mkE [(0, (ES.e x0))] 90)) (by kernel_rfl) ?_
  show Run T (.fin [none, some (some 2)] (.clr [] i12n67)) _ _ (finE (some [none, some (some 2)]) [2, 3] (Q12 L r))
  refine Run.finb ?_
  refine Run.clrE (ts := []) (b := i12n67) (e' := (mkE [(0, (ES.e x0))] 90)) (by kernel_rfl) ?_
  unfold F12 at h
  refine Run.seq ?_
  refine Run.rgn ?_
  refine RunO.tk 1 (by kernel_rfl) ?_
  refine RunO.alloc hp (by kernel_rfl) ?_
  intro b1183 H hp
  have hp : HP H ((some (b1183, 0), [(V.int .i64 (0 : Int)), (V.int .i64 (0 : Int))]) :: L) := hp
  refine RunO.done (e' := (mkE [(0, (ES.e x0)), (2, (V.ptr b1183 0 0))] 87)) (by kernel_rfl) ?_
  refine Run.seq ?_
  refine Run.seq ?_
  refine Run.rgn ?_
  refine RunO.tk 3 (by kernel_rfl) ?_
  refine RunO.done (e' := (mkE [(0, (ES.e x0)), (2, (V.ptr b1183 0 0)), (9, (V.bool (decide (((List.length x0 : Nat) : Int) > (65536 : Int)))))] 77)) (by kernel_rfl) ?_
  rcases Bool.eq_false_or_eq_true (decide (((List.length x0 : Nat) : Int) > (65536 : Int))) with h1185 | h1185
  · rw [ite_t h1185] at h; refine Run.condT (by rw [← h1185]; kernel_rfl) ?_
    refine Run.seq ?_
    refine Run.rgn ?_
    refine RunO.tk 2 (by kernel_rfl) ?_
    refine RunO.st hp (by kernel_rfl) 0 (off := 0) (v := (V.ag [(V.int .i64 (3 : Int)), (V.int .i64 (0 : Int))])) (cs' := [(V.int .i64 (3 : Int)), (V.int .i64 (0 : Int))]) rfl (by kernel_rfl) (by kernel_rfl) (by kernel_rfl) ?_
    intro H hp
    refine RunO.done (e' := (mkE [(2, V.nils), (0, (V.ptr b1183 0 0))] 87)) (by kernel_rfl) ?_
    refine Run.ret ?_
    have h := Option.some.inj h; subst h
    have hw := resW_cells (env := (mkE [(2, V.nils), (0, (V.ptr b1183 0 0))] 87)) (H := H) (ds := [none, some (some 2)]) (res := [2, 3]) (vs := [V.nils, (V.ag [(V.int .i64 (3 : Int)), (V.int .i64 (0 : Int))])]) (omapc (by kernel_rfl) (omapc (Eq.trans (b := ldV _ (V.ptr b1183 0 0) (some 2)) (by kernel_rfl) (hp.ld 0 rfl (by kernel_rfl))) omapn))
    have hp := hp.non
    have hp := hp.del 1
    exact ⟨(V.tup [V.nils, (V.ag [(V.int .i64 (3 : Int)), (V.int .i64 (0 : Int))])]), (hw), _, _, (by kernel_rfl), hp⟩
  · rw [ite_f h1185] at h; refine Run.condF (by rw [← h1185]; kernel_rfl) ?_
    refine Run.skip ?_
    refine Run.clrE (ts := [2, 11, 12, 13, 14]) (b := i12n65) (Q := (finE (some [none, some (some 2)]) [2, 3] (Q12 L r))) (e' := (mkE [(0, (ES.e x0)), (2, (V.ptr b1183 0 0))] 87)) (by kernel_rfl) ?_
    refine Run.seq ?_
    refine Run.rgn ?_
    refine RunO.tk 1 (by kernel_rfl) ?_
    refine RunO.done (e' := (mkE [(0, (ES.e x0)), (2, (V.ptr b1183 0 0)), (0, V.nils)] 86)) (by kernel_rfl) ?_
    refine Run.seq ?_
    refine Run.rgn ?_
    refine RunO.tk 1 (by kernel_rfl) ?_
    obtain ⟨y1186, h1187, h⟩ := bind_some h
    refine RunO.c1 (by kernel_rfl) (by kernel_rfl) (c22 h1187 _) ?_
    refine RunO.tk 1 (by kernel_rfl) ?_
    refine RunO.done (e' := (mkE [(0, (ES.e x0)), (2, (V.ptr b1183 0 0)), (0, V.nils), (0, (V.int .i64 y1186))] 85)) (by kernel_rfl) ?_
    refine Run.seq ?_
    refine Run.block ?_
    obtain ⟨o, h1399, h⟩ := bind_some h
    have hp := hp.non
    have hp := hp.pick 0 rfl
    have hp := hp.pick 1 rfl
    refine (Run.iter (I := I12_1 x0 b1183 L) (RR := RR12 L) (J := J12_1 x0 b1183 L) (fun s e h' t hI hf => ?_) FUEL h1399 (by exact ⟨none, [], (by kernel_rfl), hp⟩)).mono ?_
    · obtain ⟨_, _, rfl, hp⟩ := hI; exact w12_1_b hf hp
    · rintro X e' H hq
      cases o with
      | ret r => cases X <;> first | exact hq.elim | (cases h; exact hq)
      | go l1328 => 
        cases X with | nrm => exact hq.elim | ret => exact hq.elim | ext i => ?_
        obtain ⟨rfl, o1329, q1330, he, hp⟩ := hq
        dsimp only at h
        refine Run.clrE (ts := [2, 5, 6, 7, 8, 9, 10, 17, 18, 19, 20, 21, 22, 23, 24, 25, 26, 27, 28, 29, 30, 31, 32, 33, 34, 35, 36, 37, 38, 39, 40, 41, 42, 43, 44, 45, 46, 47, 48, 49, 50, 51, 52, 53, 54, 55, 56, 57, 58, 59, 60, 61, 62, 63, 64, 65, 66, 67, 68, 69, 70, 71, 72, 73, 74, 75, 76, 77, 78, 79, 80, 81]) (b := i12n62) (Q := (finE (some [none, some (some 2)]) [2, 3] (Q12 L r))) he ?_
        refine Run.seq ?_
        refine Run.rgn ?_
        refine RunO.tk 7 (by kernel_rfl) ?_
        obtain ⟨y1400, h1401, h⟩ := bind_some h
        refine RunO.app1 E_Token hp (by kernel_rfl) 1 (o := o1329) (l := l1328) (rest := q1330) (m := ([(⟨(1 : Int), ((List.length x0 : Nat) : Int), ((List.length x0 : Nat) : Int)⟩ : T_Token)] : List T_Token)) rfl (by kernel_rfl) (by kernel_rfl) (E_Token.new_fz _ ([(⟨(1 : Int), ((List.length x0 : Nat) : Int), ((List.length x0 : Nat) : Int)⟩ : T_Token)] : List T_Token)) (by kernel_rfl) (by kernel_rfl) h1401 ?_
        intro o1402 H hp
        have hp : HP H ((some (b1183, 0), [(V.int .i64 (0 : Int)), (V.int .i64 (0 : Int))]) :: (o1402, List.flatMap E_Token.c y1400 ++ []) :: L) := hp
        refine RunO.tk 2 (by kernel_rfl) ?_
        refine RunO.st hp (by kernel_rfl) 0 (off := 0) (v := (V.ag [(V.int .i64 (0 : Int)), (V.int .i64 (0 : Int))])) (cs' := [(V.int .i64 (0 : Int)), (V.int .i64 (0 : Int))]) rfl (by kernel_rfl) (by kernel_rfl) (by kernel_rfl) ?_
        intro H hp
        refine RunO.done (e' := (mkE [(2, (slv E_Token.z E_Token.ag (List.length y1400) o1402)), (0, (V.ptr b1183 0 0))] 87)) (by kernel_rfl) ?_
        refine Run.ret ?_
        have h := Option.some.inj h; subst h
        have hw := resW_cells (env := (mkE [(2, (slv E_Token.z E_Token.ag (List.length y1400) o1402)), (0, (V.ptr b1183 0 0))] 87)) (H := H) (ds := [none, some (some 2)]) (res := [2, 3]) (vs := [(slv E_Token.z E_Token.ag (List.length y1400) o1402), (V.ag [(V.int .i64 (0 : Int)), (V.int .i64 (0 : Int))])]) (omapc (by kernel_rfl) (omapc (Eq.trans (b := ldV _ (V.ptr b1183 0 0) (some 2)) (by kernel_rfl) (hp.ld 0 rfl (by kernel_rfl))) omapn))
        have hp := hp.del 0
        exact ⟨(V.tup [(slv E_Token.z E_Token.ag (List.length y1400) o1402), (V.ag [(V.int .i64 (0 : Int)), (V.int .i64 (0 : Int))])]), (hw), _, _, (by kernel_rfl), hp⟩

theorem c12 {x0 : (List UInt8)} {r : ((List T_Token) × T_Fault)} (h : F12 x0 = some r) (s : Bool) : Fn T 12 [(ES.e x0)] [] (fun v hh => deep s hh deepN v = some (.tup [(EL E_Token).e r.1, E_Fault.e r.2])) := by
  refine (w12 h HP.nil).mono ?_
  rintro v hh ⟨o0, q0, rfl, hp⟩
  exact congrArg (Option.map V.tup) (omapc (own_deep E_Token hp 0 rfl s (.inr rfl) 35) (omapc (E_Fault.hd s hh 37 _ (.inr rfl)) omapn))

/- smithy/smithylaw02.TokenJoined -/
abbrev Q7 (L : List Ob) (r : Bool) : V → Heap → Prop := fun v h => v = EB.e r ∧ HP h (L)
abbrev RR7 (L : List Ob) (r : Bool) : List V → Heap → Prop := fun e h => endR none [4] (Q7 L r) e h

abbrev I7_1 (x0 : (List UInt8)) (y1576 : ((List T_Token) × T_Fault)) (y1582 : (List UInt8)) (L : List Ob) : ((List Int) × Int) → List V → Heap → Prop := fun s e h => ∃ o1598 : Option (Nat × Nat), ∃ q1599 : List V, e = (mkE [(0, (ES.e x0)), (4, (V.fz (List.map E_Token.e y1576.1))), (1, (ES.e y1582)), (0, (slv (EI .u8).z (EI .u8).ag (List.length s.1) o1598)), (0, (V.int .i64 s.2))] 105) ∧ HP h ((o1598, List.flatMap (EI .u8).c s.1 ++ q1599) :: L)

abbrev J7_1 (x0 : (List UInt8)) (y1576 : ((List T_Token) × T_Fault)) (y1582 : (List UInt8)) (L : List Ob) : ((List Int)) → Nat → List V → Heap → Prop := fun a i e h => i = 0 ∧ ∃ o1616 : Option (Nat × Nat), ∃ q1617 : List V, clrEnv [7, 9, 30, 31, 32, 33, 34, 35, 36, 37, 38, 39, 40, 41, 42, 43, 44, 45, 46, 47, 48, 49, 50, 51, 52] e = (mkE [(0, (ES.e x0)), (4, (V.fz (List.map E_Token.e y1576.1))), (2, (slv (EI .u8).z (EI .u8).ag (List.length a) o1616))] 106) ∧ HP h ((o1616, List.flatMap (EI .u8).c a ++ q1617) :: L)

def F7_1_b (x0 : (List UInt8)) (y1576 : ((List T_Token) × T_Fault)) (y1582 : (List UInt8)) (l1597 : (List Int)) (y1600 : Int) : Option (Stp ((List Int) × Int) Bool ((List Int))) :=
  if (decide (y1600 < ((List.length y1576.1 : Nat) : Int))) then
    (idx y1576.1 y1600).bind fun y1620 =>
    (idx y1576.1 y1600).bind fun y1622 =>
    (part x0 y1620.fAt y1622.fEnd).bind fun y1624 =>
    (more 1 l1597 (List.map (fun c : UInt8 => (c.toNat : Int)) y1624)).bind fun y1626 =>
    (more 1 y1626 (List.map (fun c : UInt8 => (c.toNat : Int)) y1582)).bind fun y1629 =>
    some (.next (y1629, (IntKind.i64.wrap (y1600 + (1 : Int)))))
  else
    some (.go (l1597))

theorem w7_1_b {x0 : (List UInt8)} {y1576 : ((List T_Token) × T_Fault)} {y1582 : (List UInt8)} {l1597 : (List Int)} {y1600 : Int} {t : (Stp ((List Int) × Int) Bool ((List Int)))} (h : F7_1_b x0 y1576 y1582 l1597 y1600 = some t) {o1598 : Option (Nat × Nat)} {q1599 : List V} {H : Heap} {L : List Ob} (hp : HP H ((o1598, List.flatMap (EI .u8).c l1597 ++ q1599) :: L)) :
    Run T i7n33 (mkE [(0, (ES.e x0)), (4, (V.fz (List.map E_Token.e y1576.1))), (1, (ES.e y1582)), (0, (slv (EI .u8).z (EI .u8).ag (List.length l1597) o1598)), (0, (V.int .i64 y1600))] 105) H (stp [30, 31, 32, 33, 34, 35, 36, 37, 38, 39, 40, 41, 42, 43, 44, 45, 46, 47, 48, 49, 50, 51, 52] (I7_1 x0 y1576 y1582 L) (RR7 L) (J7_1 x0 y1576 y1582 L) t) := by
  unfold F7_1_b at h
  refine Run.seq ?_
  refine Run.seq ?_
  refine Run.rgn ?_
  refine RunO.tk 2 (by kernel_rfl) ?_
  refine RunO.p1 (by kernel_rfl) rfl (by kernel_rfl) (len_fz E_Token y1576.1) ?_
  refine RunO.tk 1 (by kernel_rfl) ?_
  refine RunO.done (e' := (mkE [(0, (ES.e x0)), (4, (V.fz (List.map E_Token.e y1576.1))), (1, (ES.e y1582)), (0, (slv (EI .u8).z (EI .u8).ag (List.length l1597) o1598)), (0, (V.int .i64 y1600)), (23, (V.bool (decide (y1600 < ((List.length y1576.1 : Nat) : Int)))))] 81)) (by kernel_rfl) ?_
  rcases Bool.eq_false_or_eq_true (decide (y1600 < ((List.length y1576.1 : Nat) : Int))) with h1619 | h1619
  · rw [ite_t h1619] at h; refine Run.condT (by rw [← h1619]; kernel_rfl) ?_
    refine Run.skip ?_
    refine Run.clrE (ts := [30, 31, 32, 33]) (b := i7n32) (Q := (stp [30, 31, 32, 33, 34, 35, 36, 37, 38, 39, 40, 41, 42, 43, 44, 45, 46, 47, 48, 49, 50, 51, 52] (I7_1 x0 y1576 y1582 L) (RR7 L) (J7_1 x0 y1576 y1582 L) t)) (e' := (mkE [(0, (ES.e x0)), (4, (V.fz (List.map E_Token.e y1576.1))), (1, (ES.e y1582)), (0, (slv (EI .u8).z (EI .u8).ag (List.length l1597) o1598)), (0, (V.int .i64 y1600))] 105)) (by kernel_rfl) ?_
    refine Run.seq ?_
    refine Run.block ?_
    refine Run.seq ?_
    refine Run.rgn ?_
    refine RunO.tk 4 (by kernel_rfl) ?_
    obtain ⟨y1620, h1621, h⟩ := bind_some h
    refine RunO.p1 (by kernel_rfl) rfl (by kernel_rfl) (idx_fz E_Token .i64 h1621) ?_
    refine RunO.tk 4 (by kernel_rfl) ?_
    obtain ⟨y1622, h1623, h⟩ := bind_some h
    refine RunO.p1 (by kernel_rfl) rfl (by kernel_rfl) (idx_fz E_Token .i64 h1623) ?_
    refine RunO.tk 2 (by kernel_rfl) ?_
    obtain ⟨y1624, h1625, h⟩ := bind_some h
    refine RunO.p1 (by kernel_rfl) rfl (by kernel_rfl) (slc_str .i64 .i64 h1625) ?_
    obtain ⟨y1626, h1627, h⟩ := bind_some h
    refine RunO.app1 (EI .u8) hp (by kernel_rfl) 0 (o := o1598) (l := l1597) (rest := q1599) (m := (List.map (fun c : UInt8 => (c.toNat : Int)) y1624)) rfl (by kernel_rfl) (by kernel_rfl) (new_str _ y1624) (by kernel_rfl) (by kernel_rfl) h1627 ?_
    intro o1628 H hp
    have hp : HP H ((o1628, List.flatMap (EI .u8).c y1626 ++ []) :: L) := hp
    refine RunO.tk 1 (by kernel_rfl) ?_
    refine RunO.done (e' := (mkE [(0, (ES.e x0)), (4, (V.fz (List.map E_Token.e y1576.1))), (1, (ES.e y1582)), (0, (slv (EI .u8).z (EI .u8).ag (List.length y1626) o1628)), (0, (V.int .i64 y1600))] 105)) (by kernel_rfl) ?_
    refine Run.rgn ?_
    refine RunO.tk 2 (by kernel_rfl) ?_
    obtain ⟨y1629, h1630, h⟩ := bind_some h
    refine RunO.app1 (EI .u8) hp (by kernel_rfl) 0 (o := o1628) (l := y1626) (rest := []) (m := (List.map (fun c : UInt8 => (c.toNat : Int)) y1582)) rfl (by kernel_rfl) (by kernel_rfl) (new_str _ y1582) (by kernel_rfl) (by kernel_rfl) h1630 ?_
    intro o1631 H hp
    have hp : HP H ((o1631, List.flatMap (EI .u8).c y1629 ++ []) :: L) := hp
    refine RunO.tk 1 (by kernel_rfl) ?_
    refine RunO.nil ?_
    refine Run.clrE (ts := [36, 37, 38, 39, 40, 41, 42, 43, 44, 45, 46, 47, 48, 49, 50, 51, 52]) (b := (.rgn i7r31)) (Q := (stp [30, 31, 32, 33, 34, 35, 36, 37, 38, 39, 40, 41, 42, 43, 44, 45, 46, 47, 48, 49, 50, 51, 52] (I7_1 x0 y1576 y1582 L) (RR7 L) (J7_1 x0 y1576 y1582 L) t)) (e' := (mkE [(0, (ES.e x0)), (4, (V.fz (List.map E_Token.e y1576.1))), (1, (ES.e y1582)), (0, (slv (EI .u8).z (EI .u8).ag (List.length y1629) o1631)), (0, (V.int .i64 y1600))] 105)) (by kernel_rfl) ?_
    refine Run.rgn ?_
    refine RunO.tk 3 (by kernel_rfl) ?_
    refine RunO.nil ?_
    have h := Option.some.inj h; subst h
    show I7_1 x0 y1576 y1582 L _ _ _
    exact ⟨o1631, [], (by kernel_rfl), hp⟩
  · rw [ite_f h1619] at h; refine Run.condF (by rw [← h1619]; kernel_rfl) ?_
    refine Run.exit ?_
    have h := Option.some.inj h; subst h
    show J7_1 x0 y1576 y1582 L _ _ _ _
    exact ⟨rfl, o1598, q1599, (by kernel_rfl), hp⟩

abbrev I7_2 (x0 : (List UInt8)) (y1576 : ((List T_Token) × T_Fault)) (l1615 : (List Int)) (y1635 : ((List T_Token) × T_Fault)) (o1616 : Option (Nat × Nat)) (q1617 : List V) (L : List Ob) : (Int) → List V → Heap → Prop := fun s e h => e = (mkE [(0, (ES.e x0)), (4, (V.fz (List.map E_Token.e y1576.1))), (2, (slv (EI .u8).z (EI .u8).ag (List.length l1615) o1616)), (1, (V.fz (List.map E_Token.e y1635.1))), (1, (V.int .i64 s))] 102) ∧ HP h ((o1616, List.flatMap (EI .u8).c l1615 ++ q1617) :: L)

abbrev J7_2 (x0 : (List UInt8)) (y1576 : ((List T_Token) × T_Fault)) (l1615 : (List Int)) (y1635 : ((List T_Token) × T_Fault)) (o1616 : Option (Nat × Nat)) (q1617 : List V) (L : List Ob) : Unit → Nat → List V → Heap → Prop := fun a i e h => i = 2 ∧ clrEnv [0, 4, 5, 8, 10, 12, 69, 70, 71, 72, 73, 74, 75, 76, 77, 78, 79, 80, 81, 82, 83, 84, 85, 86, 87, 88, 89, 90, 91, 92, 93, 94, 95, 96, 97, 98, 99, 100, 101, 102, 103, 104, 105, 106, 107, 108, 109, 110, 111, 112, 113, 114] e = (mkE [] 115) ∧ HP h (L)

def F7_2_b (x0 : (List UInt8)) (y1576 : ((List T_Token) × T_Fault)) (l1615 : (List Int)) (y1635 : ((List T_Token) × T_Fault)) (y1694 : Int) : Option (Stp (Int) Bool Unit) :=
  if (decide ((IntKind.i64.wrap (y1694 + (1 : Int))) < ((List.length y1576.1 : Nat) : Int))) then
    (idx y1635.1 y1694).bind fun y1774 =>
    (idx y1576.1 y1694).bind fun y1776 =>
    if (y1774.fKind != y1776.fKind) then
      some (.ret false)
    else
      (idx y1635.1 y1694).bind fun y1779 =>
      (idx y1635.1 y1694).bind fun y1781 =>
      (part l1615 y1779.fAt y1781.fEnd).bind fun y1783 =>
      (bstr y1783).bind fun y1790 =>
      (idx y1576.1 y1694).bind fun y1792 =>
      (idx y1576.1 y1694).bind fun y1794 =>
      (part x0 y1792.fAt y1794.fEnd).bind fun y1796 =>
      if (!(y1790 == y1796)) then
        some (.ret false)
      else
        some (.next ((IntKind.i64.wrap (y1694 + (1 : Int)))))
  else
    some (.go ())

theorem w7_2_b {x0 : (List UInt8)} {y1576 : ((List T_Token) × T_Fault)} {l1615 : (List Int)} {y1635 : ((List T_Token) × T_Fault)} {y1694 : Int} {t : (Stp (Int) Bool Unit)} (h : F7_2_b x0 y1576 l1615 y1635 y1694 = some t) {o1616 : Option (Nat × Nat)} {q1617 : List V} {H : Heap} {L : List Ob} (hp : HP H ((o1616, List.flatMap (EI .u8).c l1615 ++ q1617) :: L)) :
    Run T i7n55 (mkE [(0, (ES.e x0)), (4, (V.fz (List.map E_Token.e y1576.1))), (2, (slv (EI .u8).z (EI .u8).ag (List.length l1615) o1616)), (1, (V.fz (List.map E_Token.e y1635.1))), (1, (V.int .i64 y1694))] 102) H (stp [4, 69, 70, 71, 72, 73, 74, 75, 76, 77, 78, 79, 80, 81, 82, 83, 84, 85, 86, 87, 88, 89, 90, 91, 92, 93, 94, 95, 96, 97, 98, 99, 100, 101, 102, 103, 104, 105, 106, 107, 108, 109, 110, 111, 112, 113, 114] (I7_2 x0 y1576 l1615 y1635 o1616 q1617 L) (RR7 L) (J7_2 x0 y1576 l1615 y1635 o1616 q1617 L) t) := by
  unfold F7_2_b at h
  refine Run.seq ?_
  refine Run.seq ?_
  refine Run.rgn ?_
  refine RunO.tk 3 (by kernel_rfl) ?_
  refine RunO.p1 (by kernel_rfl) rfl (by kernel_rfl) (len_fz E_Token y1576.1) ?_
  refine RunO.tk 1 (by kernel_rfl) ?_
  refine RunO.done (e' := (mkE [(0, (ES.e x0)), (4, (V.fz (List.map E_Token.e y1576.1))), (2, (slv (EI .u8).z (EI .u8).ag (List.length l1615) o1616)), (1, (V.fz (List.map E_Token.e y1635.1))), (1, (V.int .i64 y1694)), (60, (V.bool (decide ((IntKind.i64.wrap (y1694 + (1 : Int))) < ((List.length y1576.1 : Nat) : Int)))))] 41)) (by kernel_rfl) ?_
  rcases Bool.eq_false_or_eq_true (decide ((IntKind.i64.wrap (y1694 + (1 : Int))) < ((List.length y1576.1 : Nat) : Int))) with h1748 | h1748
  · rw [ite_t h1748] at h; refine Run.condT (by rw [← h1748]; kernel_rfl) ?_
    refine Run.skip ?_
    refine Run.clrE (ts := [69, 70, 71, 72, 73]) (b := i7n54) (Q := (stp [4, 69, 70, 71, 72, 73, 74, 75, 76, 77, 78, 79, 80, 81, 82, 83, 84, 85, 86, 87, 88, 89, 90, 91, 92, 93, 94, 95, 96, 97, 98, 99, 100, 101, 102, 103, 104, 105, 106, 107, 108, 109, 110, 111, 112, 113, 114] (I7_2 x0 y1576 l1615 y1635 o1616 q1617 L) (RR7 L) (J7_2 x0 y1576 l1615 y1635 o1616 q1617 L) t)) (e' := (mkE [(0, (ES.e x0)), (4, (V.fz (List.map E_Token.e y1576.1))), (2, (slv (EI .u8).z (EI .u8).ag (List.length l1615) o1616)), (1, (V.fz (List.map E_Token.e y1635.1))), (1, (V.int .i64 y1694))] 102)) (by kernel_rfl) ?_
    refine Run.seq ?_
    refine Run.block ?_
    refine Run.seq ?_
    refine Run.rgn ?_
    refine RunO.tk 2 (by kernel_rfl) ?_
    obtain ⟨y1774, h1775, h⟩ := bind_some h
    refine RunO.p1 (by kernel_rfl) rfl (by kernel_rfl) (idx_fz E_Token .i64 h1775) ?_
    refine RunO.tk 4 (by kernel_rfl) ?_
    obtain ⟨y1776, h1777, h⟩ := bind_some h
    refine RunO.p1 (by kernel_rfl) rfl (by kernel_rfl) (idx_fz E_Token .i64 h1777) ?_
    refine RunO.tk 2 (by kernel_rfl) ?_
    rcases Bool.eq_false_or_eq_true (y1774.fKind != y1776.fKind) with h1778 | h1778
    · rw [ite_t h1778] at h; refine RunO.p1 (by kernel_rfl) rfl (by kernel_rfl) (bool_of h1778) ?_
      refine RunO.tk 28 (by kernel_rfl) ?_
      refine RunO.done (e' := (mkE [(0, (ES.e x0)), (4, (V.fz (List.map E_Token.e y1576.1))), (2, (slv (EI .u8).z (EI .u8).ag (List.length l1615) o1616)), (1, (V.fz (List.map E_Token.e y1635.1))), (1, (V.int .i64 y1694)), (101, (V.bool true))] 0)) (by kernel_rfl) ?_
      refine Run.condT (by kernel_rfl) ?_
      refine Run.seq ?_
      refine Run.rgn ?_
      refine RunO.tk 1 (by kernel_rfl) ?_
      refine RunO.done (e' := (mkE [(4, (V.bool false))] 110)) (by kernel_rfl) ?_
      refine Run.ret ?_
      have h := Option.some.inj h; subst h
      show RR7 L _ _ _
      have hp := hp.del 0
      exact ⟨(V.bool false), (by kernel_rfl), (by kernel_rfl), hp⟩
    · rw [ite_f h1778] at h; refine RunO.p1 (by kernel_rfl) rfl (by kernel_rfl) (bool_of h1778) ?_
      refine RunO.tk 4 (by kernel_rfl) ?_
      obtain ⟨y1779, h1780, h⟩ := bind_some h
      refine RunO.p1 (by kernel_rfl) rfl (by kernel_rfl) (idx_fz E_Token .i64 h1780) ?_
      refine RunO.tk 4 (by kernel_rfl) ?_
      obtain ⟨y1781, h1782, h⟩ := bind_some h
      refine RunO.p1 (by kernel_rfl) rfl (by kernel_rfl) (idx_fz E_Token .i64 h1782) ?_
      refine RunO.tk 2 (by kernel_rfl) ?_
      obtain ⟨y1783, h1784, h⟩ := bind_some h
      obtain ⟨v1789, h1785, h1786, h1787, h1788⟩ := own_part (EI .u8) hp 0 rfl h1784 .i64 .i64
      refine RunO.p1 (by kernel_rfl) rfl (by kernel_rfl) (h1785) ?_
      obtain ⟨y1790, h1791, h⟩ := bind_some h
      refine RunO.p1 (by kernel_rfl) rfl (by kernel_rfl) (b2s_cells h1788 h1787 h1791) ?_
      refine RunO.tk 3 (by kernel_rfl) ?_
      obtain ⟨y1792, h1793, h⟩ := bind_some h
      refine RunO.p1 (by kernel_rfl) rfl (by kernel_rfl) (idx_fz E_Token .i64 h1793) ?_
      refine RunO.tk 4 (by kernel_rfl) ?_
      obtain ⟨y1794, h1795, h⟩ := bind_some h
      refine RunO.p1 (by kernel_rfl) rfl (by kernel_rfl) (idx_fz E_Token .i64 h1795) ?_
      refine RunO.tk 2 (by kernel_rfl) ?_
      obtain ⟨y1796, h1797, h⟩ := bind_some h
      refine RunO.p1 (by kernel_rfl) rfl (by kernel_rfl) (slc_str .i64 .i64 h1797) ?_
      refine RunO.p1 (by kernel_rfl) rfl (by kernel_rfl) (str_neq y1790 y1796) ?_
      refine RunO.tk 1 (by kernel_rfl) ?_
      refine RunO.done (e' := (mkE [(0, (ES.e x0)), (4, (V.fz (List.map E_Token.e y1576.1))), (2, (slv (EI .u8).z (EI .u8).ag (List.length l1615) o1616)), (1, (V.fz (List.map E_Token.e y1635.1))), (1, (V.int .i64 y1694)), (101, (V.bool (!(y1790 == y1796))))] 0)) (by kernel_rfl) ?_
      rcases Bool.eq_false_or_eq_true (!(y1790 == y1796)) with h1798 | h1798
      · rw [ite_t h1798] at h; refine Run.condT (by rw [← h1798]; kernel_rfl) ?_
        refine Run.seq ?_
        refine Run.rgn ?_
        refine RunO.tk 1 (by kernel_rfl) ?_
        refine RunO.done (e' := (mkE [(4, (V.bool false))] 110)) (by kernel_rfl) ?_
        refine Run.ret ?_
        have h := Option.some.inj h; subst h
        show RR7 L _ _ _
        have hp := hp.del 0
        exact ⟨(V.bool false), (by kernel_rfl), (by kernel_rfl), hp⟩
      · rw [ite_f h1798] at h; refine Run.condF (by rw [← h1798]; kernel_rfl) ?_
        refine Run.skip ?_
        refine Run.clrE (ts := [4, 76, 77, 78, 79, 80, 81, 82, 83, 84, 85, 86, 87, 88, 89, 90, 91, 92, 93, 94, 95, 96, 97, 98, 99, 100, 101, 102, 103, 104, 105, 106, 107, 108, 109, 110, 111, 112, 113, 114]) (b := (.rgn i7r53)) (Q := (stp [4, 69, 70, 71, 72, 73, 74, 75, 76, 77, 78, 79, 80, 81, 82, 83, 84, 85, 86, 87, 88, 89, 90, 91, 92, 93, 94, 95, 96, 97, 98, 99, 100, 101, 102, 103, 104, 105, 106, 107, 108, 109, 110, 111, 112, 113, 114] (I7_2 x0 y1576 l1615 y1635 o1616 q1617 L) (RR7 L) (J7_2 x0 y1576 l1615 y1635 o1616 q1617 L) t)) (e' := (mkE [(0, (ES.e x0)), (4, (V.fz (List.map E_Token.e y1576.1))), (2, (slv (EI .u8).z (EI .u8).ag (List.length l1615) o1616)), (1, (V.fz (List.map E_Token.e y1635.1))), (1, (V.int .i64 y1694))] 102)) (by kernel_rfl) ?_
        refine Run.rgn ?_
        refine RunO.tk 3 (by kernel_rfl) ?_
        refine RunO.nil ?_
        have h := Option.some.inj h; subst h
        show I7_2 x0 y1576 l1615 y1635 o1616 q1617 L _ _ _
        exact ⟨(by kernel_rfl), hp⟩
  · rw [ite_f h1748] at h; refine Run.condF (by rw [← h1748]; kernel_rfl) ?_
    refine Run.exit ?_
    have h := Option.some.inj h; subst h
    have hp := hp.del 0
    show J7_2 x0 y1576 l1615 y1635 o1616 q1617 L () _ _ _
    exact ⟨rfl, (by kernel_rfl), hp⟩

def F7_j1 (x0 : (List UInt8)) (y1576 : ((List T_Token) × T_Fault)) (y1582 : (List UInt8)) : Option Bool :=
  (iter (fun s : ((List Int) × Int) => F7_1_b x0 y1576 y1582 s.1 s.2) FUEL ([], (0 : Int))).bind fun o => match o with
  | .ret r => some r
  | .go (l1615) =>
    (bstr l1615).bind fun y1633 =>
    (F11 y1633).bind fun y1635 =>
    if (y1635.2.fErr != (0 : Int)) then
      some false
    else
      if (((List.length y1635.1 : Nat) : Int) != ((List.length y1576.1 : Nat) : Int)) then
        some false
      else
        (iter (fun s : (Int) => F7_2_b x0 y1576 l1615 y1635 s) FUEL ((0 : Int))).bind fun o => match o with
        | .ret r => some r
        | .go () =>
          some true

theorem w7_j1 {x0 : (List UInt8)} {y1576 : ((List T_Token) × T_Fault)} {y1582 : (List UInt8)} {r : Bool} (h : F7_j1 x0 y1576 y1582 = some r) {H : Heap} {L : List Ob} (hp : HP H (L)) :
    Run T i7n65 (mkE [(0, (ES.e x0)), (4, (V.fz (List.map E_Token.e y1576.1))), (1, (ES.e y1582))] 107) H (finE none [4] (Q7 L r)) := by
  unfold F7_j1 at h
  refine Run.seq ?_
  refine Run.rgn ?_
  refine RunO.tk 1 (by kernel_rfl) ?_
  refine RunO.done (e' := (mkE [(0, (ES.e x0)), (4, (V.fz (List.map E_Token.e y1576.1))), (1, (ES.e y1582)), (0, V.nils)] 106)) (by kernel_rfl) ?_
  refine Run.seq ?_
  refine Run.seq ?_
  refine Run.rgn ?_
  refine RunO.tk 1 (by kernel_rfl) ?_
  refine RunO.done (e' := (mkE [(0, (ES.e x0)), (4, (V.fz (List.map E_Token.e y1576.1))), (1, (ES.e y1582)), (0, V.nils), (0, (V.int .i64 (0 : Int)))] 105)) (by kernel_rfl) ?_
  refine Run.block ?_
  obtain ⟨o, h1632, h⟩ := bind_some h
  have hp := hp.non
  refine (Run.iter (I := I7_1 x0 y1576 y1582 L) (RR := RR7 L) (J := J7_1 x0 y1576 y1582 L) (fun s e h' t hI hf => ?_) FUEL h1632 (by exact ⟨none, [], (by kernel_rfl), hp⟩)).mono ?_
  · obtain ⟨_, _, rfl, hp⟩ := hI; exact w7_1_b hf hp
  · rintro X e' H hq
    cases o with
    | ret r => cases X <;> first | exact hq.elim | (cases h; exact hq)
    | go l1615 => 
      cases X with | nrm => exact hq.elim | ret => exact hq.elim | ext i => ?_
      obtain ⟨rfl, o1616, q1617, he, hp⟩ := hq
      dsimp only at h
      refine Run.clrE (ts := [7, 9, 30, 31, 32, 33, 34, 35, 36, 37, 38, 39, 40, 41, 42, 43, 44, 45, 46, 47, 48, 49, 50, 51, 52]) (b := i7n63) (Q := (finE none [4] (Q7 L r))) he ?_
      refine Run.seq ?_
      refine Run.rgn ?_
      refine RunO.tk 1 (by kernel_rfl) ?_
      obtain ⟨y1633, h1634, h⟩ := bind_some h
      refine RunO.p1 (by kernel_rfl) rfl (by kernel_rfl) (b2s_own hp 0 rfl h1634) ?_
      obtain ⟨y1635, h1636, h⟩ := bind_some h
      refine RunO.c2 (by kernel_rfl) (by kernel_rfl) (by kernel_rfl) (c11 h1636) ?_
      refine RunO.tk 3 (by kernel_rfl) ?_
      refine RunO.alloc hp (by kernel_rfl) ?_
      intro b1637 H hp
      have hp : HP H ((some (b1637, 0), [(V.int .i64 (0 : Int)), (V.int .i64 (0 : Int))]) :: (o1616, List.flatMap (EI .u8).c l1615 ++ q1617) :: L) := hp
      refine RunO.tk 1 (by kernel_rfl) ?_
      refine RunO.st hp (by kernel_rfl) 0 (off := 0) (v := (E_Fault.e y1635.2)) (cs' := [(V.int .i64 y1635.2.fErr), (V.int .i64 y1635.2.fAt)]) rfl (by kernel_rfl) (by kernel_rfl) (by kernel_rfl) ?_
      intro H hp
      refine RunO.done (e' := (mkE [(0, (ES.e x0)), (4, (V.fz (List.map E_Token.e y1576.1))), (2, (slv (EI .u8).z (EI .u8).ag (List.length l1615) o1616)), (1, (V.fz (List.map E_Token.e y1635.1))), (0, (V.ptr b1637 0 0))] 103)) (by kernel_rfl) ?_
      refine Run.seq ?_
      refine Run.seq ?_
      refine Run.rgn ?_
      refine RunO.tk 1 (by kernel_rfl) ?_
      refine RunO.p1 (by kernel_rfl) rfl (by kernel_rfl) (hp.ld 0 (off := 0) (n := none) (v := (V.int .i64 y1635.2.fErr)) rfl (by kernel_rfl)) ?_
      rcases Bool.eq_false_or_eq_true (y1635.2.fErr != (0 : Int)) with h1640 | h1640
      · rw [ite_t h1640] at h; refine RunO.p1 (by kernel_rfl) rfl (by kernel_rfl) (bool_of h1640) ?_
        refine RunO.tk 7 (by kernel_rfl) ?_
        refine RunO.done (e' := (mkE [(0, (ES.e x0)), (4, (V.fz (List.map E_Token.e y1576.1))), (2, (slv (EI .u8).z (EI .u8).ag (List.length l1615) o1616)), (1, (V.fz (List.map E_Token.e y1635.1))), (57, (V.bool true))] 46)) (by kernel_rfl) ?_
        refine Run.condT (by kernel_rfl) ?_
        refine Run.seq ?_
        refine Run.rgn ?_
        refine RunO.tk 1 (by kernel_rfl) ?_
        refine RunO.done (e' := (mkE [(4, (V.bool false))] 110)) (by kernel_rfl) ?_
        refine Run.ret ?_
        have h := Option.some.inj h; subst h
        have hp := hp.del 1
        have hp := hp.del 0
        exact ⟨(V.bool false), (by kernel_rfl), (by kernel_rfl), hp⟩
      · rw [ite_f h1640] at h; refine RunO.p1 (by kernel_rfl) rfl (by kernel_rfl) (bool_of h1640) ?_
        refine RunO.tk 2 (by kernel_rfl) ?_
        refine RunO.p1 (by kernel_rfl) rfl (by kernel_rfl) (len_fz E_Token y1635.1) ?_
        refine RunO.tk 1 (by kernel_rfl) ?_
        refine RunO.p1 (by kernel_rfl) rfl (by kernel_rfl) (len_fz E_Token y1576.1) ?_
        refine RunO.tk 2 (by kernel_rfl) ?_
        refine RunO.done (e' := (mkE [(0, (ES.e x0)), (4, (V.fz (List.map E_Token.e y1576.1))), (2, (slv (EI .u8).z (EI .u8).ag (List.length l1615) o1616)), (1, (V.fz (List.map E_Token.e y1635.1))), (57, (V.bool (((List.length y1635.1 : Nat) : Int) != ((List.length y1576.1 : Nat) : Int))))] 46)) (by kernel_rfl) ?_
        rcases Bool.eq_false_or_eq_true (((List.length y1635.1 : Nat) : Int) != ((List.length y1576.1 : Nat) : Int)) with h1641 | h1641
        · rw [ite_t h1641] at h; refine Run.condT (by rw [← h1641]; kernel_rfl) ?_
          refine Run.seq ?_
          refine Run.rgn ?_
          refine RunO.tk 1 (by kernel_rfl) ?_
          refine RunO.done (e' := (mkE [(4, (V.bool false))] 110)) (by kernel_rfl) ?_
          refine Run.ret ?_
          have h := Option.some.inj h; subst h
          have hp := hp.del 1
          have hp := hp.del 0
          exact ⟨(V.bool false), (by kernel_rfl), (by kernel_rfl), hp⟩
        · rw [ite_f h1641] at h; refine Run.condF (by rw [← h1641]; kernel_rfl) ?_
          refine Run.skip ?_
          refine Run.clrE (ts := [4, 11, 59, 60, 61, 62, 63, 64, 65, 66, 67, 68]) (b := i7n61) (Q := (finE none [4] (Q7 L r))) (e' := (mkE [(0, (ES.e x0)), (4, (V.fz (List.map E_Token.e y1576.1))), (2, (slv (EI .u8).z (EI .u8).ag (List.length l1615) o1616)), (1, (V.fz (List.map E_Token.e y1635.1)))] 104)) (by kernel_rfl) ?_
          refine Run.seq ?_
          refine Run.seq ?_
          refine Run.rgn ?_
          refine RunO.tk 1 (by kernel_rfl) ?_
          refine RunO.done (e' := (mkE [(0, (ES.e x0)), (4, (V.fz (List.map E_Token.e y1576.1))), (2, (slv (EI .u8).z (EI .u8).ag (List.length l1615) o1616)), (1, (V.fz (List.map E_Token.e y1635.1))), (1, (V.int .i64 (0 : Int)))] 102)) (by kernel_rfl) ?_
          refine Run.block ?_
          obtain ⟨o, h1799, h⟩ := bind_some h
          have hp := hp.del 0
          refine (Run.iter (I := I7_2 x0 y1576 l1615 y1635 o1616 q1617 L) (RR := RR7 L) (J := J7_2 x0 y1576 l1615 y1635 o1616 q1617 L) (fun s e h' t hI hf => ?_) FUEL h1799 (by exact ⟨(by kernel_rfl), hp⟩)).mono ?_
          · obtain ⟨rfl, hp⟩ := hI; exact w7_2_b hf hp
          · rintro X e' H hq
            cases o with
            | ret r => cases X <;> first | exact hq.elim | (cases h; exact hq)
            | go a => 
              cases X with | nrm => exact hq.elim | ret => exact hq.elim | ext i => ?_
              obtain ⟨rfl, he, hp⟩ := hq
              dsimp only at h
              refine Run.clrE (ts := [0, 4, 5, 8, 10, 12, 69, 70, 71, 72, 73, 74, 75, 76, 77, 78, 79, 80, 81, 82, 83, 84, 85, 86, 87, 88, 89, 90, 91, 92, 93, 94, 95, 96, 97, 98, 99, 100, 101, 102, 103, 104, 105, 106, 107, 108, 109, 110, 111, 112, 113, 114]) (b := i7n60) (Q := (finE none [4] (Q7 L r))) he ?_
              refine Run.seq ?_
              refine Run.rgn ?_
              refine RunO.tk 1 (by kernel_rfl) ?_
              refine RunO.done (e' := (mkE [(4, (V.bool true))] 110)) (by kernel_rfl) ?_
              refine Run.ret ?_
              have h := Option.some.inj h; subst h
              exact ⟨(V.bool true), (by kernel_rfl), (by kernel_rfl), hp⟩

def F7 (x0 : (List UInt8)) (x1 : Bool) : Option Bool :=
  (F10).bind fun y1571 =>
  if (!y1571) then
    some false
  else
    if (decide (((List.length x0 : Nat) : Int) > (8000 : Int))) then
      some true
    else
      (F11 x0).bind fun y1576 =>
      if (y1576.2.fErr != (0 : Int)) then
        some (((List.length y1576.1 : Nat) : Int) == (0 : Int))
      else
        if x1 then
          F7_j1 x0 y1576 (([32, 47, 47, 43, 49, 10] : List UInt8))
        else
          F7_j1 x0 y1576 (([32] : List UInt8))

theorem w7 {x0 : (List UInt8)} {x1 : Bool} {r : Bool} (h : F7 x0 x1 = some r) {H : Heap} {L : List Ob} (hp : HP H L) : Fn T 7 [(ES.e x0), (V.bool x1)] H (Q7 L r) := by
  refine Fn.enterE t7 (e0 := (mkE [(0, (ES.e x0)), (0, (V.bool x1))] 113)) (by kernel_rfl) ?_
  show Run T (.clr [] i7n72) _ _ (finE none [4] (Q7 L r))
  refine Run.clrE (ts := []) (b := i7n72) (e' := (mkE [(0, (ES.e x0)), (0, (V.bool x1))] 113)) (by kernel_rfl) ?_
  unfold F7 at h
  refine Run.seq ?_
  refine Run.rgn ?_
  refine RunO.tk 1 (by kernel_rfl) ?_
  refine RunO.done (e' := (mkE [(0, (ES.e x0)), (0, (V.bool x1))] 113)) (by kernel_rfl) ?_
  refine Run.seq ?_
  refine Run.seq ?_
  refine Run.rgn ?_
  obtain ⟨y1571, h1572, h⟩ := bind_some h
  refine RunO.c1 (by kernel_rfl) (by kernel_rfl) (c10 h1572 _) ?_
  refine RunO.tk 1 (by kernel_rfl) ?_
  refine RunO.done (e' := (mkE [(0, (ES.e x0)), (0, (V.bool x1)), (12, (V.bool (!y1571)))] 100)) (by kernel_rfl) ?_
  rcases Bool.eq_false_or_eq_true (!y1571) with h1573 | h1573
  · rw [ite_t h1573] at h; refine Run.condT (by rw [← h1573]; kernel_rfl) ?_
    refine Run.seq ?_
    refine Run.rgn ?_
    refine RunO.tk 1 (by kernel_rfl) ?_
    refine RunO.done (e' := (mkE [(4, (V.bool false))] 110)) (by kernel_rfl) ?_
    refine Run.ret ?_
    have h := Option.some.inj h; subst h
    exact ⟨(V.bool false), (by kernel_rfl), (by kernel_rfl), hp⟩
  · rw [ite_f h1573] at h; refine Run.condF (by rw [← h1573]; kernel_rfl) ?_
    refine Run.skip ?_
    refine Run.clrE (ts := [4, 13, 14]) (b := i7n70) (Q := (finE none [4] (Q7 L r))) (e' := (mkE [(0, (ES.e x0)), (0, (V.bool x1))] 113)) (by kernel_rfl) ?_
    refine Run.seq ?_
    refine Run.seq ?_
    refine Run.rgn ?_
    refine RunO.tk 3 (by kernel_rfl) ?_
    refine RunO.done (e' := (mkE [(0, (ES.e x0)), (0, (V.bool x1)), (15, (V.bool (decide (((List.length x0 : Nat) : Int) > (8000 : Int)))))] 97)) (by kernel_rfl) ?_
    rcases Bool.eq_false_or_eq_true (decide (((List.length x0 : Nat) : Int) > (8000 : Int))) with h1575 | h1575
    · rw [ite_t h1575] at h; refine Run.condT (by rw [← h1575]; kernel_rfl) ?_
      refine Run.seq ?_
      refine Run.rgn ?_
      refine RunO.tk 1 (by kernel_rfl) ?_
      refine RunO.done (e' := (mkE [(4, (V.bool true))] 110)) (by kernel_rfl) ?_
      refine Run.ret ?_
      have h := Option.some.inj h; subst h
      exact ⟨(V.bool true), (by kernel_rfl), (by kernel_rfl), hp⟩
    · rw [ite_f h1575] at h; refine Run.condF (by rw [← h1575]; kernel_rfl) ?_
      refine Run.skip ?_
      refine Run.clrE (ts := [4, 15, 16, 17]) (b := i7n69) (Q := (finE none [4] (Q7 L r))) (e' := (mkE [(0, (ES.e x0)), (0, (V.bool x1))] 113)) (by kernel_rfl) ?_
      refine Run.seq ?_
      refine Run.rgn ?_
      refine RunO.tk 1 (by kernel_rfl) ?_
      obtain ⟨y1576, h1577, h⟩ := bind_some h
      refine RunO.c2 (by kernel_rfl) (by kernel_rfl) (by kernel_rfl) (c11 h1577) ?_
      refine RunO.tk 3 (by kernel_rfl) ?_
      refine RunO.alloc hp (by kernel_rfl) ?_
      intro b1578 H hp
      have hp : HP H ((some (b1578, 0), [(V.int .i64 (0 : Int)), (V.int .i64 (0 : Int))]) :: L) := hp
      refine RunO.tk 1 (by kernel_rfl) ?_
      refine RunO.st hp (by kernel_rfl) 0 (off := 0) (v := (E_Fault.e y1576.2)) (cs' := [(V.int .i64 y1576.2.fErr), (V.int .i64 y1576.2.fAt)]) rfl (by kernel_rfl) (by kernel_rfl) (by kernel_rfl) ?_
      intro H hp
      refine RunO.done (e' := (mkE [(0, (ES.e x0)), (0, (V.bool x1)), (3, (V.fz (List.map E_Token.e y1576.1))), (0, (V.ptr b1578 0 0))] 108)) (by kernel_rfl) ?_
      refine Run.seq ?_
      refine Run.seq ?_
      refine Run.rgn ?_
      refine RunO.tk 1 (by kernel_rfl) ?_
      refine RunO.p1 (by kernel_rfl) rfl (by kernel_rfl) (hp.ld 0 (off := 0) (n := none) (v := (V.int .i64 y1576.2.fErr)) rfl (by kernel_rfl)) ?_
      refine RunO.tk 1 (by kernel_rfl) ?_
      refine RunO.done (e' := (mkE [(0, (ES.e x0)), (0, (V.bool x1)), (3, (V.fz (List.map E_Token.e y1576.1))), (19, (V.bool (y1576.2.fErr != (0 : Int))))] 89)) (by kernel_rfl) ?_
      rcases Bool.eq_false_or_eq_true (y1576.2.fErr != (0 : Int)) with h1580 | h1580
      · rw [ite_t h1580] at h; refine Run.condT (by rw [← h1580]; kernel_rfl) ?_
        refine Run.seq ?_
        refine Run.rgn ?_
        refine RunO.tk 1 (by kernel_rfl) ?_
        refine RunO.p1 (by kernel_rfl) rfl (by kernel_rfl) (len_fz E_Token y1576.1) ?_
        refine RunO.tk 2 (by kernel_rfl) ?_
        refine RunO.done (e' := (mkE [(4, (V.bool (((List.length y1576.1 : Nat) : Int) == (0 : Int))))] 110)) (by kernel_rfl) ?_
        refine Run.ret ?_
        have h := Option.some.inj h; subst h
        have hp := hp.del 0
        exact ⟨(V.bool (((List.length y1576.1 : Nat) : Int) == (0 : Int))), (by kernel_rfl), (by kernel_rfl), hp⟩
      · rw [ite_f h1580] at h; refine Run.condF (by rw [← h1580]; kernel_rfl) ?_
        refine Run.skip ?_
        refine Run.clrE (ts := [4, 6, 23, 24, 25, 26, 27, 28]) (b := i7n67) (Q := (finE none [4] (Q7 L r))) (e' := (mkE [(0, (ES.e x0)), (0, (V.bool x1)), (3, (V.fz (List.map E_Token.e y1576.1)))] 109)) (by kernel_rfl) ?_
        refine Run.seq ?_
        refine Run.rgn ?_
        refine RunO.tk 1 (by kernel_rfl) ?_
        refine RunO.done (e' := (mkE [(0, (ES.e x0)), (0, (V.bool x1)), (3, (V.fz (List.map E_Token.e y1576.1))), (1, (ES.e ([32] : List UInt8)))] 107)) (by kernel_rfl) ?_
        refine Run.seq ?_
        refine Run.seq ?_
        refine Run.rgn ?_
        refine RunO.tk 1 (by kernel_rfl) ?_
        refine RunO.done (e' := (mkE [(0, (ES.e x0)), (4, (V.fz (List.map E_Token.e y1576.1))), (1, (ES.e ([32] : List UInt8))), (21, (V.bool x1))] 85)) (by kernel_rfl) ?_
        rcases Bool.eq_false_or_eq_true x1 with h1800 | h1800
        · rw [ite_t h1800] at h; refine Run.condT (by rw [← h1800]; kernel_rfl) ?_
          refine Run.rgn ?_
          refine RunO.tk 1 (by kernel_rfl) ?_
          refine RunO.done (e' := (mkE [(0, (ES.e x0)), (4, (V.fz (List.map E_Token.e y1576.1))), (1, (ES.e ([32, 47, 47, 43, 49, 10] : List UInt8)))] 107)) (by kernel_rfl) ?_
          have hp := hp.del 0
          exact w7_j1 h hp
        · rw [ite_f h1800] at h; refine Run.condF (by rw [← h1800]; kernel_rfl) ?_
          refine Run.skip ?_
          refine Run.clrE (ts := [1, 29]) (b := i7n65) (Q := (finE none [4] (Q7 L r))) (e' := (mkE [(0, (ES.e x0)), (4, (V.fz (List.map E_Token.e y1576.1))), (1, (ES.e ([32] : List UInt8)))] 107)) (by kernel_rfl) ?_
          have hp := hp.del 0
          exact w7_j1 h hp

theorem c7 {x0 : (List UInt8)} {x1 : Bool} {r : Bool} (h : F7 x0 x1 = some r) (s : Bool) : Fn T 7 [(ES.e x0), (V.bool x1)] [] (fun v hh => deep s hh deepN v = some (EB.e r)) := by
  refine (w7 h HP.nil).mono ?_
  rintro v hh ⟨rfl, hp⟩
  exact EB.hd s hh 38 _ (.inr rfl)

/- smithy/smithylaw02.TokenLong -/
abbrev Q5 (L : List Ob) (r : Bool) : V → Heap → Prop := fun v h => v = EB.e r ∧ HP h (L)
abbrev RR5 (L : List Ob) (r : Bool) : List V → Heap → Prop := fun e h => endR none [4] (Q5 L r) e h

abbrev I5_1 (x1 : Int) (y1876 : Int) (L : List Ob) : ((List Int) × Int) → List V → Heap → Prop := fun s e h => ∃ o1892 : Option (Nat × Nat), ∃ q1893 : List V, e = (mkE [(1, (V.int .u8 x1)), (3, (V.int .i64 y1876)), (0, (slv (EI .u8).z (EI .u8).ag (List.length s.1) o1892)), (0, (V.int .i64 s.2))] 45) ∧ HP h ((o1892, List.flatMap (EI .u8).c s.1 ++ q1893) :: L)

abbrev J5_1 (x1 : Int) (y1876 : Int) (L : List Ob) : ((List Int)) → Nat → List V → Heap → Prop := fun a i e h => i = 0 ∧ ∃ o1907 : Option (Nat × Nat), ∃ q1908 : List V, clrEnv [1, 5, 7, 22, 23, 24, 25, 26, 27, 28, 29, 30] e = (mkE [(6, (slv (EI .u8).z (EI .u8).ag (List.length a) o1907))] 46) ∧ HP h ((o1907, List.flatMap (EI .u8).c a ++ q1908) :: L)

def F5_1_b (x1 : Int) (y1876 : Int) (l1891 : (List Int)) (y1894 : Int) : Option (Stp ((List Int) × Int) Bool ((List Int))) :=
  if (decide (y1894 < y1876)) then
    (idx l1891 y1894).bind fun y1911 =>
    (upd l1891 y1894 x1).bind fun y1917 =>
    some (.next (y1917, (IntKind.i64.wrap (y1894 + (1 : Int)))))
  else
    some (.go (l1891))

theorem w5_1_b {x1 : Int} {y1876 : Int} {l1891 : (List Int)} {y1894 : Int} {t : (Stp ((List Int) × Int) Bool ((List Int)))} (h : F5_1_b x1 y1876 l1891 y1894 = some t) {o1892 : Option (Nat × Nat)} {q1893 : List V} {H : Heap} {L : List Ob} (hp : HP H ((o1892, List.flatMap (EI .u8).c l1891 ++ q1893) :: L)) :
    Run T i5n24 (mkE [(1, (V.int .u8 x1)), (3, (V.int .i64 y1876)), (0, (slv (EI .u8).z (EI .u8).ag (List.length l1891) o1892)), (0, (V.int .i64 y1894))] 45) H (stp [22, 23, 24, 25, 26, 27, 28, 29, 30] (I5_1 x1 y1876 L) (RR5 L) (J5_1 x1 y1876 L) t) := by
  unfold F5_1_b at h
  refine Run.seq ?_
  refine Run.seq ?_
  refine Run.rgn ?_
  refine RunO.tk 3 (by kernel_rfl) ?_
  refine RunO.done (e' := (mkE [(1, (V.int .u8 x1)), (3, (V.int .i64 y1876)), (0, (slv (EI .u8).z (EI .u8).ag (List.length l1891) o1892)), (0, (V.int .i64 y1894)), (16, (V.bool (decide (y1894 < y1876))))] 28)) (by kernel_rfl) ?_
  rcases Bool.eq_false_or_eq_true (decide (y1894 < y1876)) with h1910 | h1910
  · rw [ite_t h1910] at h; refine Run.condT (by rw [← h1910]; kernel_rfl) ?_
    refine Run.skip ?_
    refine Run.clrE (ts := [22, 23, 24]) (b := i5n23) (Q := (stp [22, 23, 24, 25, 26, 27, 28, 29, 30] (I5_1 x1 y1876 L) (RR5 L) (J5_1 x1 y1876 L) t)) (e' := (mkE [(1, (V.int .u8 x1)), (3, (V.int .i64 y1876)), (0, (slv (EI .u8).z (EI .u8).ag (List.length l1891) o1892)), (0, (V.int .i64 y1894))] 45)) (by kernel_rfl) ?_
    refine Run.seq ?_
    refine Run.block ?_
    refine Run.rgn ?_
    refine RunO.tk 3 (by kernel_rfl) ?_
    obtain ⟨y1911, h1912, h⟩ := bind_some h
    obtain ⟨b1913, g1914, h1915, h1916⟩ := own_idx (EI .u8) hp 0 rfl h1912
    subst h1915
    refine RunO.p1 (by kernel_rfl) rfl (by kernel_rfl) (h1916 .i64) ?_
    obtain ⟨y1917, h1918, h⟩ := bind_some h
    refine RunO.st hp (by kernel_rfl) 0 rfl (by kernel_rfl) (by kernel_rfl) (own_st (EI .u8) (a := x1) h1918) ?_
    intro H hp
    have h1919 := upd_len h1918; rw [← h1919]
    refine RunO.nil ?_
    refine Run.clrE (ts := [27, 28, 29, 30]) (b := (.rgn i5r22)) (Q := (stp [22, 23, 24, 25, 26, 27, 28, 29, 30] (I5_1 x1 y1876 L) (RR5 L) (J5_1 x1 y1876 L) t)) (e' := (mkE [(1, (V.int .u8 x1)), (3, (V.int .i64 y1876)), (0, (slv (EI .u8).z (EI .u8).ag (List.length y1917) (some (b1913, g1914)))), (0, (V.int .i64 y1894))] 45)) (by kernel_rfl) ?_
    refine Run.rgn ?_
    refine RunO.tk 3 (by kernel_rfl) ?_
    refine RunO.nil ?_
    have h := Option.some.inj h; subst h
    show I5_1 x1 y1876 L _ _ _
    exact ⟨(some (b1913, g1914)), q1893, (by kernel_rfl), hp⟩
  · rw [ite_f h1910] at h; refine Run.condF (by rw [← h1910]; kernel_rfl) ?_
    refine Run.exit ?_
    have h := Option.some.inj h; subst h
    show J5_1 x1 y1876 L _ _ _ _
    exact ⟨rfl, o1892, q1893, (by kernel_rfl), hp⟩

def F5_j2 (x1 : Int) (y1876 : Int) : Option Bool :=
  (made 1 ((0 : Int) : Int) y1876).bind fun y1877 =>
  (iter (fun s : ((List Int) × Int) => F5_1_b x1 y1876 s.1 s.2) FUEL (y1877, (0 : Int))).bind fun o => match o with
  | .ret r => some r
  | .go (l1906) =>
    (idx l1906 (0 : Int)).bind fun y1921 =>
    (upd l1906 (0 : Int) (97 : Int)).bind fun y1927 =>
    (bstr y1927).bind fun y1930 =>
    (F11 y1930).bind fun y1932 =>
    (bstr y1927).bind fun y1935 =>
    (F12 y1935).bind fun y1937 =>
    if (decide (y1932.2 = y1937.2)) then
      (F13 y1932.1 y1937.1).bind fun y1941 =>
      some y1941
    else
      some false

theorem w5_j2 {x1 : Int} {y1876 : Int} {r : Bool} (h : F5_j2 x1 y1876 = some r) {H : Heap} {L : List Ob} (hp : HP H (L)) :
    Run T i5n37 (mkE [(1, (V.int .u8 x1)), (3, (V.int .i64 y1876))] 47) H (finE none [4] (Q5 L r)) := by
  unfold F5_j2 at h
  refine Run.seq ?_
  refine Run.rgn ?_
  refine RunO.tk 1 (by kernel_rfl) ?_
  obtain ⟨y1877, h1878, h⟩ := bind_some h
  refine RunO.mks1 (EI .u8) hp (by kernel_rfl) (by kernel_rfl) (by kernel_rfl) (by kernel_rfl) (by kernel_rfl) (by kernel_rfl) h1878 ?_
  intro b1879 H hp
  refine RunO.tk 1 (by kernel_rfl) ?_
  refine RunO.done (e' := (mkE [(1, (V.int .u8 x1)), (3, (V.int .i64 y1876)), (0, (slv (EI .u8).z (EI .u8).ag (List.length y1877) (some (b1879, 0))))] 46)) (by kernel_rfl) ?_
  refine Run.seq ?_
  refine Run.seq ?_
  refine Run.rgn ?_
  refine RunO.tk 1 (by kernel_rfl) ?_
  refine RunO.done (e' := (mkE [(1, (V.int .u8 x1)), (3, (V.int .i64 y1876)), (0, (slv (EI .u8).z (EI .u8).ag (List.length y1877) (some (b1879, 0)))), (0, (V.int .i64 (0 : Int)))] 45)) (by kernel_rfl) ?_
  refine Run.block ?_
  obtain ⟨o, h1920, h⟩ := bind_some h
  refine (Run.iter (I := I5_1 x1 y1876 L) (RR := RR5 L) (J := J5_1 x1 y1876 L) (fun s e h' t hI hf => ?_) FUEL h1920 (by exact ⟨(some (b1879, 0)), [], (by kernel_rfl), hp⟩)).mono ?_
  · obtain ⟨_, _, rfl, hp⟩ := hI; exact w5_1_b hf hp
  · rintro X e' H hq
    cases o with
    | ret r => cases X <;> first | exact hq.elim | (cases h; exact hq)
    | go l1906 => 
      cases X with | nrm => exact hq.elim | ret => exact hq.elim | ext i => ?_
      obtain ⟨rfl, o1907, q1908, he, hp⟩ := hq
      dsimp only at h
      refine Run.clrE (ts := [1, 5, 7, 22, 23, 24, 25, 26, 27, 28, 29, 30]) (b := i5n35) (Q := (finE none [4] (Q5 L r))) he ?_
      refine Run.seq ?_
      refine Run.rgn ?_
      refine RunO.tk 1 (by kernel_rfl) ?_
      obtain ⟨y1921, h1922, h⟩ := bind_some h
      obtain ⟨b1923, g1924, h1925, h1926⟩ := own_idx (EI .u8) hp 0 rfl h1922
      subst h1925
      refine RunO.p1 (by kernel_rfl) rfl (by kernel_rfl) (h1926 .i64) ?_
      obtain ⟨y1927, h1928, h⟩ := bind_some h
      refine RunO.st hp (by kernel_rfl) 0 rfl (by kernel_rfl) (by kernel_rfl) (own_st (EI .u8) (a := (97 : Int)) h1928) ?_
      intro H hp
      have h1929 := upd_len h1928; rw [← h1929]
      refine RunO.done (e' := (mkE [(6, (slv (EI .u8).z (EI .u8).ag (List.length y1927) (some (b1923, g1924))))] 46)) (by kernel_rfl) ?_
      refine Run.seq ?_
      refine Run.rgn ?_
      refine RunO.tk 1 (by kernel_rfl) ?_
      obtain ⟨y1930, h1931, h⟩ := bind_some h
      refine RunO.p1 (by kernel_rfl) rfl (by kernel_rfl) (b2s_own hp 0 rfl h1931) ?_
      obtain ⟨y1932, h1933, h⟩ := bind_some h
      refine RunO.c2 (by kernel_rfl) (by kernel_rfl) (by kernel_rfl) (c11 h1933) ?_
      refine RunO.tk 3 (by kernel_rfl) ?_
      refine RunO.alloc hp (by kernel_rfl) ?_
      intro b1934 H hp
      have hp : HP H ((some (b1934, 0), [(V.int .i64 (0 : Int)), (V.int .i64 (0 : Int))]) :: ((some (b1923, g1924)), List.flatMap (EI .u8).c y1927 ++ q1908) :: L) := hp
      refine RunO.tk 1 (by kernel_rfl) ?_
      refine RunO.st hp (by kernel_rfl) 0 (off := 0) (v := (E_Fault.e y1932.2)) (cs' := [(V.int .i64 y1932.2.fErr), (V.int .i64 y1932.2.fAt)]) rfl (by kernel_rfl) (by kernel_rfl) (by kernel_rfl) ?_
      intro H hp
      refine RunO.done (e' := (mkE [(6, (slv (EI .u8).z (EI .u8).ag (List.length y1927) (some (b1923, g1924)))), (1, (V.fz (List.map E_Token.e y1932.1))), (0, (V.ptr b1934 0 0))] 43)) (by kernel_rfl) ?_
      refine Run.seq ?_
      refine Run.rgn ?_
      refine RunO.tk 1 (by kernel_rfl) ?_
      obtain ⟨y1935, h1936, h⟩ := bind_some h
      refine RunO.p1 (by kernel_rfl) rfl (by kernel_rfl) (b2s_own hp 1 rfl h1936) ?_
      obtain ⟨y1937, h1938, h⟩ := bind_some h
      refine RunO.c1 (by kernel_rfl) (by kernel_rfl) (c12 h1938 _) ?_
      refine RunO.tk 3 (by kernel_rfl) ?_
      refine RunO.alloc hp (by kernel_rfl) ?_
      intro b1939 H hp
      have hp : HP H ((some (b1939, 0), [(V.int .i64 (0 : Int)), (V.int .i64 (0 : Int))]) :: (some (b1934, 0), [(V.int .i64 y1932.2.fErr), (V.int .i64 y1932.2.fAt)]) :: ((some (b1923, g1924)), List.flatMap (EI .u8).c y1927 ++ q1908) :: L) := hp
      refine RunO.tk 1 (by kernel_rfl) ?_
      refine RunO.st hp (by kernel_rfl) 0 (off := 0) (v := (E_Fault.e y1937.2)) (cs' := [(V.int .i64 y1937.2.fErr), (V.int .i64 y1937.2.fAt)]) rfl (by kernel_rfl) (by kernel_rfl) (by kernel_rfl) ?_
      intro H hp
      refine RunO.done (e' := (mkE [(8, (V.fz (List.map E_Token.e y1932.1))), (0, (V.ptr b1934 0 0)), (0, (V.fz (List.map E_Token.e y1937.1))), (0, (V.ptr b1939 0 0))] 41)) (by kernel_rfl) ?_
      refine Run.seq ?_
      refine Run.rgn ?_
      refine RunO.p1 (by kernel_rfl) rfl (by kernel_rfl) (hp.ld 1 (off := 0) (n := (some 2)) (v := (E_Fault.e y1932.2)) rfl (by kernel_rfl)) ?_
      refine RunO.p1 (by kernel_rfl) rfl (by kernel_rfl) (hp.ld 0 (off := 0) (n := (some 2)) (v := (E_Fault.e y1937.2)) rfl (by kernel_rfl)) ?_
      rcases Bool.eq_false_or_eq_true (decide (y1932.2 = y1937.2)) with h1940 | h1940
      · rw [ite_t h1940] at h; refine RunO.p1 (by kernel_rfl) rfl (by kernel_rfl) (Eq.trans (eqs_Fault false y1932.2 y1937.2) (bool_of h1940)) ?_
        refine RunO.tk 3 (by kernel_rfl) ?_
        obtain ⟨y1941, h1942, h⟩ := bind_some h
        refine RunO.c1 (by kernel_rfl) (by kernel_rfl) (c13 h1942 _) ?_
        refine RunO.tk 2 (by kernel_rfl) ?_
        refine RunO.done (e' := (mkE [(4, (V.bool y1941))] 48)) (by kernel_rfl) ?_
        refine Run.ret ?_
        have h := Option.some.inj h; subst h
        have hp := hp.del 2
        have hp := hp.del 1
        have hp := hp.del 0
        exact ⟨(V.bool y1941), (by kernel_rfl), (by kernel_rfl), hp⟩
      · rw [ite_f h1940] at h; refine RunO.p1 (by kernel_rfl) rfl (by kernel_rfl) (Eq.trans (eqs_Fault false y1932.2 y1937.2) (bool_of h1940)) ?_
        refine RunO.tk 6 (by kernel_rfl) ?_
        refine RunO.done (e' := (mkE [(4, (V.bool false))] 48)) (by kernel_rfl) ?_
        refine Run.ret ?_
        have h := Option.some.inj h; subst h
        have hp := hp.del 2
        have hp := hp.del 1
        have hp := hp.del 0
        exact ⟨(V.bool false), (by kernel_rfl), (by kernel_rfl), hp⟩

def F5_j1 (x0 : Int) (x1 : Int) (y1874 : Int) : Option Bool :=
  if ((Int.tmod x0 (3 : Int)) == (0 : Int)) then
    F5_j2 x1 ((65537 : Int))
  else
    F5_j2 x1 (y1874)

theorem w5_j1 {x0 : Int} {x1 : Int} {y1874 : Int} {r : Bool} (h : F5_j1 x0 x1 y1874 = some r) {H : Heap} {L : List Ob} (hp : HP H (L)) :
    Run T i5n38 (mkE [(0, (V.int .i64 x0)), (0, (V.int .u8 x1)), (3, (V.int .i64 y1874))] 47) H (finE none [4] (Q5 L r)) := by
  unfold F5_j1 at h
  refine Run.seq ?_
  refine Run.seq ?_
  refine Run.rgn ?_
  refine RunO.tk 3 (by kernel_rfl) ?_
  refine RunO.done (e' := (mkE [(1, (V.int .u8 x1)), (3, (V.int .i64 y1874)), (13, (V.bool ((Int.tmod x0 (3 : Int)) == (0 : Int))))] 33)) (by kernel_rfl) ?_
  rcases Bool.eq_false_or_eq_true ((Int.tmod x0 (3 : Int)) == (0 : Int)) with h1943 | h1943
  · rw [ite_t h1943] at h; refine Run.condT (by rw [← h1943]; kernel_rfl) ?_
    refine Run.rgn ?_
    refine RunO.tk 1 (by kernel_rfl) ?_
    refine RunO.done (e' := (mkE [(1, (V.int .u8 x1)), (3, (V.int .i64 (65537 : Int)))] 47)) (by kernel_rfl) ?_
    exact w5_j2 h hp
  · rw [ite_f h1943] at h; refine Run.condF (by rw [← h1943]; kernel_rfl) ?_
    refine Run.skip ?_
    refine Run.clrE (ts := [0, 17, 18, 19]) (b := i5n37) (Q := (finE none [4] (Q5 L r))) (e' := (mkE [(1, (V.int .u8 x1)), (3, (V.int .i64 y1874))] 47)) (by kernel_rfl) ?_
    exact w5_j2 h hp

def F5 (x0 : Int) (x1 : Int) : Option Bool :=
  (F10).bind fun y1870 =>
  if (!y1870) then
    some false
  else
    if ((Int.tmod x0 (2 : Int)) != (0 : Int)) then
      F5_j1 x0 x1 ((65536 : Int))
    else
      F5_j1 x0 x1 ((65535 : Int))

theorem w5 {x0 : Int} {x1 : Int} {r : Bool} (h : F5 x0 x1 = some r) {H : Heap} {L : List Ob} (hp : HP H L) : Fn T 5 [(V.int .i64 x0), (V.int .u8 x1)] H (Q5 L r) := by
  refine Fn.enterE t5 (e0 := (mkE [(0, (V.int .i64 x0)), (0, (V.int .u8 x1))] 51)) (by kernel_rfl) ?_
  show Run T (.clr [] i5n42) _ _ (finE none [4] (Q5 L r))
  refine Run.clrE (ts := []) (b := i5n42) (e' := (mkE [(0, (V.int .i64 x0)), (0, (V.int .u8 x1))] 51)) (by kernel_rfl) ?_
  unfold F5 at h
  refine Run.seq ?_
  refine Run.rgn ?_
  refine RunO.tk 1 (by kernel_rfl) ?_
  refine RunO.done (e' := (mkE [(0, (V.int .i64 x0)), (0, (V.int .u8 x1))] 51)) (by kernel_rfl) ?_
  refine Run.seq ?_
  refine Run.seq ?_
  refine Run.rgn ?_
  obtain ⟨y1870, h1871, h⟩ := bind_some h
  refine RunO.c1 (by kernel_rfl) (by kernel_rfl) (c10 h1871 _) ?_
  refine RunO.tk 1 (by kernel_rfl) ?_
  refine RunO.done (e' := (mkE [(0, (V.int .i64 x0)), (0, (V.int .u8 x1)), (11, (V.bool (!y1870)))] 39)) (by kernel_rfl) ?_
  rcases Bool.eq_false_or_eq_true (!y1870) with h1872 | h1872
  · rw [ite_t h1872] at h; refine Run.condT (by rw [← h1872]; kernel_rfl) ?_
    refine Run.seq ?_
    refine Run.rgn ?_
    refine RunO.tk 1 (by kernel_rfl) ?_
    refine RunO.done (e' := (mkE [(4, (V.bool false))] 48)) (by kernel_rfl) ?_
    refine Run.ret ?_
    have h := Option.some.inj h; subst h
    exact ⟨(V.bool false), (by kernel_rfl), (by kernel_rfl), hp⟩
  · rw [ite_f h1872] at h; refine Run.condF (by rw [← h1872]; kernel_rfl) ?_
    refine Run.skip ?_
    refine Run.clrE (ts := [4, 12, 13]) (b := i5n40) (Q := (finE none [4] (Q5 L r))) (e' := (mkE [(0, (V.int .i64 x0)), (0, (V.int .u8 x1))] 51)) (by kernel_rfl) ?_
    refine Run.seq ?_
    refine Run.rgn ?_
    refine RunO.tk 1 (by kernel_rfl) ?_
    refine RunO.done (e' := (mkE [(0, (V.int .i64 x0)), (0, (V.int .u8 x1)), (3, (V.int .i64 (65535 : Int)))] 47)) (by kernel_rfl) ?_
    refine Run.seq ?_
    refine Run.seq ?_
    refine Run.rgn ?_
    refine RunO.tk 3 (by kernel_rfl) ?_
    refine RunO.done (e' := (mkE [(0, (V.int .i64 x0)), (0, (V.int .u8 x1)), (3, (V.int .i64 (65535 : Int))), (10, (V.bool ((Int.tmod x0 (2 : Int)) != (0 : Int))))] 36)) (by kernel_rfl) ?_
    rcases Bool.eq_false_or_eq_true ((Int.tmod x0 (2 : Int)) != (0 : Int)) with h1944 | h1944
    · rw [ite_t h1944] at h; refine Run.condT (by rw [← h1944]; kernel_rfl) ?_
      refine Run.rgn ?_
      refine RunO.tk 1 (by kernel_rfl) ?_
      refine RunO.done (e' := (mkE [(0, (V.int .i64 x0)), (0, (V.int .u8 x1)), (3, (V.int .i64 (65536 : Int)))] 47)) (by kernel_rfl) ?_
      exact w5_j1 h hp
    · rw [ite_f h1944] at h; refine Run.condF (by rw [← h1944]; kernel_rfl) ?_
      refine Run.skip ?_
      refine Run.clrE (ts := [14, 15, 16]) (b := i5n38) (Q := (finE none [4] (Q5 L r))) (e' := (mkE [(0, (V.int .i64 x0)), (0, (V.int .u8 x1)), (3, (V.int .i64 (65535 : Int)))] 47)) (by kernel_rfl) ?_
      exact w5_j1 h hp

theorem c5 {x0 : Int} {x1 : Int} {r : Bool} (h : F5 x0 x1 = some r) (s : Bool) : Fn T 5 [(V.int .i64 x0), (V.int .u8 x1)] [] (fun v hh => deep s hh deepN v = some (EB.e r)) := by
  refine (w5 h HP.nil).mono ?_
  rintro v hh ⟨rfl, hp⟩
  exact EB.hd s hh 38 _ (.inr rfl)
end Go.Eng.Tok
