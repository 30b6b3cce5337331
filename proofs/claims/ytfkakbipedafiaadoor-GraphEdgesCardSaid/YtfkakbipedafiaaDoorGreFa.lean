/- Plain functions with the answers of the layer's functions, and the proofs (lines written by a program of this session's; no condition beyond those stated). -/
import Derived.Test.YtfkakbipedafiaaDoorGreIr
import Derived.Test.YtfkakbipedafiaaDoorGraTy
import Derived.Test.YtfkakbipedafiaaDoorEngZ
import Derived.Test.YtfkakbipedafiaaDoorGreS
namespace Go.Eng.Gra
open Go Go.Eng
set_option linter.unusedSectionVars false
set_option linter.unusedVariables false
set_option linter.unusedSimpArgs false
set_option maxRecDepth 20000
/- smithy/graph.headed$1 -/
abbrev Q78 (L : List Ob) (r : Bool) : V → Heap → Prop := fun v h => v = EB.e r ∧ HP h (L)
abbrev RR78 (L : List Ob) (r : Bool) : List V → Heap → Prop := fun e h => endR none [2] (Q78 L r) e h

def F78 (x0 : Int) : Option Bool :=
  if (decide (x0 ≥ (1 : Int))) then
    some (decide (x0 ≤ (5 : Int)))
  else
    some false

theorem w78 {x0 : Int} {r : Bool} (h : F78 x0 = some r) {H : Heap} {L : List Ob} (hp : HP H (L)) : Fn T 78 [(V.int .u8 x0)] H (Q78 L r) := by
  refine Fn.enterE t78 (e0 := (mkE [(0, (V.int .u8 x0))] 8)) (by kernel_rfl) ?_
  show Run T (.clr [] i78n3) _ _ (finE none [2] (Q78 L r))
  refine Rn.k (mkE [(0, (V.int .u8 x0))] 8) ?_
  unfold F78 at h
  refine Rn.g ?_
  refine Ro.t 1 ?_
  refine Ro.d (mkE [(0, (V.int .u8 x0))] 8) ?_
  refine Rn.g ?_
  refine Ro.t 1 ?_
  rcases tf (decide (x0 ≥ (1 : Int))) with h18 | h18
  · rw [ite_t h18] at h; refine Ro.p (bool_of h18) ?_
    refine Ro.t 5 ?_
    refine Ro.d (mkE [(2, (V.bool (decide (x0 ≤ (5 : Int)))))] 6) ?_
    refine Run.ret ?_
    have h := Option.some.inj h; subst h
    exact ⟨(V.bool (decide (x0 ≤ (5 : Int)))), (by kernel_rfl), (by kernel_rfl), hp⟩
  · rw [ite_f h18] at h; refine Ro.p (bool_of h18) ?_
    refine Ro.t 5 ?_
    refine Ro.d (mkE [(2, (V.bool false))] 6) ?_
    refine Run.ret ?_
    have h := Option.some.inj h; subst h
    exact ⟨(V.bool false), (by kernel_rfl), (by kernel_rfl), hp⟩

theorem c78 {x0 : Int} {r : Bool} (h : F78 x0 = some r) (s : Bool) : Fn T 78 [(V.int .u8 x0)] [] (fun v hh => deep s hh deepN v = some (EB.e r)) := by
  refine (w78 h HP.nil).mono ?_
  rintro v hh ⟨rfl, hp⟩
  exact EB.hd s hh 38 _ (.inr rfl)

/- slices.Index[[]int,int] -/
abbrev Q65 (L : List Ob) (r : Int) : V → Heap → Prop := fun v h => v = (EI .i64).e r ∧ HP h (L)
abbrev RR65 (L : List Ob) (r : Int) : List V → Heap → Prop := fun e h => endR none [4] (Q65 L r) e h

abbrev I65_1 (x0 : (List Int)) (x1 : Int) (L : List Ob) : (Int) → List V → Heap → Prop := fun s e h => e = (mkE [(0, (Zl (EI .i64) x0)), (0, (i6 x1)), (5, (i6 (ln x0))), (0, (i6 s))] 10) ∧ HP h (L)

abbrev J65_1 (x0 : (List Int)) (x1 : Int) (L : List Ob) : Unit → Nat → List V → Heap → Prop := fun a i e h => i = 0 ∧ clrEnv [0, 1, 4, 5, 6, 7, 8, 9, 10, 11, 12, 13, 14, 15, 16, 17, 18] e = (mkE [] 19) ∧ HP h (L)

def F65_1_b (x0 : (List Int)) (x1 : Int) (y126 : Int) : Option (Stp (Int) Int Unit) :=
  if (decide (y126 < ((List.length x0 : Nat) : Int))) then
    (idx x0 y126).bind fun y140 =>
    if (x1 == y140) then
      some (.ret y126)
    else
      some (.next ((IntKind.i64.wrap (y126 + (1 : Int)))))
  else
    some (.go ())

theorem w65_1_b {x0 : (List Int)} {x1 : Int} {y126 : Int} {t : (Stp (Int) Int Unit)} (h : F65_1_b x0 x1 y126 = some t) {H : Heap} {L : List Ob} (hp : HP H (L)) :
    Run T i65n15 (mkE [(0, (Zl (EI .i64) x0)), (0, (i6 x1)), (5, (i6 (ln x0))), (0, (i6 y126))] 10) H (stp [4, 5, 9, 10, 11, 12, 13, 14, 15, 16, 17, 18] (I65_1 x0 x1 L) (RR65 L) (J65_1 x0 x1 L) t) := by
  unfold F65_1_b at h
  refine Rn.g ?_
  refine Ro.t 1 ?_
  refine Ro.d (mkE [(0, (Zl (EI .i64) x0)), (0, (i6 x1)), (5, (i6 (ln x0))), (0, (i6 y126)), (0, (V.bool (decide (y126 < (ln x0)))))] 9) ?_
  refine Run.seq ?_
  rcases tf (decide (y126 < (ln x0))) with h136 | h136
  · rw [ite_t h136] at h; refine Rn.t h136 ?_
    refine Run.skip ?_
    refine Rn.c (mkE [(0, (Zl (EI .i64) x0)), (0, (i6 x1)), (5, (i6 (ln x0))), (0, (i6 y126))] 10) ?_
    refine Run.seq ?_
    refine Run.block ?_
    refine Rn.g ?_
    refine Ro.t 2 ?_
    refine Ro.d (mkE [(0, (Zl (EI .i64) x0)), (0, (i6 x1)), (3, (i6 y126)), (1, (i6 (ln x0))), (0, (i6 y126))] 10) ?_
    refine Rn.g ?_
    refine Ro.t 3 ?_
    obtain ⟨y140, h141, h⟩ := bind_some h
    refine Ro.p (idx_fz (EI .i64) .i64 h141) ?_
    refine Ro.t 2 ?_
    refine Ro.d (mkE [(0, (Zl (EI .i64) x0)), (0, (i6 x1)), (3, (i6 y126)), (1, (i6 (ln x0))), (0, (i6 y126)), (7, (V.bool (x1 == y140)))] 2) ?_
    rcases tf (x1 == y140) with h142 | h142
    · rw [ite_t h142] at h; refine Rn.t h142 ?_
      refine Rn.g ?_
      refine Ro.t 2 ?_
      refine Ro.d (mkE [(4, (i6 y126))] 14) ?_
      refine Run.ret ?_
      have h := Option.some.inj h; subst h
      show RR65 L _ _ _
      exact ⟨(i6 y126), (by kernel_rfl), (by kernel_rfl), hp⟩
    · rw [ite_f h142] at h; refine Rn.f h142 ?_
      refine Run.skip ?_
      refine Run.clrE (ts := [4, 5, 10, 11, 12, 13, 14, 15, 16, 17]) (b := (.rgn i65r12)) (Q := (stp [4, 5, 9, 10, 11, 12, 13, 14, 15, 16, 17, 18] (I65_1 x0 x1 L) (RR65 L) (J65_1 x0 x1 L) t)) (e' := (mkE [(0, (Zl (EI .i64) x0)), (0, (i6 x1)), (5, (i6 (ln x0))), (0, (i6 y126))] 10)) (by kernel_rfl) ?_
      refine Run.rgn ?_
      refine Ro.t 2 ?_
      refine RunO.nil ?_
      have h := Option.some.inj h; subst h
      show I65_1 x0 x1 L _ _ _
      exact ⟨(by kernel_rfl), hp⟩
  · rw [ite_f h136] at h; refine Rn.f h136 ?_
    refine Run.exit ?_
    have h := Option.some.inj h; subst h
    show J65_1 x0 x1 L () _ _ _
    exact ⟨rfl, (by kernel_rfl), hp⟩

def F65 (x0 : (List Int)) (x1 : Int) : Option Int :=
  (iter (fun s : (Int) => F65_1_b x0 x1 s) FUEL ((0 : Int))).bind fun o => match o with
  | .ret r => some r
  | .go () =>
    some (-1 : Int)

theorem w65 {x0 : (List Int)} {x1 : Int} {r : Int} (h : F65 x0 x1 = some r) {H : Heap} {L : List Ob} (hp : HP H (L)) : Fn T 65 [(Zl (EI .i64) x0), (i6 x1)] H (Q65 L r) := by
  refine Fn.enterE t65 (e0 := (mkE [(0, (Zl (EI .i64) x0)), (0, (i6 x1))] 17)) (by kernel_rfl) ?_
  show Run T (.clr [] i65n22) _ _ (finE none [4] (Q65 L r))
  refine Rn.k (mkE [(0, (Zl (EI .i64) x0)), (0, (i6 x1))] 17) ?_
  unfold F65 at h
  refine Rn.g ?_
  refine Ro.t 1 ?_
  refine Ro.d (mkE [(0, (Zl (EI .i64) x0)), (0, (i6 x1))] 17) ?_
  refine Run.seq ?_
  refine Rn.g ?_
  refine Ro.t 1 ?_
  refine Ro.p (len_fz (EI .i64) x0) ?_
  refine Ro.t 1 ?_
  refine Ro.d (mkE [(0, (Zl (EI .i64) x0)), (0, (i6 x1)), (5, (i6 (ln x0))), (0, (i6 (0 : Int)))] 10) ?_
  refine Run.block ?_
  obtain ⟨o, h143, h⟩ := bind_some h
  refine (Run.iter (I := I65_1 x0 x1 L) (RR := RR65 L) (J := J65_1 x0 x1 L) (fun s e h' t hI hf => ?_) FUEL h143 (by exact ⟨(by kernel_rfl), hp⟩)).mono ?_
  · obtain ⟨rfl, hp⟩ := hI; exact w65_1_b hf hp
  · rintro X e' H hq
    cases o with
    | ret r => cases X <;> first | exact hq.elim | (cases h; exact hq)
    | go a => 
      cases X with | nrm => exact hq.elim | ret => exact hq.elim | ext i => ?_
      obtain ⟨rfl, he, hp⟩ := hq
      dsimp only at h
      refine Run.clrE (ts := [0, 1, 4, 5, 6, 7, 8, 9, 10, 11, 12, 13, 14, 15, 16, 17, 18]) (b := i65n20) (Q := (finE none [4] (Q65 L r))) he ?_
      refine Rn.g ?_
      refine Ro.t 1 ?_
      refine Ro.d (mkE [(4, (i6 (-1 : Int)))] 14) ?_
      refine Run.ret ?_
      have h := Option.some.inj h; subst h
      exact ⟨(i6 (-1 : Int)), (by kernel_rfl), (by kernel_rfl), hp⟩

theorem c65 {x0 : (List Int)} {x1 : Int} {r : Int} (h : F65 x0 x1 = some r) (s : Bool) : Fn T 65 [(Zl (EI .i64) x0), (i6 x1)] [] (fun v hh => deep s hh deepN v = some ((EI .i64).e r)) := by
  refine (w65 h HP.nil).mono ?_
  rintro v hh ⟨rfl, hp⟩
  exact (EI .i64).hd s hh 38 _ (.inr rfl)

/- slices.Contains[[]int,int] -/
abbrev Q79 (L : List Ob) (r : Bool) : V → Heap → Prop := fun v h => v = EB.e r ∧ HP h (L)
abbrev RR79 (L : List Ob) (r : Bool) : List V → Heap → Prop := fun e h => endR none [4] (Q79 L r) e h

def F79 (x0 : (List Int)) (x1 : Int) : Option Bool :=
  (F65 x0 x1).bind fun y146 =>
  some (decide (y146 ≥ (0 : Int)))

theorem w79 {x0 : (List Int)} {x1 : Int} {r : Bool} (h : F79 x0 x1 = some r) {H : Heap} {L : List Ob} (hp : HP H (L)) : Fn T 79 [(Zl (EI .i64) x0), (i6 x1)] H (Q79 L r) := by
  refine Fn.enterE t79 (e0 := (mkE [(0, (Zl (EI .i64) x0)), (0, (i6 x1))] 7)) (by kernel_rfl) ?_
  show Run T (.clr [] i79n3) _ _ (finE none [4] (Q79 L r))
  refine Rn.k (mkE [(0, (Zl (EI .i64) x0)), (0, (i6 x1))] 7) ?_
  unfold F79 at h
  refine Rn.g ?_
  refine Ro.t 1 ?_
  refine Ro.d (mkE [(0, (Zl (EI .i64) x0)), (0, (i6 x1))] 7) ?_
  refine Rn.g ?_
  refine Ro.t 2 ?_
  obtain ⟨y146, h147, h⟩ := bind_some h
  refine RunO.c1 (by kernel_rfl) (by kernel_rfl) (c65 h147 _) ?_
  refine Ro.t 2 ?_
  refine Ro.d (mkE [(4, (V.bool (decide (y146 ≥ (0 : Int)))))] 4) ?_
  refine Run.ret ?_
  have h := Option.some.inj h; subst h
  exact ⟨(V.bool (decide (y146 ≥ (0 : Int)))), (by kernel_rfl), (by kernel_rfl), hp⟩

theorem c79 {x0 : (List Int)} {x1 : Int} {r : Bool} (h : F79 x0 x1 = some r) (s : Bool) : Fn T 79 [(Zl (EI .i64) x0), (i6 x1)] [] (fun v hh => deep s hh deepN v = some (EB.e r)) := by
  refine (w79 h HP.nil).mono ?_
  rintro v hh ⟨rfl, hp⟩
  exact EB.hd s hh 38 _ (.inr rfl)

/- smithy/graph.headed -/
abbrev Q59 (L : List Ob) (r : Bool) : V → Heap → Prop := fun v h => v = EB.e r ∧ HP h (L)
abbrev RR59 (L : List Ob) (r : Bool) : List V → Heap → Prop := fun e h => endR none [2] (Q59 L r) e h

abbrev I59_1 (x0 : T_Graph) (L : List Ob) : (Int) → List V → Heap → Prop := fun s e h => e = (mkE [(1, (V.fp (E_Graph.e x0))), (1, (V.fn 78 [])), (42, (Zl (EI .u8) x0.fVars)), (0, (i6 (ln x0.fVars))), (0, (i6 s))] 54) ∧ HP h (L)

abbrev J59_1 (x0 : T_Graph) (L : List Ob) : Unit → Nat → List V → Heap → Prop := fun a i e h => i = 0 ∧ clrEnv [2, 5, 45, 46, 47, 48, 49, 50, 51, 52, 53, 54, 55, 56] e = (mkE [(1, (V.fp (E_Graph.e x0))), (1, (V.fn 78 []))] 99) ∧ HP h (L)

def F59_1_b (x0 : T_Graph) (y212 : Int) : Option (Stp (Int) Bool Unit) :=
  if (decide (y212 < ((List.length x0.fVars : Nat) : Int))) then
    (idx x0.fVars y212).bind fun y232 =>
    (F78 y232).bind fun y234 =>
    if (!y234) then
      some (.ret false)
    else
      some (.next ((IntKind.i64.wrap (y212 + (1 : Int)))))
  else
    some (.go ())

theorem w59_1_b {x0 : T_Graph} {y212 : Int} {t : (Stp (Int) Bool Unit)} (h : F59_1_b x0 y212 = some t) {H : Heap} {L : List Ob} (hp : HP H (L)) :
    Run T i59n21 (mkE [(1, (V.fp (E_Graph.e x0))), (1, (V.fn 78 [])), (42, (Zl (EI .u8) x0.fVars)), (0, (i6 (ln x0.fVars))), (0, (i6 y212))] 54) H (stp [2, 5, 49, 50, 51, 52, 53, 54, 55, 56] (I59_1 x0 L) (RR59 L) (J59_1 x0 L) t) := by
  unfold F59_1_b at h
  refine Rn.g ?_
  refine Ro.t 1 ?_
  refine Ro.d (mkE [(1, (V.fp (E_Graph.e x0))), (1, (V.fn 78 [])), (42, (Zl (EI .u8) x0.fVars)), (0, (i6 (ln x0.fVars))), (0, (i6 y212)), (0, (V.bool (decide (y212 < (ln x0.fVars)))))] 53) ?_
  refine Run.seq ?_
  rcases tf (decide (y212 < (ln x0.fVars))) with h226 | h226
  · rw [ite_t h226] at h; refine Rn.t h226 ?_
    refine Run.skip ?_
    refine Rn.c (mkE [(1, (V.fp (E_Graph.e x0))), (1, (V.fn 78 [])), (42, (Zl (EI .u8) x0.fVars)), (0, (i6 (ln x0.fVars))), (0, (i6 y212))] 54) ?_
    refine Run.seq ?_
    refine Run.block ?_
    refine Rn.g ?_
    obtain ⟨y232, h233, h⟩ := bind_some h
    refine Ro.p (idx_fz (EI .u8) .i64 h233) ?_
    refine Ro.t 2 ?_
    refine Ro.d (mkE [(1, (V.fp (E_Graph.e x0))), (1, (V.fn 78 [])), (1, (V.int .u8 y232)), (40, (Zl (EI .u8) x0.fVars)), (0, (i6 (ln x0.fVars))), (0, (i6 y212))] 54) ?_
    refine Rn.g ?_
    refine Ro.t 2 ?_
    obtain ⟨y234, h235, h⟩ := bind_some h
    refine RunO.h1 (n := 78) (caps := []) (us := [(V.int .u8 y232)]) (by kernel_rfl) (by kernel_rfl) (by kernel_rfl) ((w78 h235 hp).mono ?_)
    rintro _ H ⟨rfl, hp⟩
    have hp : HP H (L) := hp
    refine Ro.t 1 ?_
    refine Ro.d (mkE [(1, (V.fp (E_Graph.e x0))), (1, (V.fn 78 [])), (42, (Zl (EI .u8) x0.fVars)), (0, (i6 (ln x0.fVars))), (0, (i6 y212)), (6, (V.bool (!y234)))] 47) ?_
    rcases tf (!y234) with h236 | h236
    · rw [ite_t h236] at h; refine Rn.t h236 ?_
      refine Rn.g ?_
      refine Ro.t 1 ?_
      refine Ro.d (mkE [(2, (V.bool false))] 100) ?_
      refine Run.ret ?_
      have h := Option.some.inj h; subst h
      show RR59 L _ _ _
      exact ⟨(V.bool false), (by kernel_rfl), (by kernel_rfl), hp⟩
    · rw [ite_f h236] at h; refine Rn.f h236 ?_
      refine Run.skip ?_
      refine Run.clrE (ts := [2, 5, 50, 51, 52, 53, 54, 55]) (b := (.rgn i59r18)) (Q := (stp [2, 5, 49, 50, 51, 52, 53, 54, 55, 56] (I59_1 x0 L) (RR59 L) (J59_1 x0 L) t)) (e' := (mkE [(1, (V.fp (E_Graph.e x0))), (1, (V.fn 78 [])), (42, (Zl (EI .u8) x0.fVars)), (0, (i6 (ln x0.fVars))), (0, (i6 y212))] 54)) (by kernel_rfl) ?_
      refine Run.rgn ?_
      refine Ro.t 2 ?_
      refine RunO.nil ?_
      have h := Option.some.inj h; subst h
      show I59_1 x0 L _ _ _
      exact ⟨(by kernel_rfl), hp⟩
  · rw [ite_f h226] at h; refine Rn.f h226 ?_
    refine Run.exit ?_
    have h := Option.some.inj h; subst h
    show J59_1 x0 L () _ _ _
    exact ⟨rfl, (by kernel_rfl), hp⟩

abbrev I59_2 (x0 : T_Graph) (L : List Ob) : (Int) → List V → Heap → Prop := fun s e h => e = (mkE [(1, (V.fp (E_Graph.e x0))), (1, (V.fn 78 [])), (54, (Zl E_Array x0.fArrays)), (0, (i6 (ln x0.fArrays))), (0, (i6 s))] 42) ∧ HP h (L)

abbrev J59_2 (x0 : T_Graph) (L : List Ob) : Unit → Nat → List V → Heap → Prop := fun a i e h => i = 2 ∧ clrEnv [2, 3, 7, 57, 58, 59, 60, 61, 62, 63, 64, 65, 66, 67, 68, 69, 70, 71, 72, 73, 74, 75, 76, 77, 78, 79] e = (mkE [(1, (V.fp (E_Graph.e x0)))] 101) ∧ HP h (L)

def F59_2_b (x0 : T_Graph) (y256 : Int) : Option (Stp (Int) Bool Unit) :=
  if (decide (y256 < ((List.length x0.fArrays : Nat) : Int))) then
    (idx x0.fArrays y256).bind fun y285 =>
    (F78 y285.fType).bind fun y288 =>
    if y288 then
      if (decide (y285.fSize < (1 : Int))) then
        some (.ret false)
      else
        if (decide (y285.fSize > (256 : Int))) then
          some (.ret false)
        else
          some (.next ((IntKind.i64.wrap (y256 + (1 : Int)))))
    else
      some (.ret false)
  else
    some (.go ())

theorem w59_2_b {x0 : T_Graph} {y256 : Int} {t : (Stp (Int) Bool Unit)} (h : F59_2_b x0 y256 = some t) {H : Heap} {L : List Ob} (hp : HP H (L)) :
    Run T i59n39 (mkE [(1, (V.fp (E_Graph.e x0))), (1, (V.fn 78 [])), (54, (Zl E_Array x0.fArrays)), (0, (i6 (ln x0.fArrays))), (0, (i6 y256))] 42) H (stp [2, 7, 61, 62, 63, 64, 65, 66, 67, 68, 69, 70, 71, 72, 73, 74, 75, 76, 77, 78, 79] (I59_2 x0 L) (RR59 L) (J59_2 x0 L) t) := by
  unfold F59_2_b at h
  refine Rn.g ?_
  refine Ro.t 1 ?_
  refine Ro.d (mkE [(1, (V.fp (E_Graph.e x0))), (1, (V.fn 78 [])), (54, (Zl E_Array x0.fArrays)), (0, (i6 (ln x0.fArrays))), (0, (i6 y256)), (0, (V.bool (decide (y256 < (ln x0.fArrays)))))] 41) ?_
  refine Run.seq ?_
  rcases tf (decide (y256 < (ln x0.fArrays))) with h276 | h276
  · rw [ite_t h276] at h; refine Rn.t h276 ?_
    refine Run.skip ?_
    refine Rn.c (mkE [(1, (V.fp (E_Graph.e x0))), (1, (V.fn 78 [])), (54, (Zl E_Array x0.fArrays)), (0, (i6 (ln x0.fArrays))), (0, (i6 y256))] 42) ?_
    refine Run.seq ?_
    refine Run.block ?_
    refine Rn.g ?_
    obtain ⟨y285, h286, h⟩ := bind_some h
    refine Ro.p (idx_fz E_Array .i64 h286) ?_
    refine Ro.t 1 ?_
    refine RunO.alloc hp (by kernel_rfl) ?_
    intro b287 H hp
    have hp : HP H ((some (b287, 0), [(V.int .u8 (0 : Int)), (i6 (0 : Int))]) :: L) := hp
    refine RunO.st hp (by kernel_rfl) 0 (off := 0) (v := (E_Array.e y285)) (cs' := [(V.int .u8 y285.fType), (i6 y285.fSize)]) rfl (by kernel_rfl) (by kernel_rfl) (by kernel_rfl) ?_
    intro H hp
    refine Ro.d (mkE [(1, (V.fp (E_Graph.e x0))), (1, (V.fn 78 [])), (3, (V.ptr b287 0 0)), (50, (Zl E_Array x0.fArrays)), (0, (i6 (ln x0.fArrays))), (0, (i6 y256))] 42) ?_
    refine Rn.g ?_
    refine Ro.t 2 ?_
    refine Ro.p (hp.ld 0 (off := 0) (n := none) (v := (V.int .u8 y285.fType)) rfl (by kernel_rfl)) ?_
    obtain ⟨y288, h289, h⟩ := bind_some h
    rcases tf y288 with h290 | h290
    · subst h290; rw [if_pos rfl] at h
      refine RunO.h1 (n := 78) (caps := []) (us := [(V.int .u8 y285.fType)]) (by kernel_rfl) (by kernel_rfl) (by kernel_rfl) ((w78 h289 hp).mono ?_)
      rintro _ H ⟨rfl, hp⟩
      have hp : HP H ((some (b287, 0), [(V.int .u8 y285.fType), (i6 y285.fSize)]) :: L) := hp
      refine Ro.t 3 ?_
      refine Ro.p (hp.ld 0 (off := 1) (n := none) (v := (i6 y285.fSize)) rfl (by kernel_rfl)) ?_
      rcases tf (decide (y285.fSize < (1 : Int))) with h291 | h291
      · rw [ite_t h291] at h; refine Ro.p (bool_of h291) ?_
        refine Ro.t 6 ?_
        refine Ro.d (mkE [(1, (V.fp (E_Graph.e x0))), (1, (V.fn 78 [])), (54, (Zl E_Array x0.fArrays)), (0, (i6 (ln x0.fArrays))), (0, (i6 y256)), (17, (V.bool true))] 24) ?_
        refine Run.condT (by kernel_rfl) ?_
        refine Rn.g ?_
        refine Ro.t 1 ?_
        refine Ro.d (mkE [(2, (V.bool false))] 100) ?_
        refine Run.ret ?_
        have h := Option.some.inj h; subst h
        show RR59 L _ _ _
        have hp := hp.del 0
        exact ⟨(V.bool false), (by kernel_rfl), (by kernel_rfl), hp⟩
      · rw [ite_f h291] at h; refine Ro.p (bool_of h291) ?_
        refine Ro.t 3 ?_
        refine Ro.p (hp.ld 0 (off := 1) (n := none) (v := (i6 y285.fSize)) rfl (by kernel_rfl)) ?_
        refine Ro.t 2 ?_
        refine Ro.d (mkE [(1, (V.fp (E_Graph.e x0))), (1, (V.fn 78 [])), (54, (Zl E_Array x0.fArrays)), (0, (i6 (ln x0.fArrays))), (0, (i6 y256)), (17, (V.bool (decide (y285.fSize > (256 : Int)))))] 24) ?_
        rcases tf (decide (y285.fSize > (256 : Int))) with h292 | h292
        · rw [ite_t h292] at h; refine Rn.t h292 ?_
          refine Rn.g ?_
          refine Ro.t 1 ?_
          refine Ro.d (mkE [(2, (V.bool false))] 100) ?_
          refine Run.ret ?_
          have h := Option.some.inj h; subst h
          show RR59 L _ _ _
          have hp := hp.del 0
          exact ⟨(V.bool false), (by kernel_rfl), (by kernel_rfl), hp⟩
        · rw [ite_f h292] at h; refine Rn.f h292 ?_
          refine Run.skip ?_
          refine Run.clrE (ts := [2, 7, 62, 63, 64, 65, 66, 67, 68, 69, 70, 71, 72, 73, 74, 75, 76, 77, 78]) (b := (.rgn i59r36)) (Q := (stp [2, 7, 61, 62, 63, 64, 65, 66, 67, 68, 69, 70, 71, 72, 73, 74, 75, 76, 77, 78, 79] (I59_2 x0 L) (RR59 L) (J59_2 x0 L) t)) (e' := (mkE [(1, (V.fp (E_Graph.e x0))), (1, (V.fn 78 [])), (54, (Zl E_Array x0.fArrays)), (0, (i6 (ln x0.fArrays))), (0, (i6 y256))] 42)) (by kernel_rfl) ?_
          refine Run.rgn ?_
          refine Ro.t 2 ?_
          refine RunO.nil ?_
          have h := Option.some.inj h; subst h
          have hp := hp.del 0
          show I59_2 x0 L _ _ _
          exact ⟨(by kernel_rfl), hp⟩
    · subst h290; rw [if_neg (by decide)] at h
      refine RunO.h1 (n := 78) (caps := []) (us := [(V.int .u8 y285.fType)]) (by kernel_rfl) (by kernel_rfl) (by kernel_rfl) ((w78 h289 hp).mono ?_)
      rintro _ H ⟨rfl, hp⟩
      have hp : HP H ((some (b287, 0), [(V.int .u8 y285.fType), (i6 y285.fSize)]) :: L) := hp
      refine Ro.t 11 ?_
      refine Ro.d (mkE [(1, (V.fp (E_Graph.e x0))), (1, (V.fn 78 [])), (54, (Zl E_Array x0.fArrays)), (0, (i6 (ln x0.fArrays))), (0, (i6 y256)), (17, (V.bool true))] 24) ?_
      refine Run.condT (by kernel_rfl) ?_
      refine Rn.g ?_
      refine Ro.t 1 ?_
      refine Ro.d (mkE [(2, (V.bool false))] 100) ?_
      refine Run.ret ?_
      have h := Option.some.inj h; subst h
      show RR59 L _ _ _
      have hp := hp.del 0
      exact ⟨(V.bool false), (by kernel_rfl), (by kernel_rfl), hp⟩
  · rw [ite_f h276] at h; refine Rn.f h276 ?_
    refine Run.exit ?_
    have h := Option.some.inj h; subst h
    show J59_2 x0 L () _ _ _
    exact ⟨rfl, (by kernel_rfl), hp⟩

abbrev I59_3 (x0 : T_Graph) (L : List Ob) : (Int) → List V → Heap → Prop := fun s e h => e = (mkE [(1, (V.fp (E_Graph.e x0))), (79, (Zl (EI .i64) x0.fParams)), (0, (i6 (ln x0.fParams))), (0, (i6 s))] 19) ∧ HP h (L)

abbrev J59_3 (x0 : T_Graph) (L : List Ob) : Unit → Nat → List V → Heap → Prop := fun a i e h => i = 4 ∧ clrEnv [1, 2, 8, 9, 80, 81, 82, 83, 84, 85, 86, 87, 88, 89, 90, 91, 92, 93, 94, 95, 96, 97, 98, 99, 100, 101, 102] e = (mkE [] 103) ∧ HP h (L)

def F59_3_b (x0 : T_Graph) (y316 : Int) : Option (Stp (Int) Bool Unit) :=
  if (decide (y316 < ((List.length x0.fParams : Nat) : Int))) then
    (idx x0.fParams y316).bind fun y351 =>
    (F34 y351 ((List.length x0.fVars : Nat) : Int)).bind fun y353 =>
    if y353 then
      (part x0.fParams 0 y316).bind fun y356 =>
      (F79 y356 y351).bind fun y358 =>
      if y358 then
        some (.ret false)
      else
        some (.next ((IntKind.i64.wrap (y316 + (1 : Int)))))
    else
      some (.ret false)
  else
    some (.go ())

theorem w59_3_b {x0 : T_Graph} {y316 : Int} {t : (Stp (Int) Bool Unit)} (h : F59_3_b x0 y316 = some t) {H : Heap} {L : List Ob} (hp : HP H (L)) :
    Run T i59n57 (mkE [(1, (V.fp (E_Graph.e x0))), (79, (Zl (EI .i64) x0.fParams)), (0, (i6 (ln x0.fParams))), (0, (i6 y316))] 19) H (stp [2, 8, 9, 84, 85, 86, 87, 88, 89, 90, 91, 92, 93, 94, 95, 96, 97, 98, 99, 100, 101, 102] (I59_3 x0 L) (RR59 L) (J59_3 x0 L) t) := by
  unfold F59_3_b at h
  refine Rn.g ?_
  refine Ro.t 1 ?_
  refine Ro.d (mkE [(1, (V.fp (E_Graph.e x0))), (79, (Zl (EI .i64) x0.fParams)), (0, (i6 (ln x0.fParams))), (0, (i6 y316)), (0, (V.bool (decide (y316 < (ln x0.fParams)))))] 18) ?_
  refine Run.seq ?_
  rcases tf (decide (y316 < (ln x0.fParams))) with h340 | h340
  · rw [ite_t h340] at h; refine Rn.t h340 ?_
    refine Run.skip ?_
    refine Rn.c (mkE [(1, (V.fp (E_Graph.e x0))), (79, (Zl (EI .i64) x0.fParams)), (0, (i6 (ln x0.fParams))), (0, (i6 y316))] 19) ?_
    refine Run.seq ?_
    refine Run.block ?_
    refine Rn.g ?_
    refine Ro.t 1 ?_
    obtain ⟨y351, h352, h⟩ := bind_some h
    refine Ro.p (idx_fz (EI .i64) .i64 h352) ?_
    refine Ro.t 3 ?_
    refine Ro.d (mkE [(1, (V.fp (E_Graph.e x0))), (6, (i6 y316)), (0, (i6 y351)), (71, (Zl (EI .i64) x0.fParams)), (0, (i6 (ln x0.fParams))), (0, (i6 y316))] 19) ?_
    refine Rn.g ?_
    refine Ro.t 3 ?_
    refine Ro.p (len_fz (EI .u8) x0.fVars) ?_
    obtain ⟨y353, h354, h⟩ := bind_some h
    rcases tf y353 with h355 | h355
    · subst h355; rw [if_pos rfl] at h
      refine RunO.c1 (by kernel_rfl) (by kernel_rfl) (c34 h354 _) ?_
      refine Ro.t 5 ?_
      obtain ⟨y356, h357, h⟩ := bind_some h
      refine Ro.p (slc_fz0 (EI .i64) .i64 (by decide) h357) ?_
      refine Ro.t 1 ?_
      obtain ⟨y358, h359, h⟩ := bind_some h
      refine RunO.c1 (by kernel_rfl) (by kernel_rfl) (c79 h359 _) ?_
      refine Ro.t 1 ?_
      refine Ro.d (mkE [(1, (V.fp (E_Graph.e x0))), (79, (Zl (EI .i64) x0.fParams)), (0, (i6 (ln x0.fParams))), (0, (i6 y316)), (17, (V.bool y358))] 1) ?_
      rcases tf y358 with h360 | h360
      · rw [ite_t h360] at h; refine Rn.t h360 ?_
        refine Rn.g ?_
        refine Ro.t 1 ?_
        refine Ro.d (mkE [(2, (V.bool false))] 100) ?_
        refine Run.ret ?_
        have h := Option.some.inj h; subst h
        show RR59 L _ _ _
        exact ⟨(V.bool false), (by kernel_rfl), (by kernel_rfl), hp⟩
      · rw [ite_f h360] at h; refine Rn.f h360 ?_
        refine Run.skip ?_
        refine Run.clrE (ts := [2, 8, 9, 85, 86, 87, 88, 89, 90, 91, 92, 93, 94, 95, 96, 97, 98, 99, 100, 101]) (b := (.rgn i59r54)) (Q := (stp [2, 8, 9, 84, 85, 86, 87, 88, 89, 90, 91, 92, 93, 94, 95, 96, 97, 98, 99, 100, 101, 102] (I59_3 x0 L) (RR59 L) (J59_3 x0 L) t)) (e' := (mkE [(1, (V.fp (E_Graph.e x0))), (79, (Zl (EI .i64) x0.fParams)), (0, (i6 (ln x0.fParams))), (0, (i6 y316))] 19)) (by kernel_rfl) ?_
        refine Run.rgn ?_
        refine Ro.t 2 ?_
        refine RunO.nil ?_
        have h := Option.some.inj h; subst h
        show I59_3 x0 L _ _ _
        exact ⟨(by kernel_rfl), hp⟩
    · subst h355; rw [if_neg (by decide)] at h
      refine RunO.c1 (by kernel_rfl) (by kernel_rfl) (c34 h354 _) ?_
      refine Ro.t 9 ?_
      refine Ro.d (mkE [(1, (V.fp (E_Graph.e x0))), (79, (Zl (EI .i64) x0.fParams)), (0, (i6 (ln x0.fParams))), (0, (i6 y316)), (17, (V.bool true))] 1) ?_
      refine Run.condT (by kernel_rfl) ?_
      refine Rn.g ?_
      refine Ro.t 1 ?_
      refine Ro.d (mkE [(2, (V.bool false))] 100) ?_
      refine Run.ret ?_
      have h := Option.some.inj h; subst h
      show RR59 L _ _ _
      exact ⟨(V.bool false), (by kernel_rfl), (by kernel_rfl), hp⟩
  · rw [ite_f h340] at h; refine Rn.f h340 ?_
    refine Run.exit ?_
    have h := Option.some.inj h; subst h
    show J59_3 x0 L () _ _ _
    exact ⟨rfl, (by kernel_rfl), hp⟩

def F59 (x0 : T_Graph) : Option Bool :=
  if (decide (((List.length x0.fBlocks : Nat) : Int) < (1 : Int))) then
    some false
  else
    if (decide (((List.length x0.fBlocks : Nat) : Int) > (1048576 : Int))) then
      some false
    else
      if (decide (((List.length x0.fVars : Nat) : Int) > (1048576 : Int))) then
        some false
      else
        if (decide (((List.length x0.fArrays : Nat) : Int) > (1048576 : Int))) then
          some false
        else
          if (decide (((List.length x0.fParams : Nat) : Int) > (8 : Int))) then
            some false
          else
            (F78 x0.fResult).bind fun y197 =>
            if (!y197) then
              some false
            else
              (iter (fun s : (Int) => F59_1_b x0 s) FUEL ((0 : Int))).bind fun o => match o with
              | .ret r => some r
              | .go () =>
                (iter (fun s : (Int) => F59_2_b x0 s) FUEL ((0 : Int))).bind fun o => match o with
                | .ret r => some r
                | .go () =>
                  (iter (fun s : (Int) => F59_3_b x0 s) FUEL ((0 : Int))).bind fun o => match o with
                  | .ret r => some r
                  | .go () =>
                    some true

theorem w59 {x0 : T_Graph} {r : Bool} (h : F59 x0 = some r) {H : Heap} {L : List Ob} (hp : HP H (L)) : Fn T 59 [(E_Graph.e x0)] H (Q59 L r) := by
  refine Fn.enterE t59 (e0 := (mkE [(0, (E_Graph.e x0))] 102)) (by kernel_rfl) ?_
  show Run T (.clr [] i59n68) _ _ (finE none [2] (Q59 L r))
  refine Rn.k (mkE [(0, (E_Graph.e x0))] 102) ?_
  unfold F59 at h
  refine Rn.g ?_
  refine Ro.t 2 ?_
  refine Ro.d (mkE [(1, (V.fp (E_Graph.e x0)))] 101) ?_
  refine Rn.g ?_
  refine Ro.t 1 ?_
  refine Ro.d (mkE [(1, (V.fp (E_Graph.e x0))), (1, (V.fn 78 []))] 99) ?_
  refine Run.seq ?_
  refine Rn.g ?_
  refine Ro.t 2 ?_
  refine Ro.p (len_fz E_Block x0.fBlocks) ?_
  rcases tf (decide ((ln x0.fBlocks) < (1 : Int))) with h192 | h192
  · rw [ite_t h192] at h; refine Ro.p (bool_of h192) ?_
    refine Ro.t 31 ?_
    refine Ro.d (mkE [(1, (V.fp (E_Graph.e x0))), (1, (V.fn 78 [])), (40, (V.bool true))] 58) ?_
    refine Run.condT (by kernel_rfl) ?_
    refine Rn.g ?_
    refine Ro.t 1 ?_
    refine Ro.d (mkE [(2, (V.bool false))] 100) ?_
    refine Run.ret ?_
    have h := Option.some.inj h; subst h
    exact ⟨(V.bool false), (by kernel_rfl), (by kernel_rfl), hp⟩
  · rw [ite_f h192] at h; refine Ro.p (bool_of h192) ?_
    refine Ro.t 3 ?_
    refine Ro.p (len_fz E_Block x0.fBlocks) ?_
    rcases tf (decide ((ln x0.fBlocks) > (1048576 : Int))) with h193 | h193
    · rw [ite_t h193] at h; refine Ro.p (bool_of h193) ?_
      refine Ro.t 26 ?_
      refine Ro.d (mkE [(1, (V.fp (E_Graph.e x0))), (1, (V.fn 78 [])), (40, (V.bool true))] 58) ?_
      refine Run.condT (by kernel_rfl) ?_
      refine Rn.g ?_
      refine Ro.t 1 ?_
      refine Ro.d (mkE [(2, (V.bool false))] 100) ?_
      refine Run.ret ?_
      have h := Option.some.inj h; subst h
      exact ⟨(V.bool false), (by kernel_rfl), (by kernel_rfl), hp⟩
    · rw [ite_f h193] at h; refine Ro.p (bool_of h193) ?_
      refine Ro.t 4 ?_
      refine Ro.p (len_fz (EI .u8) x0.fVars) ?_
      rcases tf (decide ((ln x0.fVars) > (1048576 : Int))) with h194 | h194
      · rw [ite_t h194] at h; refine Ro.p (bool_of h194) ?_
        refine Ro.t 20 ?_
        refine Ro.d (mkE [(1, (V.fp (E_Graph.e x0))), (1, (V.fn 78 [])), (40, (V.bool true))] 58) ?_
        refine Run.condT (by kernel_rfl) ?_
        refine Rn.g ?_
        refine Ro.t 1 ?_
        refine Ro.d (mkE [(2, (V.bool false))] 100) ?_
        refine Run.ret ?_
        have h := Option.some.inj h; subst h
        exact ⟨(V.bool false), (by kernel_rfl), (by kernel_rfl), hp⟩
      · rw [ite_f h194] at h; refine Ro.p (bool_of h194) ?_
        refine Ro.t 4 ?_
        refine Ro.p (len_fz E_Array x0.fArrays) ?_
        rcases tf (decide ((ln x0.fArrays) > (1048576 : Int))) with h195 | h195
        · rw [ite_t h195] at h; refine Ro.p (bool_of h195) ?_
          refine Ro.t 14 ?_
          refine Ro.d (mkE [(1, (V.fp (E_Graph.e x0))), (1, (V.fn 78 [])), (40, (V.bool true))] 58) ?_
          refine Run.condT (by kernel_rfl) ?_
          refine Rn.g ?_
          refine Ro.t 1 ?_
          refine Ro.d (mkE [(2, (V.bool false))] 100) ?_
          refine Run.ret ?_
          have h := Option.some.inj h; subst h
          exact ⟨(V.bool false), (by kernel_rfl), (by kernel_rfl), hp⟩
        · rw [ite_f h195] at h; refine Ro.p (bool_of h195) ?_
          refine Ro.t 4 ?_
          refine Ro.p (len_fz (EI .i64) x0.fParams) ?_
          rcases tf (decide ((ln x0.fParams) > (8 : Int))) with h196 | h196
          · rw [ite_t h196] at h; refine Ro.p (bool_of h196) ?_
            refine Ro.t 8 ?_
            refine Ro.d (mkE [(1, (V.fp (E_Graph.e x0))), (1, (V.fn 78 [])), (40, (V.bool true))] 58) ?_
            refine Run.condT (by kernel_rfl) ?_
            refine Rn.g ?_
            refine Ro.t 1 ?_
            refine Ro.d (mkE [(2, (V.bool false))] 100) ?_
            refine Run.ret ?_
            have h := Option.some.inj h; subst h
            exact ⟨(V.bool false), (by kernel_rfl), (by kernel_rfl), hp⟩
          · rw [ite_f h196] at h; refine Ro.p (bool_of h196) ?_
            refine Ro.t 5 ?_
            obtain ⟨y197, h198, h⟩ := bind_some h
            refine RunO.h1 (n := 78) (caps := []) (us := [(V.int .u8 x0.fResult)]) (by kernel_rfl) (by kernel_rfl) (by kernel_rfl) ((w78 h198 hp).mono ?_)
            rintro _ H ⟨rfl, hp⟩
            have hp : HP H (L) := hp
            refine Ro.t 2 ?_
            refine Ro.d (mkE [(1, (V.fp (E_Graph.e x0))), (1, (V.fn 78 [])), (40, (V.bool (!y197)))] 58) ?_
            rcases tf (!y197) with h199 | h199
            · rw [ite_t h199] at h; refine Rn.t h199 ?_
              refine Rn.g ?_
              refine Ro.t 1 ?_
              refine Ro.d (mkE [(2, (V.bool false))] 100) ?_
              refine Run.ret ?_
              have h := Option.some.inj h; subst h
              exact ⟨(V.bool false), (by kernel_rfl), (by kernel_rfl), hp⟩
            · rw [ite_f h199] at h; refine Rn.f h199 ?_
              refine Run.skip ?_
              refine Rn.c (mkE [(1, (V.fp (E_Graph.e x0))), (1, (V.fn 78 []))] 99) ?_
              refine Run.seq ?_
              refine Rn.g ?_
              refine Ro.t 2 ?_
              refine Ro.p (len_fz (EI .u8) x0.fVars) ?_
              refine Ro.t 1 ?_
              refine Ro.d (mkE [(1, (V.fp (E_Graph.e x0))), (1, (V.fn 78 [])), (42, (Zl (EI .u8) x0.fVars)), (0, (i6 (ln x0.fVars))), (0, (i6 (0 : Int)))] 54) ?_
              refine Run.block ?_
              obtain ⟨o, h237, h⟩ := bind_some h
              refine (Run.iter (I := I59_1 x0 L) (RR := RR59 L) (J := J59_1 x0 L) (fun s e h' t hI hf => ?_) FUEL h237 (by exact ⟨(by kernel_rfl), hp⟩)).mono ?_
              · obtain ⟨rfl, hp⟩ := hI; exact w59_1_b hf hp
              · rintro X e' H hq
                cases o with
                | ret r => cases X <;> first | exact hq.elim | (cases h; exact hq)
                | go a => 
                  cases X with | nrm => exact hq.elim | ret => exact hq.elim | ext i => ?_
                  obtain ⟨rfl, he, hp⟩ := hq
                  dsimp only at h
                  refine Run.clrE (ts := [2, 5, 45, 46, 47, 48, 49, 50, 51, 52, 53, 54, 55, 56]) (b := i59n64) (Q := (finE none [2] (Q59 L r))) he ?_
                  refine Run.seq ?_
                  refine Rn.g ?_
                  refine Ro.t 2 ?_
                  refine Ro.p (len_fz E_Array x0.fArrays) ?_
                  refine Ro.t 1 ?_
                  refine Ro.d (mkE [(1, (V.fp (E_Graph.e x0))), (1, (V.fn 78 [])), (54, (Zl E_Array x0.fArrays)), (0, (i6 (ln x0.fArrays))), (0, (i6 (0 : Int)))] 42) ?_
                  refine Run.block ?_
                  obtain ⟨o, h293, h⟩ := bind_some h
                  refine (Run.iter (I := I59_2 x0 L) (RR := RR59 L) (J := J59_2 x0 L) (fun s e h' t hI hf => ?_) FUEL h293 (by exact ⟨(by kernel_rfl), hp⟩)).mono ?_
                  · obtain ⟨rfl, hp⟩ := hI; exact w59_2_b hf hp
                  · rintro X e' H hq
                    cases o with
                    | ret r => cases X <;> first | exact hq.elim | (cases h; exact hq)
                    | go a => 
                      cases X with | nrm => exact hq.elim | ret => exact hq.elim | ext i => ?_
                      obtain ⟨rfl, he, hp⟩ := hq
                      dsimp only at h
                      refine Run.clrE (ts := [2, 3, 7, 57, 58, 59, 60, 61, 62, 63, 64, 65, 66, 67, 68, 69, 70, 71, 72, 73, 74, 75, 76, 77, 78, 79]) (b := i59n63) (Q := (finE none [2] (Q59 L r))) he ?_
                      refine Run.seq ?_
                      refine Rn.g ?_
                      refine Ro.t 2 ?_
                      refine Ro.p (len_fz (EI .i64) x0.fParams) ?_
                      refine Ro.t 1 ?_
                      refine Ro.d (mkE [(1, (V.fp (E_Graph.e x0))), (79, (Zl (EI .i64) x0.fParams)), (0, (i6 (ln x0.fParams))), (0, (i6 (0 : Int)))] 19) ?_
                      refine Run.block ?_
                      obtain ⟨o, h361, h⟩ := bind_some h
                      refine (Run.iter (I := I59_3 x0 L) (RR := RR59 L) (J := J59_3 x0 L) (fun s e h' t hI hf => ?_) FUEL h361 (by exact ⟨(by kernel_rfl), hp⟩)).mono ?_
                      · obtain ⟨rfl, hp⟩ := hI; exact w59_3_b hf hp
                      · rintro X e' H hq
                        cases o with
                        | ret r => cases X <;> first | exact hq.elim | (cases h; exact hq)
                        | go a => 
                          cases X with | nrm => exact hq.elim | ret => exact hq.elim | ext i => ?_
                          obtain ⟨rfl, he, hp⟩ := hq
                          dsimp only at h
                          refine Run.clrE (ts := [1, 2, 8, 9, 80, 81, 82, 83, 84, 85, 86, 87, 88, 89, 90, 91, 92, 93, 94, 95, 96, 97, 98, 99, 100, 101, 102]) (b := i59n62) (Q := (finE none [2] (Q59 L r))) he ?_
                          refine Rn.g ?_
                          refine Ro.t 1 ?_
                          refine Ro.d (mkE [(2, (V.bool true))] 100) ?_
                          refine Run.ret ?_
                          have h := Option.some.inj h; subst h
                          exact ⟨(V.bool true), (by kernel_rfl), (by kernel_rfl), hp⟩

theorem c59 {x0 : T_Graph} {r : Bool} (h : F59 x0 = some r) (s : Bool) : Fn T 59 [(E_Graph.e x0)] [] (fun v hh => deep s hh deepN v = some (EB.e r)) := by
  refine (w59 h HP.nil).mono ?_
  rintro v hh ⟨rfl, hp⟩
  exact EB.hd s hh 38 _ (.inr rfl)

/- smithy/graph.ended$1 -/
abbrev Q80 (L : List Ob) (r : Bool) : V → Heap → Prop := fun v h => v = EB.e r ∧ HP h (L)
abbrev RR80 (L : List Ob) (r : Bool) : List V → Heap → Prop := fun e h => endR none [3] (Q80 L r) e h

def F80 (x0 : Int) (x1 : T_Graph) : Option Bool :=
  if (decide (x0 > (0 : Int))) then
    some (decide (x0 < ((List.length x1.fBlocks : Nat) : Int)))
  else
    some false

theorem w80 {x0 : Int} {x1 : T_Graph} {r : Bool} (h : F80 x0 x1 = some r) {H : Heap} {L : List Ob} (hp : HP H (L)) : Fn T 80 [(i6 x0), (V.fp (E_Graph.e x1))] H (Q80 L r) := by
  refine Fn.enterE t80 (e0 := (mkE [(0, (i6 x0)), (0, (V.fp (E_Graph.e x1)))] 11)) (by kernel_rfl) ?_
  show Run T (.clr [] i80n3) _ _ (finE none [3] (Q80 L r))
  refine Rn.k (mkE [(0, (i6 x0)), (0, (V.fp (E_Graph.e x1)))] 11) ?_
  unfold F80 at h
  refine Rn.g ?_
  refine Ro.t 1 ?_
  refine Ro.d (mkE [(0, (i6 x0)), (0, (V.fp (E_Graph.e x1)))] 11) ?_
  refine Rn.g ?_
  refine Ro.t 1 ?_
  rcases tf (decide (x0 > (0 : Int))) with h377 | h377
  · rw [ite_t h377] at h; refine Ro.p (bool_of h377) ?_
    refine Ro.t 4 ?_
    refine Ro.p (len_fz E_Block x1.fBlocks) ?_
    refine Ro.t 3 ?_
    refine Ro.d (mkE [(3, (V.bool (decide (x0 < (ln x1.fBlocks)))))] 9) ?_
    refine Run.ret ?_
    have h := Option.some.inj h; subst h
    exact ⟨(V.bool (decide (x0 < (ln x1.fBlocks)))), (by kernel_rfl), (by kernel_rfl), hp⟩
  · rw [ite_f h377] at h; refine Ro.p (bool_of h377) ?_
    refine Ro.t 8 ?_
    refine Ro.d (mkE [(3, (V.bool false))] 9) ?_
    refine Run.ret ?_
    have h := Option.some.inj h; subst h
    exact ⟨(V.bool false), (by kernel_rfl), (by kernel_rfl), hp⟩

theorem c80 {x0 : Int} {x1 : T_Graph} {r : Bool} (h : F80 x0 x1 = some r) (s : Bool) : Fn T 80 [(i6 x0), (V.fp (E_Graph.e x1))] [] (fun v hh => deep s hh deepN v = some (EB.e r)) := by
  refine (w80 h HP.nil).mono ?_
  rintro v hh ⟨rfl, hp⟩
  exact EB.hd s hh 38 _ (.inr rfl)

/- smithy/graph.ended$2 -/
abbrev Q81 (L : List Ob) (r : Bool) : V → Heap → Prop := fun v h => v = EB.e r ∧ HP h (L)
abbrev RR81 (L : List Ob) (r : Bool) : List V → Heap → Prop := fun e h => endR none [4] (Q81 L r) e h

def F81 (x0 : Int) (x1 : T_Term) (x2 : T_Graph) : Option Bool :=
  (F34 x1.fArg ((List.length x2.fVars : Nat) : Int)).bind fun y395 =>
  if y395 then
    (idx x2.fVars x1.fArg).bind fun y398 =>
    some (y398 == x0)
  else
    some false

theorem w81 {x0 : Int} {x1 : T_Term} {x2 : T_Graph} {r : Bool} (h : F81 x0 x1 x2 = some r) {H : Heap} {L : List Ob} (hp : HP H (L)) : Fn T 81 [(V.int .u8 x0), (V.fp (E_Term.e x1)), (V.fp (E_Graph.e x2))] H (Q81 L r) := by
  refine Fn.enterE t81 (e0 := (mkE [(0, (V.int .u8 x0)), (0, (V.fp (E_Term.e x1))), (0, (V.fp (E_Graph.e x2)))] 18)) (by kernel_rfl) ?_
  show Run T (.clr [] i81n3) _ _ (finE none [4] (Q81 L r))
  refine Rn.k (mkE [(0, (V.int .u8 x0)), (0, (V.fp (E_Term.e x1))), (0, (V.fp (E_Graph.e x2)))] 18) ?_
  unfold F81 at h
  refine Rn.g ?_
  refine Ro.t 1 ?_
  refine Ro.d (mkE [(0, (V.int .u8 x0)), (0, (V.fp (E_Term.e x1))), (0, (V.fp (E_Graph.e x2)))] 18) ?_
  refine Rn.g ?_
  refine Ro.t 4 ?_
  refine Ro.p (len_fz (EI .u8) x2.fVars) ?_
  obtain ⟨y395, h396, h⟩ := bind_some h
  rcases tf y395 with h397 | h397
  · subst h397; rw [if_pos rfl] at h
    refine RunO.c1 (by kernel_rfl) (by kernel_rfl) (c34 h396 _) ?_
    refine Ro.t 5 ?_
    obtain ⟨y398, h399, h⟩ := bind_some h
    refine Ro.p (idx_fz (EI .u8) .i64 h399) ?_
    refine Ro.t 5 ?_
    refine Ro.d (mkE [(4, (V.bool (y398 == x0)))] 16) ?_
    refine Run.ret ?_
    have h := Option.some.inj h; subst h
    exact ⟨(V.bool (y398 == x0)), (by kernel_rfl), (by kernel_rfl), hp⟩
  · subst h397; rw [if_neg (by decide)] at h
    refine RunO.c1 (by kernel_rfl) (by kernel_rfl) (c34 h396 _) ?_
    refine Ro.t 11 ?_
    refine Ro.d (mkE [(4, (V.bool false))] 16) ?_
    refine Run.ret ?_
    have h := Option.some.inj h; subst h
    exact ⟨(V.bool false), (by kernel_rfl), (by kernel_rfl), hp⟩

theorem c81 {x0 : Int} {x1 : T_Term} {x2 : T_Graph} {r : Bool} (h : F81 x0 x1 x2 = some r) (s : Bool) : Fn T 81 [(V.int .u8 x0), (V.fp (E_Term.e x1)), (V.fp (E_Graph.e x2))] [] (fun v hh => deep s hh deepN v = some (EB.e r)) := by
  refine (w81 h HP.nil).mono ?_
  rintro v hh ⟨rfl, hp⟩
  exact EB.hd s hh 38 _ (.inr rfl)

/- smithy/graph.ended -/
abbrev Q60 (L : List Ob) (r : Bool) : V → Heap → Prop := fun v h => v = EB.e r ∧ HP h (L)
abbrev RR60 (L : List Ob) (r : Bool) : List V → Heap → Prop := fun e h => endR none [4] (Q60 L r) e h

def F60 (x0 : T_Graph) (x1 : T_Term) : Option Bool :=
  if (x1.fKind == (1 : Int)) then
    (F80 x1.fTo.a0 x0).bind fun y463 =>
    if y463 then
      if (x1.fTo.a1 == (0 : Int)) then
        if (x1.fArg == (0 : Int)) then
          some (x1.fTrap == (0 : Int))
        else
          some false
      else
        some false
    else
      some false
  else
    if (x1.fKind == (2 : Int)) then
      (F80 x1.fTo.a0 x0).bind fun y469 =>
      if y469 then
        (F80 x1.fTo.a1 x0).bind fun y472 =>
        if y472 then
          (F81 (1 : Int) x1 x0).bind fun y475 =>
          if y475 then
            some (x1.fTrap == (0 : Int))
          else
            some false
        else
          some false
      else
        some false
    else
      if (x1.fKind == (3 : Int)) then
        (F81 x0.fResult x1 x0).bind fun y479 =>
        if y479 then
          if (decide (x1.fTo = (⟨(0 : Int), (0 : Int)⟩ : T_2int))) then
            some (x1.fTrap == (0 : Int))
          else
            some false
        else
          some false
      else
        if (x1.fKind == (4 : Int)) then
          if (decide (x1.fTrap ≥ (1 : Int))) then
            if (decide (x1.fTrap ≤ (3 : Int))) then
              if (x1.fArg == (0 : Int)) then
                some (decide (x1.fTo = (⟨(0 : Int), (0 : Int)⟩ : T_2int)))
              else
                some false
            else
              some false
          else
            some false
        else
          some false

theorem w60 {x0 : T_Graph} {x1 : T_Term} {r : Bool} (h : F60 x0 x1 = some r) {H : Heap} {L : List Ob} (hp : HP H (L)) : Fn T 60 [(E_Graph.e x0), (E_Term.e x1)] H (Q60 L r) := by
  refine Fn.enterE t60 (e0 := (mkE [(0, (E_Graph.e x0)), (0, (E_Term.e x1))] 93)) (by kernel_rfl) ?_
  show Run T (.clr [] i60n31) _ _ (finE none [4] (Q60 L r))
  refine Rn.k (mkE [(0, (E_Graph.e x0)), (0, (E_Term.e x1))] 93) ?_
  unfold F60 at h
  refine Rn.g ?_
  refine Ro.t 3 ?_
  refine Ro.d (mkE [(2, (V.fp (E_Graph.e x0))), (0, (V.fp (E_Term.e x1)))] 91) ?_
  refine Rn.g ?_
  refine Ro.t 2 ?_
  refine Ro.d (mkE [(2, (V.fp (E_Graph.e x0))), (0, (V.fp (E_Term.e x1))), (1, (V.fn 80 [(V.fp (E_Graph.e x0))]))] 89) ?_
  refine Rn.g ?_
  refine Ro.t 2 ?_
  refine Ro.d (mkE [(2, (V.fp (E_Graph.e x0))), (0, (V.fp (E_Term.e x1))), (1, (V.fn 80 [(V.fp (E_Graph.e x0))])), (0, (V.fn 81 [(V.fp (E_Term.e x1)), (V.fp (E_Graph.e x0))]))] 88) ?_
  refine Run.seq ?_
  refine Rn.g ?_
  refine Ro.t 2 ?_
  refine Ro.d (mkE [(2, (V.fp (E_Graph.e x0))), (0, (V.fp (E_Term.e x1))), (1, (V.fn 80 [(V.fp (E_Graph.e x0))])), (0, (V.fn 81 [(V.fp (E_Term.e x1)), (V.fp (E_Graph.e x0))])), (3, (V.int .u8 x1.fKind))] 84) ?_
  refine Run.block ?_
  refine Rn.g ?_
  refine Ro.t 2 ?_
  refine Ro.d (mkE [(2, (V.fp (E_Graph.e x0))), (0, (V.fp (E_Term.e x1))), (1, (V.fn 80 [(V.fp (E_Graph.e x0))])), (0, (V.fn 81 [(V.fp (E_Term.e x1)), (V.fp (E_Graph.e x0))])), (3, (V.int .u8 x1.fKind)), (0, (V.bool (x1.fKind == (1 : Int))))] 83) ?_
  rcases tf (x1.fKind == (1 : Int)) with h462 | h462
  · rw [ite_t h462] at h; refine Rn.t h462 ?_
    refine Rn.g ?_
    refine Ro.t 4 ?_
    obtain ⟨y463, h464, h⟩ := bind_some h
    rcases tf y463 with h465 | h465
    · subst h465; rw [if_pos rfl] at h
      refine RunO.h1 (n := 80) (caps := [(V.fp (E_Graph.e x0))]) (us := [(i6 x1.fTo.a0), (V.fp (E_Graph.e x0))]) (by kernel_rfl) (by kernel_rfl) (by kernel_rfl) ((w80 h464 hp).mono ?_)
      rintro _ H ⟨rfl, hp⟩
      have hp : HP H (L) := hp
      refine Ro.t 4 ?_
      rcases tf (x1.fTo.a1 == (0 : Int)) with h466 | h466
      · rw [ite_t h466] at h; refine Ro.p (bool_of h466) ?_
        refine Ro.t 4 ?_
        rcases tf (x1.fArg == (0 : Int)) with h467 | h467
        · rw [ite_t h467] at h; refine Ro.p (bool_of h467) ?_
          refine Ro.t 7 ?_
          refine Ro.d (mkE [(4, (V.bool (x1.fTrap == (0 : Int))))] 90) ?_
          refine Run.ret ?_
          have h := Option.some.inj h; subst h
          exact ⟨(V.bool (x1.fTrap == (0 : Int))), (by kernel_rfl), (by kernel_rfl), hp⟩
        · rw [ite_f h467] at h; refine Ro.p (bool_of h467) ?_
          refine Ro.t 7 ?_
          refine Ro.d (mkE [(4, (V.bool false))] 90) ?_
          refine Run.ret ?_
          have h := Option.some.inj h; subst h
          exact ⟨(V.bool false), (by kernel_rfl), (by kernel_rfl), hp⟩
      · rw [ite_f h466] at h; refine Ro.p (bool_of h466) ?_
        refine Ro.t 12 ?_
        refine Ro.d (mkE [(4, (V.bool false))] 90) ?_
        refine Run.ret ?_
        have h := Option.some.inj h; subst h
        exact ⟨(V.bool false), (by kernel_rfl), (by kernel_rfl), hp⟩
    · subst h465; rw [if_neg (by decide)] at h
      refine RunO.h1 (n := 80) (caps := [(V.fp (E_Graph.e x0))]) (us := [(i6 x1.fTo.a0), (V.fp (E_Graph.e x0))]) (by kernel_rfl) (by kernel_rfl) (by kernel_rfl) ((w80 h464 hp).mono ?_)
      rintro _ H ⟨rfl, hp⟩
      have hp : HP H (L) := hp
      refine Ro.t 17 ?_
      refine Ro.d (mkE [(4, (V.bool false))] 90) ?_
      refine Run.ret ?_
      have h := Option.some.inj h; subst h
      exact ⟨(V.bool false), (by kernel_rfl), (by kernel_rfl), hp⟩
  · rw [ite_f h462] at h; refine Rn.f h462 ?_
    refine Rn.g ?_
    refine Ro.t 2 ?_
    refine Ro.d (mkE [(2, (V.fp (E_Graph.e x0))), (0, (V.fp (E_Term.e x1))), (1, (V.fn 80 [(V.fp (E_Graph.e x0))])), (0, (V.fn 81 [(V.fp (E_Term.e x1)), (V.fp (E_Graph.e x0))])), (3, (V.int .u8 x1.fKind)), (23, (V.bool (x1.fKind == (2 : Int))))] 60) ?_
    rcases tf (x1.fKind == (2 : Int)) with h468 | h468
    · rw [ite_t h468] at h; refine Rn.t h468 ?_
      refine Rn.g ?_
      refine Ro.t 4 ?_
      obtain ⟨y469, h470, h⟩ := bind_some h
      rcases tf y469 with h471 | h471
      · subst h471; rw [if_pos rfl] at h
        refine RunO.h1 (n := 80) (caps := [(V.fp (E_Graph.e x0))]) (us := [(i6 x1.fTo.a0), (V.fp (E_Graph.e x0))]) (by kernel_rfl) (by kernel_rfl) (by kernel_rfl) ((w80 h470 hp).mono ?_)
        rintro _ H ⟨rfl, hp⟩
        have hp : HP H (L) := hp
        refine Ro.t 5 ?_
        obtain ⟨y472, h473, h⟩ := bind_some h
        rcases tf y472 with h474 | h474
        · subst h474; rw [if_pos rfl] at h
          refine RunO.h1 (n := 80) (caps := [(V.fp (E_Graph.e x0))]) (us := [(i6 x1.fTo.a1), (V.fp (E_Graph.e x0))]) (by kernel_rfl) (by kernel_rfl) (by kernel_rfl) ((w80 h473 hp).mono ?_)
          rintro _ H ⟨rfl, hp⟩
          have hp : HP H (L) := hp
          refine Ro.t 3 ?_
          obtain ⟨y475, h476, h⟩ := bind_some h
          rcases tf y475 with h477 | h477
          · subst h477; rw [if_pos rfl] at h
            refine RunO.h1 (n := 81) (caps := [(V.fp (E_Term.e x1)), (V.fp (E_Graph.e x0))]) (us := [(V.int .u8 (1 : Int)), (V.fp (E_Term.e x1)), (V.fp (E_Graph.e x0))]) (by kernel_rfl) (by kernel_rfl) (by kernel_rfl) ((w81 h476 hp).mono ?_)
            rintro _ H ⟨rfl, hp⟩
            have hp : HP H (L) := hp
            refine Ro.t 7 ?_
            refine Ro.d (mkE [(4, (V.bool (x1.fTrap == (0 : Int))))] 90) ?_
            refine Run.ret ?_
            have h := Option.some.inj h; subst h
            exact ⟨(V.bool (x1.fTrap == (0 : Int))), (by kernel_rfl), (by kernel_rfl), hp⟩
          · subst h477; rw [if_neg (by decide)] at h
            refine RunO.h1 (n := 81) (caps := [(V.fp (E_Term.e x1)), (V.fp (E_Graph.e x0))]) (us := [(V.int .u8 (1 : Int)), (V.fp (E_Term.e x1)), (V.fp (E_Graph.e x0))]) (by kernel_rfl) (by kernel_rfl) (by kernel_rfl) ((w81 h476 hp).mono ?_)
            rintro _ H ⟨rfl, hp⟩
            have hp : HP H (L) := hp
            refine Ro.t 7 ?_
            refine Ro.d (mkE [(4, (V.bool false))] 90) ?_
            refine Run.ret ?_
            have h := Option.some.inj h; subst h
            exact ⟨(V.bool false), (by kernel_rfl), (by kernel_rfl), hp⟩
        · subst h474; rw [if_neg (by decide)] at h
          refine RunO.h1 (n := 80) (caps := [(V.fp (E_Graph.e x0))]) (us := [(i6 x1.fTo.a1), (V.fp (E_Graph.e x0))]) (by kernel_rfl) (by kernel_rfl) (by kernel_rfl) ((w80 h473 hp).mono ?_)
          rintro _ H ⟨rfl, hp⟩
          have hp : HP H (L) := hp
          refine Ro.t 11 ?_
          refine Ro.d (mkE [(4, (V.bool false))] 90) ?_
          refine Run.ret ?_
          have h := Option.some.inj h; subst h
          exact ⟨(V.bool false), (by kernel_rfl), (by kernel_rfl), hp⟩
      · subst h471; rw [if_neg (by decide)] at h
        refine RunO.h1 (n := 80) (caps := [(V.fp (E_Graph.e x0))]) (us := [(i6 x1.fTo.a0), (V.fp (E_Graph.e x0))]) (by kernel_rfl) (by kernel_rfl) (by kernel_rfl) ((w80 h470 hp).mono ?_)
        rintro _ H ⟨rfl, hp⟩
        have hp : HP H (L) := hp
        refine Ro.t 17 ?_
        refine Ro.d (mkE [(4, (V.bool false))] 90) ?_
        refine Run.ret ?_
        have h := Option.some.inj h; subst h
        exact ⟨(V.bool false), (by kernel_rfl), (by kernel_rfl), hp⟩
    · rw [ite_f h468] at h; refine Rn.f h468 ?_
      refine Rn.g ?_
      refine Ro.t 2 ?_
      refine Ro.d (mkE [(2, (V.fp (E_Graph.e x0))), (0, (V.fp (E_Term.e x1))), (2, (V.fn 81 [(V.fp (E_Term.e x1)), (V.fp (E_Graph.e x0))])), (3, (V.int .u8 x1.fKind)), (46, (V.bool (x1.fKind == (3 : Int))))] 37) ?_
      rcases tf (x1.fKind == (3 : Int)) with h478 | h478
      · rw [ite_t h478] at h; refine Rn.t h478 ?_
        refine Rn.g ?_
        refine Ro.t 3 ?_
        obtain ⟨y479, h480, h⟩ := bind_some h
        rcases tf y479 with h481 | h481
        · subst h481; rw [if_pos rfl] at h
          refine RunO.h1 (n := 81) (caps := [(V.fp (E_Term.e x1)), (V.fp (E_Graph.e x0))]) (us := [(V.int .u8 x0.fResult), (V.fp (E_Term.e x1)), (V.fp (E_Graph.e x0))]) (by kernel_rfl) (by kernel_rfl) (by kernel_rfl) ((w81 h480 hp).mono ?_)
          rintro _ H ⟨rfl, hp⟩
          have hp : HP H (L) := hp
          refine Ro.t 4 ?_
          rcases tf (decide (x1.fTo = (⟨(0 : Int), (0 : Int)⟩ : T_2int))) with h482 | h482
          · rw [ite_t h482] at h; refine Ro.p (Eq.trans (eqs_2int false x1.fTo (⟨(0 : Int), (0 : Int)⟩ : T_2int)) (bool_of h482)) ?_
            refine Ro.t 7 ?_
            refine Ro.d (mkE [(4, (V.bool (x1.fTrap == (0 : Int))))] 90) ?_
            refine Run.ret ?_
            have h := Option.some.inj h; subst h
            exact ⟨(V.bool (x1.fTrap == (0 : Int))), (by kernel_rfl), (by kernel_rfl), hp⟩
          · rw [ite_f h482] at h; refine Ro.p (Eq.trans (eqs_2int false x1.fTo (⟨(0 : Int), (0 : Int)⟩ : T_2int)) (bool_of h482)) ?_
            refine Ro.t 7 ?_
            refine Ro.d (mkE [(4, (V.bool false))] 90) ?_
            refine Run.ret ?_
            have h := Option.some.inj h; subst h
            exact ⟨(V.bool false), (by kernel_rfl), (by kernel_rfl), hp⟩
        · subst h481; rw [if_neg (by decide)] at h
          refine RunO.h1 (n := 81) (caps := [(V.fp (E_Term.e x1)), (V.fp (E_Graph.e x0))]) (us := [(V.int .u8 x0.fResult), (V.fp (E_Term.e x1)), (V.fp (E_Graph.e x0))]) (by kernel_rfl) (by kernel_rfl) (by kernel_rfl) ((w81 h480 hp).mono ?_)
          rintro _ H ⟨rfl, hp⟩
          have hp : HP H (L) := hp
          refine Ro.t 12 ?_
          refine Ro.d (mkE [(4, (V.bool false))] 90) ?_
          refine Run.ret ?_
          have h := Option.some.inj h; subst h
          exact ⟨(V.bool false), (by kernel_rfl), (by kernel_rfl), hp⟩
      · rw [ite_f h478] at h; refine Rn.f h478 ?_
        refine Rn.g ?_
        refine Ro.t 2 ?_
        refine Ro.d (mkE [(3, (V.fp (E_Term.e x1))), (70, (V.bool (x1.fKind == (4 : Int))))] 20) ?_
        rcases tf (x1.fKind == (4 : Int)) with h483 | h483
        · rw [ite_t h483] at h; refine Rn.t h483 ?_
          refine Rn.g ?_
          refine Ro.t 2 ?_
          rcases tf (decide (x1.fTrap ≥ (1 : Int))) with h484 | h484
          · rw [ite_t h484] at h; refine Ro.p (bool_of h484) ?_
            refine Ro.t 3 ?_
            rcases tf (decide (x1.fTrap ≤ (3 : Int))) with h485 | h485
            · rw [ite_t h485] at h; refine Ro.p (bool_of h485) ?_
              refine Ro.t 4 ?_
              rcases tf (x1.fArg == (0 : Int)) with h486 | h486
              · rw [ite_t h486] at h; refine Ro.p (bool_of h486) ?_
                refine Ro.t 5 ?_
                refine Ro.p (eqs_2int false x1.fTo (⟨(0 : Int), (0 : Int)⟩ : T_2int)) ?_
                refine Ro.t 2 ?_
                refine Ro.d (mkE [(4, (V.bool (decide (x1.fTo = (⟨(0 : Int), (0 : Int)⟩ : T_2int)))))] 90) ?_
                refine Run.ret ?_
                have h := Option.some.inj h; subst h
                exact ⟨(V.bool (decide (x1.fTo = (⟨(0 : Int), (0 : Int)⟩ : T_2int)))), (by kernel_rfl), (by kernel_rfl), hp⟩
              · rw [ite_f h486] at h; refine Ro.p (bool_of h486) ?_
                refine Ro.t 8 ?_
                refine Ro.d (mkE [(4, (V.bool false))] 90) ?_
                refine Run.ret ?_
                have h := Option.some.inj h; subst h
                exact ⟨(V.bool false), (by kernel_rfl), (by kernel_rfl), hp⟩
            · rw [ite_f h485] at h; refine Ro.p (bool_of h485) ?_
              refine Ro.t 13 ?_
              refine Ro.d (mkE [(4, (V.bool false))] 90) ?_
              refine Run.ret ?_
              have h := Option.some.inj h; subst h
              exact ⟨(V.bool false), (by kernel_rfl), (by kernel_rfl), hp⟩
          · rw [ite_f h484] at h; refine Ro.p (bool_of h484) ?_
            refine Ro.t 17 ?_
            refine Ro.d (mkE [(4, (V.bool false))] 90) ?_
            refine Run.ret ?_
            have h := Option.some.inj h; subst h
            exact ⟨(V.bool false), (by kernel_rfl), (by kernel_rfl), hp⟩
        · rw [ite_f h483] at h; refine Rn.f h483 ?_
          refine Run.skip ?_
          refine Rn.c (mkE [] 95) ?_
          refine Rn.g ?_
          refine Ro.t 1 ?_
          refine Ro.d (mkE [(4, (V.bool false))] 90) ?_
          refine Run.ret ?_
          have h := Option.some.inj h; subst h
          exact ⟨(V.bool false), (by kernel_rfl), (by kernel_rfl), hp⟩

theorem c60 {x0 : T_Graph} {x1 : T_Term} {r : Bool} (h : F60 x0 x1 = some r) (s : Bool) : Fn T 60 [(E_Graph.e x0), (E_Term.e x1)] [] (fun v hh => deep s hh deepN v = some (EB.e r)) := by
  refine (w60 h HP.nil).mono ?_
  rintro v hh ⟨rfl, hp⟩
  exact EB.hd s hh 38 _ (.inr rfl)

/- smithy/graph.joined -/
abbrev Q61 (L : List Ob) (r : Bool) : V → Heap → Prop := fun v h => v = EB.e r ∧ HP h (L)
abbrev RR61 (L : List Ob) (r : Bool) : List V → Heap → Prop := fun e h => endR none [4] (Q61 L r) e h

abbrev I61_1 (x0 : T_Block) (x1 : Int) (L : List Ob) : ((List Int) × Int) → List V → Heap → Prop := fun s e h => ∃ o612 : Option (Nat × Nat), ∃ q613 : List V, e = (mkE [(1, (i6 x1)), (3, (slv (EI .i64).z (EI .i64).ag (List.length s.1) o612)), (3, (Zl E_Ins x0.fIns)), (0, (i6 (ln x0.fIns))), (0, (i6 s.2))] 30) ∧ HP h ((o612, List.flatMap (EI .i64).c s.1 ++ q613) :: L)

abbrev J61_1 (x0 : T_Block) (x1 : Int) (L : List Ob) : Unit → Nat → List V → Heap → Prop := fun a i e h => i = 0 ∧ clrEnv [1, 2, 4, 5, 6, 7, 8, 9, 10, 11, 12, 13, 14, 15, 16, 17, 18, 19, 20, 21, 22, 23, 24, 25, 26, 27, 28, 29, 30, 31, 32, 33, 34, 35, 36, 37, 38, 39, 40, 41] e = (mkE [] 42) ∧ HP h (L)

def F61_j1 (x0 : T_Block) (x1 : Int) (y614 : Int) (l676 : (List Int)) : Option (Stp ((List Int) × Int) Bool Unit) :=
  some (.next (l676, (IntKind.i64.wrap (y614 + (1 : Int)))))

theorem w61_j1 {x0 : T_Block} {x1 : Int} {y614 : Int} {l676 : (List Int)} {t : (Stp ((List Int) × Int) Bool Unit)} (h : F61_j1 x0 x1 y614 l676 = some t) {o677 : Option (Nat × Nat)} {q678 : List V} {H : Heap} {L : List Ob} (hp : HP H ((o677, List.flatMap (EI .i64).c l676 ++ q678) :: L)) :
    Run T (.rgn i61r19) (mkE [(1, (i6 x1)), (3, (slv (EI .i64).z (EI .i64).ag (List.length l676) o677)), (3, (Zl E_Ins x0.fIns)), (0, (i6 (ln x0.fIns))), (0, (i6 y614))] 30) H (stp [4, 6, 7, 12, 13, 14, 15, 16, 17, 18, 19, 20, 21, 22, 23, 24, 25, 26, 27, 28, 29, 30, 31, 32, 33, 34, 35, 36, 37, 38, 39, 40, 41] (I61_1 x0 x1 L) (RR61 L) (J61_1 x0 x1 L) t) := by
  unfold F61_j1 at h
  refine Run.rgn ?_
  refine Ro.t 2 ?_
  refine RunO.nil ?_
  have h := Option.some.inj h; subst h
  show I61_1 x0 x1 L _ _ _
  exact ⟨o677, q678, (by kernel_rfl), hp⟩

def F61_1_b (x0 : T_Block) (x1 : Int) (l611 : (List Int)) (y614 : Int) : Option (Stp ((List Int) × Int) Bool Unit) :=
  if (decide (y614 < ((List.length x0.fIns : Nat) : Int))) then
    (idx x0.fIns y614).bind fun y679 =>
    if (y679.fKind != (1 : Int)) then
      F61_j1 x0 x1 y614 (l611)
    else
      if (y614 != ((List.length l611 : Nat) : Int)) then
        some (.ret false)
      else
        if (((List.length y679.fArgs : Nat) : Int) != x1) then
          some (.ret false)
        else
          (F79 l611 y679.fDst).bind fun y691 =>
          if y691 then
            some (.ret false)
          else
            (more 8 l611 ([y679.fDst] : List Int)).bind fun y694 =>
            F61_j1 x0 x1 y614 (y694)
  else
    some (.go ())

theorem w61_1_b {x0 : T_Block} {x1 : Int} {l611 : (List Int)} {y614 : Int} {t : (Stp ((List Int) × Int) Bool Unit)} (h : F61_1_b x0 x1 l611 y614 = some t) {o612 : Option (Nat × Nat)} {q613 : List V} {H : Heap} {L : List Ob} (hp : HP H ((o612, List.flatMap (EI .i64).c l611 ++ q613) :: L)) :
    Run T i61n22 (mkE [(1, (i6 x1)), (3, (slv (EI .i64).z (EI .i64).ag (List.length l611) o612)), (3, (Zl E_Ins x0.fIns)), (0, (i6 (ln x0.fIns))), (0, (i6 y614))] 30) H (stp [4, 6, 7, 12, 13, 14, 15, 16, 17, 18, 19, 20, 21, 22, 23, 24, 25, 26, 27, 28, 29, 30, 31, 32, 33, 34, 35, 36, 37, 38, 39, 40, 41] (I61_1 x0 x1 L) (RR61 L) (J61_1 x0 x1 L) t) := by
  unfold F61_1_b at h
  refine Rn.g ?_
  refine Ro.t 1 ?_
  refine Ro.d (mkE [(1, (i6 x1)), (3, (slv (EI .i64).z (EI .i64).ag (List.length l611) o612)), (3, (Zl E_Ins x0.fIns)), (0, (i6 (ln x0.fIns))), (0, (i6 y614)), (0, (V.bool (decide (y614 < (ln x0.fIns)))))] 29) ?_
  refine Run.seq ?_
  rcases tf (decide (y614 < (ln x0.fIns))) with h657 | h657
  · rw [ite_t h657] at h; refine Rn.t h657 ?_
    refine Run.skip ?_
    refine Rn.c (mkE [(1, (i6 x1)), (3, (slv (EI .i64).z (EI .i64).ag (List.length l611) o612)), (3, (Zl E_Ins x0.fIns)), (0, (i6 (ln x0.fIns))), (0, (i6 y614))] 30) ?_
    refine Run.seq ?_
    refine Run.block ?_
    refine Rn.g ?_
    refine Ro.t 1 ?_
    obtain ⟨y679, h680, h⟩ := bind_some h
    refine Ro.p (idx_fz E_Ins .i64 h680) ?_
    refine Ro.t 1 ?_
    refine RunO.alloc hp (by kernel_rfl) ?_
    intro b681 H hp
    have hp : HP H ((some (b681, 0), [(V.int .u8 (0 : Int)), (V.int .u8 (0 : Int)), (i6 (0 : Int)), (V.fz (List.map (EI .i64).e ([] : List Int))), (V.int .u64 (0 : Int)), (i6 (0 : Int))]) :: (o612, List.flatMap (EI .i64).c l611 ++ q613) :: L) := hp
    refine Ro.t 1 ?_
    refine RunO.st hp (by kernel_rfl) 0 (off := 0) (v := (E_Ins.e y679)) (cs' := [(V.int .u8 y679.fKind), (V.int .u8 y679.fOp), (i6 y679.fDst), (Zl (EI .i64) y679.fArgs), (V.int .u64 y679.fBits), (i6 y679.fRef)]) rfl (by kernel_rfl) (by kernel_rfl) (by kernel_rfl) ?_
    intro H hp
    refine Ro.d (mkE [(1, (i6 x1)), (3, (slv (EI .i64).z (EI .i64).ag (List.length l611) o612)), (0, (i6 y614)), (0, (V.ptr b681 0 0)), (1, (Zl E_Ins x0.fIns)), (0, (i6 (ln x0.fIns))), (0, (i6 y614))] 30) ?_
    refine Run.seq ?_
    refine Rn.g ?_
    refine Ro.t 1 ?_
    refine Ro.p (hp.ld 0 (off := 0) (n := none) (v := (V.int .u8 y679.fKind)) rfl (by kernel_rfl)) ?_
    refine Ro.t 1 ?_
    refine Ro.d (mkE [(1, (i6 x1)), (3, (slv (EI .i64).z (EI .i64).ag (List.length l611) o612)), (0, (i6 y614)), (0, (V.ptr b681 0 0)), (1, (Zl E_Ins x0.fIns)), (0, (i6 (ln x0.fIns))), (0, (i6 y614)), (6, (V.bool (y679.fKind != (1 : Int))))] 23) ?_
    rcases tf (y679.fKind != (1 : Int)) with h683 | h683
    · rw [ite_t h683] at h; refine Rn.t h683 ?_
      refine Run.exit ?_
      refine Run.clrE (ts := [4, 6, 7, 13, 14, 15, 16, 17, 18, 19, 20, 21, 22, 23, 24, 25, 26, 27, 28, 29, 30, 31, 32, 33, 34, 35, 36, 37, 38, 39, 40]) (b := (.rgn i61r19)) (Q := (stp [4, 6, 7, 12, 13, 14, 15, 16, 17, 18, 19, 20, 21, 22, 23, 24, 25, 26, 27, 28, 29, 30, 31, 32, 33, 34, 35, 36, 37, 38, 39, 40, 41] (I61_1 x0 x1 L) (RR61 L) (J61_1 x0 x1 L) t)) (e' := (mkE [(1, (i6 x1)), (3, (slv (EI .i64).z (EI .i64).ag (List.length l611) o612)), (3, (Zl E_Ins x0.fIns)), (0, (i6 (ln x0.fIns))), (0, (i6 y614))] 30)) (by kernel_rfl) ?_
      have hp := hp.del 0
      exact w61_j1 h hp
    · rw [ite_f h683] at h; refine Rn.f h683 ?_
      refine Run.skip ?_
      refine Rn.c (mkE [(1, (i6 x1)), (3, (slv (EI .i64).z (EI .i64).ag (List.length l611) o612)), (0, (i6 y614)), (0, (V.ptr b681 0 0)), (1, (Zl E_Ins x0.fIns)), (0, (i6 (ln x0.fIns))), (0, (i6 y614))] 30) ?_
      refine Run.seq ?_
      refine Rn.g ?_
      refine Ro.t 2 ?_
      refine Ro.p (own_len (EI .i64) hp 1 rfl) ?_
      rcases tf (y614 != (ln l611)) with h689 | h689
      · rw [ite_t h689] at h; refine Ro.p (bool_of h689) ?_
        refine Ro.t 13 ?_
        refine Ro.d (mkE [(1, (i6 x1)), (3, (slv (EI .i64).z (EI .i64).ag (List.length l611) o612)), (1, (V.ptr b681 0 0)), (1, (Zl E_Ins x0.fIns)), (0, (i6 (ln x0.fIns))), (0, (i6 y614)), (23, (V.bool true))] 6) ?_
        refine Run.condT (by kernel_rfl) ?_
        refine Rn.g ?_
        refine Ro.t 1 ?_
        refine Ro.d (mkE [(4, (V.bool false))] 37) ?_
        refine Run.ret ?_
        have h := Option.some.inj h; subst h
        show RR61 L _ _ _
        have hp := hp.del 1
        have hp := hp.del 0
        exact ⟨(V.bool false), (by kernel_rfl), (by kernel_rfl), hp⟩
      · rw [ite_f h689] at h; refine Ro.p (bool_of h689) ?_
        refine Ro.t 2 ?_
        refine Ro.p (hp.ld 0 (off := 3) (n := none) (v := (Zl (EI .i64) y679.fArgs)) rfl (by kernel_rfl)) ?_
        refine Ro.p (len_fz (EI .i64) y679.fArgs) ?_
        refine Ro.t 1 ?_
        rcases tf ((ln y679.fArgs) != x1) with h690 | h690
        · rw [ite_t h690] at h; refine Ro.p (bool_of h690) ?_
          refine Ro.t 7 ?_
          refine Ro.d (mkE [(1, (i6 x1)), (3, (slv (EI .i64).z (EI .i64).ag (List.length l611) o612)), (1, (V.ptr b681 0 0)), (1, (Zl E_Ins x0.fIns)), (0, (i6 (ln x0.fIns))), (0, (i6 y614)), (23, (V.bool true))] 6) ?_
          refine Run.condT (by kernel_rfl) ?_
          refine Rn.g ?_
          refine Ro.t 1 ?_
          refine Ro.d (mkE [(4, (V.bool false))] 37) ?_
          refine Run.ret ?_
          have h := Option.some.inj h; subst h
          show RR61 L _ _ _
          have hp := hp.del 1
          have hp := hp.del 0
          exact ⟨(V.bool false), (by kernel_rfl), (by kernel_rfl), hp⟩
        · rw [ite_f h690] at h; refine Ro.p (bool_of h690) ?_
          refine Ro.t 4 ?_
          refine Ro.p (hp.ld 0 (off := 2) (n := none) (v := (i6 y679.fDst)) rfl (by kernel_rfl)) ?_
          obtain ⟨y691, h692, h⟩ := bind_some h
          refine RunO.c1 (by kernel_rfl) (omape (l' := [(slv (EI .i64).z (EI .i64).ag (List.length l611) o612), (i6 y679.fDst)]) (by kernel_rfl) (omapc (own_deep (EI .i64) hp 1 rfl false (.inl rfl) 36) (omapc (by kernel_rfl) omapn))) (c79 h692 _) ?_
          refine Ro.t 1 ?_
          refine Ro.d (mkE [(1, (i6 x1)), (3, (slv (EI .i64).z (EI .i64).ag (List.length l611) o612)), (1, (V.ptr b681 0 0)), (1, (Zl E_Ins x0.fIns)), (0, (i6 (ln x0.fIns))), (0, (i6 y614)), (23, (V.bool y691))] 6) ?_
          rcases tf y691 with h693 | h693
          · rw [ite_t h693] at h; refine Rn.t h693 ?_
            refine Rn.g ?_
            refine Ro.t 1 ?_
            refine Ro.d (mkE [(4, (V.bool false))] 37) ?_
            refine Run.ret ?_
            have h := Option.some.inj h; subst h
            show RR61 L _ _ _
            have hp := hp.del 1
            have hp := hp.del 0
            exact ⟨(V.bool false), (by kernel_rfl), (by kernel_rfl), hp⟩
          · rw [ite_f h693] at h; refine Rn.f h693 ?_
            refine Run.skip ?_
            refine Run.clrE (ts := [4, 6, 19, 20, 21, 22, 23, 24, 25, 26, 27, 28, 29, 30, 31, 32, 33, 34, 35]) (b := (.rgn i61r14)) (Q := (blk 1 (thn T (.clr [4, 6, 7, 13, 14, 15, 16, 17, 18, 19, 20, 21, 22, 23, 24, 25, 26, 27, 28, 29, 30, 31, 32, 33, 34, 35, 36, 37, 38, 39, 40] (.rgn i61r19)) (stp [4, 6, 7, 12, 13, 14, 15, 16, 17, 18, 19, 20, 21, 22, 23, 24, 25, 26, 27, 28, 29, 30, 31, 32, 33, 34, 35, 36, 37, 38, 39, 40, 41] (I61_1 x0 x1 L) (RR61 L) (J61_1 x0 x1 L) t)))) (e' := (mkE [(1, (i6 x1)), (3, (slv (EI .i64).z (EI .i64).ag (List.length l611) o612)), (1, (V.ptr b681 0 0)), (1, (Zl E_Ins x0.fIns)), (0, (i6 (ln x0.fIns))), (0, (i6 y614))] 30)) (by kernel_rfl) ?_
            refine Run.rgn ?_
            refine Ro.t 2 ?_
            refine Ro.p (hp.ld 0 (off := 2) (n := none) (v := (i6 y679.fDst)) rfl (by kernel_rfl)) ?_
            refine Ro.t 1 ?_
            obtain ⟨y694, h695, h⟩ := bind_some h
            refine RunO.app1 (EI .i64) hp (by kernel_rfl) 1 (o := o612) (l := l611) (rest := q613) (m := ([y679.fDst] : List Int)) rfl (by kernel_rfl) (by kernel_rfl) ((EI .i64).new_fz _ ([y679.fDst] : List Int)) (by kernel_rfl) (by kernel_rfl) h695 ?_
            intro o696 H hp
            have hp : HP H ((some (b681, 0), [(V.int .u8 y679.fKind), (V.int .u8 y679.fOp), (i6 y679.fDst), (Zl (EI .i64) y679.fArgs), (V.int .u64 y679.fBits), (i6 y679.fRef)]) :: (o696, List.flatMap (EI .i64).c y694 ++ []) :: L) := hp
            refine Ro.t 1 ?_
            refine RunO.nil ?_
            refine Run.clrE (ts := [4, 6, 7, 13, 14, 15, 16, 17, 18, 19, 20, 21, 22, 23, 24, 25, 26, 27, 28, 29, 30, 31, 32, 33, 34, 35, 36, 37, 38, 39, 40]) (b := (.rgn i61r19)) (Q := (stp [4, 6, 7, 12, 13, 14, 15, 16, 17, 18, 19, 20, 21, 22, 23, 24, 25, 26, 27, 28, 29, 30, 31, 32, 33, 34, 35, 36, 37, 38, 39, 40, 41] (I61_1 x0 x1 L) (RR61 L) (J61_1 x0 x1 L) t)) (e' := (mkE [(1, (i6 x1)), (3, (slv (EI .i64).z (EI .i64).ag (List.length y694) o696)), (3, (Zl E_Ins x0.fIns)), (0, (i6 (ln x0.fIns))), (0, (i6 y614))] 30)) (by kernel_rfl) ?_
            have hp := hp.del 0
            exact w61_j1 h hp
  · rw [ite_f h657] at h; refine Rn.f h657 ?_
    refine Run.exit ?_
    have h := Option.some.inj h; subst h
    have hp := hp.del 0
    show J61_1 x0 x1 L () _ _ _
    exact ⟨rfl, (by kernel_rfl), hp⟩

def F61 (x0 : T_Block) (x1 : Int) : Option Bool :=
  (iter (fun s : ((List Int) × Int) => F61_1_b x0 x1 s.1 s.2) FUEL ([], (0 : Int))).bind fun o => match o with
  | .ret r => some r
  | .go () =>
    some true

theorem w61 {x0 : T_Block} {x1 : Int} {r : Bool} (h : F61 x0 x1 = some r) {H : Heap} {L : List Ob} (hp : HP H (L)) : Fn T 61 [(E_Block.e x0), (i6 x1)] H (Q61 L r) := by
  refine Fn.enterE t61 (e0 := (mkE [(0, (E_Block.e x0)), (0, (i6 x1))] 40)) (by kernel_rfl) ?_
  show Run T (.clr [] i61n30) _ _ (finE none [4] (Q61 L r))
  refine Rn.k (mkE [(0, (E_Block.e x0)), (0, (i6 x1))] 40) ?_
  unfold F61 at h
  refine Rn.g ?_
  refine Ro.t 2 ?_
  refine Ro.d (mkE [(1, (i6 x1)), (0, (V.fp (E_Block.e x0)))] 39) ?_
  refine Rn.g ?_
  refine Ro.t 1 ?_
  refine Ro.d (mkE [(1, (i6 x1)), (0, (V.fp (E_Block.e x0))), (2, V.nils)] 36) ?_
  refine Run.seq ?_
  refine Rn.g ?_
  refine Ro.t 2 ?_
  refine Ro.p (len_fz E_Ins x0.fIns) ?_
  refine Ro.t 1 ?_
  refine Ro.d (mkE [(1, (i6 x1)), (3, V.nils), (3, (Zl E_Ins x0.fIns)), (0, (i6 (ln x0.fIns))), (0, (i6 (0 : Int)))] 30) ?_
  refine Run.block ?_
  obtain ⟨o, h697, h⟩ := bind_some h
  have hp := hp.non
  refine (Run.iter (I := I61_1 x0 x1 L) (RR := RR61 L) (J := J61_1 x0 x1 L) (fun s e h' t hI hf => ?_) FUEL h697 (by exact ⟨none, [], (by kernel_rfl), hp⟩)).mono ?_
  · obtain ⟨_, _, rfl, hp⟩ := hI; exact w61_1_b hf hp
  · rintro X e' H hq
    cases o with
    | ret r => cases X <;> first | exact hq.elim | (cases h; exact hq)
    | go a => 
      cases X with | nrm => exact hq.elim | ret => exact hq.elim | ext i => ?_
      obtain ⟨rfl, he, hp⟩ := hq
      dsimp only at h
      refine Run.clrE (ts := [1, 2, 4, 5, 6, 7, 8, 9, 10, 11, 12, 13, 14, 15, 16, 17, 18, 19, 20, 21, 22, 23, 24, 25, 26, 27, 28, 29, 30, 31, 32, 33, 34, 35, 36, 37, 38, 39, 40, 41]) (b := i61n27) (Q := (finE none [4] (Q61 L r))) he ?_
      refine Rn.g ?_
      refine Ro.t 1 ?_
      refine Ro.d (mkE [(4, (V.bool true))] 37) ?_
      refine Run.ret ?_
      have h := Option.some.inj h; subst h
      exact ⟨(V.bool true), (by kernel_rfl), (by kernel_rfl), hp⟩

theorem c61 {x0 : T_Block} {x1 : Int} {r : Bool} (h : F61 x0 x1 = some r) (s : Bool) : Fn T 61 [(E_Block.e x0), (i6 x1)] [] (fun v hh => deep s hh deepN v = some (EB.e r)) := by
  refine (w61 h HP.nil).mono ?_
  rintro v hh ⟨rfl, hp⟩
  exact EB.hd s hh 38 _ (.inr rfl)

/- smithy/graph.formed$1 -/
abbrev Q72 (L : List Ob) (r : Bool) : V → Heap → Prop := fun v h => v = EB.e r ∧ HP h (L)
abbrev RR72 (L : List Ob) (r : Bool) : List V → Heap → Prop := fun e h => endR none [3] (Q72 L r) e h

def F72 (x0 : Int) (x1 : T_Graph) : Option Bool :=
  (F34 x0 ((List.length x1.fVars : Nat) : Int)).bind fun y804 =>
  some (!y804)

theorem w72 {x0 : Int} {x1 : T_Graph} {r : Bool} (h : F72 x0 x1 = some r) {H : Heap} {L : List Ob} (hp : HP H (L)) : Fn T 72 [(i6 x0), (V.fp (E_Graph.e x1))] H (Q72 L r) := by
  refine Fn.enterE t72 (e0 := (mkE [(0, (i6 x0)), (0, (V.fp (E_Graph.e x1)))] 8)) (by kernel_rfl) ?_
  show Run T (.clr [] i72n3) _ _ (finE none [3] (Q72 L r))
  refine Rn.k (mkE [(0, (i6 x0)), (0, (V.fp (E_Graph.e x1)))] 8) ?_
  unfold F72 at h
  refine Rn.g ?_
  refine Ro.t 1 ?_
  refine Ro.d (mkE [(0, (i6 x0)), (0, (V.fp (E_Graph.e x1)))] 8) ?_
  refine Rn.g ?_
  refine Ro.t 3 ?_
  refine Ro.p (len_fz (EI .u8) x1.fVars) ?_
  obtain ⟨y804, h805, h⟩ := bind_some h
  refine RunO.c1 (by kernel_rfl) (by kernel_rfl) (c34 h805 _) ?_
  refine Ro.t 2 ?_
  refine Ro.d (mkE [(3, (V.bool (!y804)))] 6) ?_
  refine Run.ret ?_
  have h := Option.some.inj h; subst h
  exact ⟨(V.bool (!y804)), (by kernel_rfl), (by kernel_rfl), hp⟩

theorem c72 {x0 : Int} {x1 : T_Graph} {r : Bool} (h : F72 x0 x1 = some r) (s : Bool) : Fn T 72 [(i6 x0), (V.fp (E_Graph.e x1))] [] (fun v hh => deep s hh deepN v = some (EB.e r)) := by
  refine (w72 h HP.nil).mono ?_
  rintro v hh ⟨rfl, hp⟩
  exact EB.hd s hh 38 _ (.inr rfl)

/- slices.IndexFunc[[]int,int] -/
abbrev Q89 (L : List Ob) (r : Int) : V → Heap → Prop := fun v h => v = (EI .i64).e r ∧ HP h (L)
abbrev RR89 (L : List Ob) (r : Int) : List V → Heap → Prop := fun e h => endR none [4] (Q89 L r) e h

abbrev I89_1 (x0 : (List Int)) (x1 : T_Graph) (L : List Ob) : (Int) → List V → Heap → Prop := fun s e h => e = (mkE [(0, (Zl (EI .i64) x0)), (0, (V.fn 72 [(V.fp (E_Graph.e x1))])), (5, (i6 (ln x0))), (0, (i6 s))] 10) ∧ HP h (L)

abbrev J89_1 (x0 : (List Int)) (x1 : T_Graph) (L : List Ob) : Unit → Nat → List V → Heap → Prop := fun a i e h => i = 0 ∧ clrEnv [0, 1, 4, 5, 6, 7, 8, 9, 10, 11, 12, 13, 14, 15, 16, 17, 18] e = (mkE [] 19) ∧ HP h (L)

def F89_1_b (x0 : (List Int)) (x1 : T_Graph) (y839 : Int) : Option (Stp (Int) Int Unit) :=
  if (decide (y839 < ((List.length x0 : Nat) : Int))) then
    (idx x0 y839).bind fun y859 =>
    (F72 y859 x1).bind fun y861 =>
    if y861 then
      some (.ret y839)
    else
      some (.next ((IntKind.i64.wrap (y839 + (1 : Int)))))
  else
    some (.go ())

theorem w89_1_b {x0 : (List Int)} {x1 : T_Graph} {y839 : Int} {t : (Stp (Int) Int Unit)} (h : F89_1_b x0 x1 y839 = some t) {H : Heap} {L : List Ob} (hp : HP H (L)) :
    Run T i89n15 (mkE [(0, (Zl (EI .i64) x0)), (0, (V.fn 72 [(V.fp (E_Graph.e x1))])), (5, (i6 (ln x0))), (0, (i6 y839))] 10) H (stp [4, 5, 9, 10, 11, 12, 13, 14, 15, 16, 17, 18] (I89_1 x0 x1 L) (RR89 L) (J89_1 x0 x1 L) t) := by
  unfold F89_1_b at h
  refine Rn.g ?_
  refine Ro.t 1 ?_
  refine Ro.d (mkE [(0, (Zl (EI .i64) x0)), (0, (V.fn 72 [(V.fp (E_Graph.e x1))])), (5, (i6 (ln x0))), (0, (i6 y839)), (0, (V.bool (decide (y839 < (ln x0)))))] 9) ?_
  refine Run.seq ?_
  rcases tf (decide (y839 < (ln x0))) with h853 | h853
  · rw [ite_t h853] at h; refine Rn.t h853 ?_
    refine Run.skip ?_
    refine Rn.c (mkE [(0, (Zl (EI .i64) x0)), (0, (V.fn 72 [(V.fp (E_Graph.e x1))])), (5, (i6 (ln x0))), (0, (i6 y839))] 10) ?_
    refine Run.seq ?_
    refine Run.block ?_
    refine Rn.g ?_
    refine Ro.t 2 ?_
    refine Ro.d (mkE [(0, (Zl (EI .i64) x0)), (0, (V.fn 72 [(V.fp (E_Graph.e x1))])), (3, (i6 y839)), (1, (i6 (ln x0))), (0, (i6 y839))] 10) ?_
    refine Rn.g ?_
    refine Ro.t 3 ?_
    obtain ⟨y859, h860, h⟩ := bind_some h
    refine Ro.p (idx_fz (EI .i64) .i64 h860) ?_
    refine Ro.t 1 ?_
    obtain ⟨y861, h862, h⟩ := bind_some h
    refine RunO.h1 (n := 72) (caps := [(V.fp (E_Graph.e x1))]) (us := [(i6 y859), (V.fp (E_Graph.e x1))]) (by kernel_rfl) (by kernel_rfl) (by kernel_rfl) ((w72 h862 hp).mono ?_)
    rintro _ H ⟨rfl, hp⟩
    have hp : HP H (L) := hp
    refine Ro.d (mkE [(0, (Zl (EI .i64) x0)), (0, (V.fn 72 [(V.fp (E_Graph.e x1))])), (3, (i6 y839)), (1, (i6 (ln x0))), (0, (i6 y839)), (7, (V.bool y861))] 2) ?_
    rcases tf y861 with h863 | h863
    · rw [ite_t h863] at h; refine Rn.t h863 ?_
      refine Rn.g ?_
      refine Ro.t 2 ?_
      refine Ro.d (mkE [(4, (i6 y839))] 14) ?_
      refine Run.ret ?_
      have h := Option.some.inj h; subst h
      show RR89 L _ _ _
      exact ⟨(i6 y839), (by kernel_rfl), (by kernel_rfl), hp⟩
    · rw [ite_f h863] at h; refine Rn.f h863 ?_
      refine Run.skip ?_
      refine Run.clrE (ts := [4, 5, 10, 11, 12, 13, 14, 15, 16, 17]) (b := (.rgn i89r12)) (Q := (stp [4, 5, 9, 10, 11, 12, 13, 14, 15, 16, 17, 18] (I89_1 x0 x1 L) (RR89 L) (J89_1 x0 x1 L) t)) (e' := (mkE [(0, (Zl (EI .i64) x0)), (0, (V.fn 72 [(V.fp (E_Graph.e x1))])), (5, (i6 (ln x0))), (0, (i6 y839))] 10)) (by kernel_rfl) ?_
      refine Run.rgn ?_
      refine Ro.t 2 ?_
      refine RunO.nil ?_
      have h := Option.some.inj h; subst h
      show I89_1 x0 x1 L _ _ _
      exact ⟨(by kernel_rfl), hp⟩
  · rw [ite_f h853] at h; refine Rn.f h853 ?_
    refine Run.exit ?_
    have h := Option.some.inj h; subst h
    show J89_1 x0 x1 L () _ _ _
    exact ⟨rfl, (by kernel_rfl), hp⟩

def F89 (x0 : (List Int)) (x1 : T_Graph) : Option Int :=
  (iter (fun s : (Int) => F89_1_b x0 x1 s) FUEL ((0 : Int))).bind fun o => match o with
  | .ret r => some r
  | .go () =>
    some (-1 : Int)

theorem w89 {x0 : (List Int)} {x1 : T_Graph} {r : Int} (h : F89 x0 x1 = some r) {H : Heap} {L : List Ob} (hp : HP H (L)) : Fn T 89 [(Zl (EI .i64) x0), (V.fn 72 [(V.fp (E_Graph.e x1))])] H (Q89 L r) := by
  refine Fn.enterE t89 (e0 := (mkE [(0, (Zl (EI .i64) x0)), (0, (V.fn 72 [(V.fp (E_Graph.e x1))]))] 17)) (by kernel_rfl) ?_
  show Run T (.clr [] i89n22) _ _ (finE none [4] (Q89 L r))
  refine Rn.k (mkE [(0, (Zl (EI .i64) x0)), (0, (V.fn 72 [(V.fp (E_Graph.e x1))]))] 17) ?_
  unfold F89 at h
  refine Rn.g ?_
  refine Ro.t 1 ?_
  refine Ro.d (mkE [(0, (Zl (EI .i64) x0)), (0, (V.fn 72 [(V.fp (E_Graph.e x1))]))] 17) ?_
  refine Run.seq ?_
  refine Rn.g ?_
  refine Ro.t 1 ?_
  refine Ro.p (len_fz (EI .i64) x0) ?_
  refine Ro.t 1 ?_
  refine Ro.d (mkE [(0, (Zl (EI .i64) x0)), (0, (V.fn 72 [(V.fp (E_Graph.e x1))])), (5, (i6 (ln x0))), (0, (i6 (0 : Int)))] 10) ?_
  refine Run.block ?_
  obtain ⟨o, h864, h⟩ := bind_some h
  refine (Run.iter (I := I89_1 x0 x1 L) (RR := RR89 L) (J := J89_1 x0 x1 L) (fun s e h' t hI hf => ?_) FUEL h864 (by exact ⟨(by kernel_rfl), hp⟩)).mono ?_
  · obtain ⟨rfl, hp⟩ := hI; exact w89_1_b hf hp
  · rintro X e' H hq
    cases o with
    | ret r => cases X <;> first | exact hq.elim | (cases h; exact hq)
    | go a => 
      cases X with | nrm => exact hq.elim | ret => exact hq.elim | ext i => ?_
      obtain ⟨rfl, he, hp⟩ := hq
      dsimp only at h
      refine Run.clrE (ts := [0, 1, 4, 5, 6, 7, 8, 9, 10, 11, 12, 13, 14, 15, 16, 17, 18]) (b := i89n20) (Q := (finE none [4] (Q89 L r))) he ?_
      refine Rn.g ?_
      refine Ro.t 1 ?_
      refine Ro.d (mkE [(4, (i6 (-1 : Int)))] 14) ?_
      refine Run.ret ?_
      have h := Option.some.inj h; subst h
      exact ⟨(i6 (-1 : Int)), (by kernel_rfl), (by kernel_rfl), hp⟩

theorem c89 {x0 : (List Int)} {x1 : T_Graph} {r : Int} (h : F89 x0 x1 = some r) (s : Bool) : Fn T 89 [(Zl (EI .i64) x0), (V.fn 72 [(V.fp (E_Graph.e x1))])] [] (fun v hh => deep s hh deepN v = some ((EI .i64).e r)) := by
  refine (w89 h HP.nil).mono ?_
  rintro v hh ⟨rfl, hp⟩
  exact (EI .i64).hd s hh 38 _ (.inr rfl)

/- slices.ContainsFunc[[]int,int] -/
abbrev Q71 (L : List Ob) (r : Bool) : V → Heap → Prop := fun v h => v = EB.e r ∧ HP h (L)
abbrev RR71 (L : List Ob) (r : Bool) : List V → Heap → Prop := fun e h => endR none [4] (Q71 L r) e h

def F71 (x0 : (List Int)) (x1 : T_Graph) : Option Bool :=
  (F89 x0 x1).bind fun y867 =>
  some (decide (y867 ≥ (0 : Int)))

theorem w71 {x0 : (List Int)} {x1 : T_Graph} {r : Bool} (h : F71 x0 x1 = some r) {H : Heap} {L : List Ob} (hp : HP H (L)) : Fn T 71 [(Zl (EI .i64) x0), (V.fn 72 [(V.fp (E_Graph.e x1))])] H (Q71 L r) := by
  refine Fn.enterE t71 (e0 := (mkE [(0, (Zl (EI .i64) x0)), (0, (V.fn 72 [(V.fp (E_Graph.e x1))]))] 7)) (by kernel_rfl) ?_
  show Run T (.clr [] i71n3) _ _ (finE none [4] (Q71 L r))
  refine Rn.k (mkE [(0, (Zl (EI .i64) x0)), (0, (V.fn 72 [(V.fp (E_Graph.e x1))]))] 7) ?_
  unfold F71 at h
  refine Rn.g ?_
  refine Ro.t 1 ?_
  refine Ro.d (mkE [(0, (Zl (EI .i64) x0)), (0, (V.fn 72 [(V.fp (E_Graph.e x1))]))] 7) ?_
  refine Rn.g ?_
  refine Ro.t 2 ?_
  obtain ⟨y867, h868, h⟩ := bind_some h
  refine RunO.c1 (by kernel_rfl) (by kernel_rfl) (c89 h868 _) ?_
  refine Ro.t 2 ?_
  refine Ro.d (mkE [(4, (V.bool (decide (y867 ≥ (0 : Int)))))] 4) ?_
  refine Run.ret ?_
  have h := Option.some.inj h; subst h
  exact ⟨(V.bool (decide (y867 ≥ (0 : Int)))), (by kernel_rfl), (by kernel_rfl), hp⟩

theorem c71 {x0 : (List Int)} {x1 : T_Graph} {r : Bool} (h : F71 x0 x1 = some r) (s : Bool) : Fn T 71 [(Zl (EI .i64) x0), (V.fn 72 [(V.fp (E_Graph.e x1))])] [] (fun v hh => deep s hh deepN v = some (EB.e r)) := by
  refine (w71 h HP.nil).mono ?_
  rintro v hh ⟨rfl, hp⟩
  exact EB.hd s hh 38 _ (.inr rfl)

/- smithy/graph.formed -/
abbrev Q51 (L : List Ob) (r : Bool) : V → Heap → Prop := fun v h => v = EB.e r ∧ HP h (L)
abbrev RR51 (L : List Ob) (r : Bool) : List V → Heap → Prop := fun e h => endR none [4] (Q51 L r) e h

def F51_j1 (x0 : T_Graph) (x1 : T_Ins) : Option Bool :=
  (F71 x1.fArgs x0).bind fun y920 =>
  some (!y920)

theorem w51_j1 {x0 : T_Graph} {x1 : T_Ins} {r : Bool} (h : F51_j1 x0 x1 = some r) {H : Heap} {L : List Ob} (hp : HP H (L)) :
    Run T i51n38 (mkE [(2, (V.fp (E_Graph.e x0))), (0, (V.fp (E_Ins.e x1)))] 93) H (finE none [4] (Q51 L r)) := by
  unfold F51_j1 at h
  refine Rn.g ?_
  refine Ro.t 3 ?_
  obtain ⟨y920, h921, h⟩ := bind_some h
  refine RunO.c1 (by kernel_rfl) (by kernel_rfl) (c71 h921 _) ?_
  refine Ro.t 2 ?_
  refine Ro.d (mkE [(4, (V.bool (!y920)))] 92) ?_
  refine Run.ret ?_
  have h := Option.some.inj h; subst h
  exact ⟨(V.bool (!y920)), (by kernel_rfl), (by kernel_rfl), hp⟩

def F51_j4 (x0 : T_Graph) (x1 : T_Ins) (y880 : T_form) (y939 : Bool) : Option Bool :=
  if y939 then
    some false
  else
    if y880.fref then
      if (x1.fKind != (9 : Int)) then
        (F34 x1.fRef ((List.length x0.fArrays : Nat) : Int)).bind fun y943 =>
        if (!y943) then
          some false
        else
          F51_j1 x0 x1
      else
        F51_j1 x0 x1
    else
      F51_j1 x0 x1

theorem w51_j4 {x0 : T_Graph} {x1 : T_Ins} {y880 : T_form} {y939 : Bool} {r : Bool} (h : F51_j4 x0 x1 y880 y939 = some r) {b882 : Nat} {H : Heap} {L : List Ob} (hp : HP H ((some (b882, 0), [(V.bool y880.fdst), (V.bool y880.fop), (V.bool y880.fbits), (V.bool y880.fref), (i6 y880.fargs)]) :: L)) :
    Run T i51n30 (mkE [(2, (V.fp (E_Graph.e x0))), (0, (V.fp (E_Ins.e x1))), (1, (V.ptr b882 0 0)), (57, (V.bool y939))] 33) H (blk 0 (thn T (.clr [4, 5, 18, 19, 20, 21, 22, 23, 24, 25, 26, 27, 28, 29, 30, 31, 32, 33, 34, 35, 36, 37, 38, 39, 40, 41, 42, 43, 44, 45, 46, 47, 48, 49, 50, 51, 52, 53, 54, 55, 56, 57, 58, 59, 60, 61, 62, 63, 64, 65, 66, 67, 68, 69, 70, 71, 72, 73, 74, 75, 76, 77, 78, 79, 80, 81, 82, 83, 84, 85, 86, 87, 88, 89, 90, 91] i51n38) (finE none [4] (Q51 L r)))) := by
  unfold F51_j4 at h
  rcases tf y939 with h940 | h940
  · rw [ite_t h940] at h; refine Rn.t h940 ?_
    refine Rn.g ?_
    refine Ro.t 1 ?_
    refine Ro.d (mkE [(4, (V.bool false))] 92) ?_
    refine Run.ret ?_
    have h := Option.some.inj h; subst h
    have hp := hp.del 0
    exact ⟨(V.bool false), (by kernel_rfl), (by kernel_rfl), hp⟩
  · rw [ite_f h940] at h; refine Rn.f h940 ?_
    refine Rn.g ?_
    refine Ro.t 1 ?_
    rcases tf y880.fref with h941 | h941
    · rw [ite_t h941] at h; refine Ro.p (Eq.trans (hp.ld 0 (off := 3) (n := none) (v := (V.bool y880.fref)) rfl (by kernel_rfl)) (bool_of h941)) ?_
      refine Ro.t 3 ?_
      rcases tf (x1.fKind != (9 : Int)) with h942 | h942
      · rw [ite_t h942] at h; refine Ro.p (bool_of h942) ?_
        refine Ro.t 6 ?_
        refine Ro.p (len_fz E_Array x0.fArrays) ?_
        obtain ⟨y943, h944, h⟩ := bind_some h
        refine RunO.c1 (by kernel_rfl) (by kernel_rfl) (c34 h944 _) ?_
        refine Ro.t 3 ?_
        refine Ro.d (mkE [(2, (V.fp (E_Graph.e x0))), (0, (V.fp (E_Ins.e x1))), (71, (V.bool (!y943)))] 21) ?_
        rcases tf (!y943) with h945 | h945
        · rw [ite_t h945] at h; refine Rn.t h945 ?_
          refine Rn.g ?_
          refine Ro.t 1 ?_
          refine Ro.d (mkE [(4, (V.bool false))] 92) ?_
          refine Run.ret ?_
          have h := Option.some.inj h; subst h
          have hp := hp.del 0
          exact ⟨(V.bool false), (by kernel_rfl), (by kernel_rfl), hp⟩
        · rw [ite_f h945] at h; refine Rn.f h945 ?_
          refine Run.skip ?_
          refine Rn.c (mkE [(2, (V.fp (E_Graph.e x0))), (0, (V.fp (E_Ins.e x1)))] 93) ?_
          have hp := hp.del 0
          exact w51_j1 h hp
      · rw [ite_f h942] at h; refine Ro.p (bool_of h942) ?_
        refine Ro.t 11 ?_
        refine Ro.d (mkE [(2, (V.fp (E_Graph.e x0))), (0, (V.fp (E_Ins.e x1))), (71, (V.bool false))] 21) ?_
        refine Run.condF (by kernel_rfl) ?_
        refine Run.skip ?_
        refine Rn.c (mkE [(2, (V.fp (E_Graph.e x0))), (0, (V.fp (E_Ins.e x1)))] 93) ?_
        have hp := hp.del 0
        exact w51_j1 h hp
    · rw [ite_f h941] at h; refine Ro.p (Eq.trans (hp.ld 0 (off := 3) (n := none) (v := (V.bool y880.fref)) rfl (by kernel_rfl)) (bool_of h941)) ?_
      refine Ro.t 15 ?_
      refine Ro.d (mkE [(2, (V.fp (E_Graph.e x0))), (0, (V.fp (E_Ins.e x1))), (71, (V.bool false))] 21) ?_
      refine Run.condF (by kernel_rfl) ?_
      refine Run.skip ?_
      refine Rn.c (mkE [(2, (V.fp (E_Graph.e x0))), (0, (V.fp (E_Ins.e x1)))] 93) ?_
      have hp := hp.del 0
      exact w51_j1 h hp

def F51_j3 (x0 : T_Graph) (x1 : T_Ins) (y880 : T_form) (y936 : Bool) : Option Bool :=
  if y936 then
    some false
  else
    if (decide (y880.fargs ≥ (0 : Int))) then
      F51_j4 x0 x1 y880 ((((List.length x1.fArgs : Nat) : Int) != y880.fargs))
    else
      F51_j4 x0 x1 y880 (false)

theorem w51_j3 {x0 : T_Graph} {x1 : T_Ins} {y880 : T_form} {y936 : Bool} {r : Bool} (h : F51_j3 x0 x1 y880 y936 = some r) {b882 : Nat} {H : Heap} {L : List Ob} (hp : HP H ((some (b882, 0), [(V.bool y880.fdst), (V.bool y880.fop), (V.bool y880.fbits), (V.bool y880.fref), (i6 y880.fargs)]) :: L)) :
    Run T i51n32 (mkE [(2, (V.fp (E_Graph.e x0))), (0, (V.fp (E_Ins.e x1))), (1, (V.ptr b882 0 0)), (32, (V.bool y936))] 58) H (blk 0 (thn T (.clr [4, 5, 18, 19, 20, 21, 22, 23, 24, 25, 26, 27, 28, 29, 30, 31, 32, 33, 34, 35, 36, 37, 38, 39, 40, 41, 42, 43, 44, 45, 46, 47, 48, 49, 50, 51, 52, 53, 54, 55, 56, 57, 58, 59, 60, 61, 62, 63, 64, 65, 66, 67, 68, 69, 70, 71, 72, 73, 74, 75, 76, 77, 78, 79, 80, 81, 82, 83, 84, 85, 86, 87, 88, 89, 90, 91] i51n38) (finE none [4] (Q51 L r)))) := by
  unfold F51_j3 at h
  rcases tf y936 with h937 | h937
  · rw [ite_t h937] at h; refine Rn.t h937 ?_
    refine Rn.g ?_
    refine Ro.t 1 ?_
    refine Ro.d (mkE [(4, (V.bool false))] 92) ?_
    refine Run.ret ?_
    have h := Option.some.inj h; subst h
    have hp := hp.del 0
    exact ⟨(V.bool false), (by kernel_rfl), (by kernel_rfl), hp⟩
  · rw [ite_f h937] at h; refine Rn.f h937 ?_
    refine Rn.g ?_
    refine Ro.t 1 ?_
    refine Ro.p (hp.ld 0 (off := 4) (n := none) (v := (i6 y880.fargs)) rfl (by kernel_rfl)) ?_
    rcases tf (decide (y880.fargs ≥ (0 : Int))) with h946 | h946
    · rw [ite_t h946] at h; refine Ro.p (bool_of h946) ?_
      refine Ro.t 3 ?_
      refine Ro.p (len_fz (EI .i64) x1.fArgs) ?_
      refine Ro.t 1 ?_
      refine Ro.p (hp.ld 0 (off := 4) (n := none) (v := (i6 y880.fargs)) rfl (by kernel_rfl)) ?_
      refine Ro.t 3 ?_
      refine Ro.d (mkE [(2, (V.fp (E_Graph.e x0))), (0, (V.fp (E_Ins.e x1))), (1, (V.ptr b882 0 0)), (57, (V.bool ((ln x1.fArgs) != y880.fargs)))] 33) ?_
      exact w51_j4 h hp
    · rw [ite_f h946] at h; refine Ro.p (bool_of h946) ?_
      refine Ro.t 9 ?_
      refine Ro.d (mkE [(2, (V.fp (E_Graph.e x0))), (0, (V.fp (E_Ins.e x1))), (1, (V.ptr b882 0 0)), (57, (V.bool false))] 33) ?_
      exact w51_j4 h hp

def F51_j5 (x0 : T_Graph) (x1 : T_Ins) (y880 : T_form) (y948 : Bool) : Option Bool :=
  if y948 then
    F51_j3 x0 x1 y880 (y948)
  else
    if y880.fbits then
      if y880.fref then
        F51_j3 x0 x1 y880 (false)
      else
        F51_j3 x0 x1 y880 ((x1.fRef != (0 : Int)))
    else
      if (x1.fBits != (0 : Int)) then
        F51_j3 x0 x1 y880 ((x1.fBits != (0 : Int)))
      else
        if y880.fref then
          F51_j3 x0 x1 y880 (false)
        else
          F51_j3 x0 x1 y880 ((x1.fRef != (0 : Int)))

theorem w51_j5 {x0 : T_Graph} {x1 : T_Ins} {y880 : T_form} {y948 : Bool} {r : Bool} (h : F51_j5 x0 x1 y880 y948 = some r) {b882 : Nat} {H : Heap} {L : List Ob} (hp : HP H ((some (b882, 0), [(V.bool y880.fdst), (V.bool y880.fop), (V.bool y880.fbits), (V.bool y880.fref), (i6 y880.fargs)]) :: L)) :
    Run T i51n18 (mkE [(2, (V.fp (E_Graph.e x0))), (0, (V.fp (E_Ins.e x1))), (1, (V.ptr b882 0 0)), (32, (V.bool y948))] 58) H (thn T (.clr [18, 39, 40, 41, 42, 43, 44, 45, 46, 47, 48, 49, 50, 51, 52, 53, 54, 55, 56, 57, 58, 59, 60, 61, 62] i51n32) (blk 0 (thn T (.clr [4, 5, 18, 19, 20, 21, 22, 23, 24, 25, 26, 27, 28, 29, 30, 31, 32, 33, 34, 35, 36, 37, 38, 39, 40, 41, 42, 43, 44, 45, 46, 47, 48, 49, 50, 51, 52, 53, 54, 55, 56, 57, 58, 59, 60, 61, 62, 63, 64, 65, 66, 67, 68, 69, 70, 71, 72, 73, 74, 75, 76, 77, 78, 79, 80, 81, 82, 83, 84, 85, 86, 87, 88, 89, 90, 91] i51n38) (finE none [4] (Q51 L r))))) := by
  unfold F51_j5 at h
  rcases tf y948 with h949 | h949
  · rw [ite_t h949] at h; refine Rn.t h949 ?_
    refine Run.skip ?_
    refine Rn.c (mkE [(2, (V.fp (E_Graph.e x0))), (0, (V.fp (E_Ins.e x1))), (1, (V.ptr b882 0 0)), (32, (V.bool y948))] 58) ?_
    exact w51_j3 h hp
  · rw [ite_f h949] at h; refine Rn.f h949 ?_
    refine Rn.g ?_
    refine Ro.t 1 ?_
    rcases tf y880.fbits with h950 | h950
    · rw [ite_t h950] at h; refine Ro.p (Eq.trans (hp.ld 0 (off := 2) (n := none) (v := (V.bool y880.fbits)) rfl (by kernel_rfl)) (bool_of h950)) ?_
      refine Ro.t 7 ?_
      refine Ro.d (mkE [(2, (V.fp (E_Graph.e x0))), (0, (V.fp (E_Ins.e x1))), (1, (V.ptr b882 0 0)), (32, (V.bool false))] 58) ?_
      refine Run.condF (by kernel_rfl) ?_
      refine Run.rgn ?_
      refine Ro.t 1 ?_
      rcases tf y880.fref with h951 | h951
      · rw [ite_t h951] at h; refine Ro.p (Eq.trans (hp.ld 0 (off := 3) (n := none) (v := (V.bool y880.fref)) rfl (by kernel_rfl)) (bool_of h951)) ?_
        refine Ro.t 7 ?_
        refine Ro.d (mkE [(2, (V.fp (E_Graph.e x0))), (0, (V.fp (E_Ins.e x1))), (1, (V.ptr b882 0 0)), (32, (V.bool false))] 58) ?_
        exact w51_j3 h hp
      · rw [ite_f h951] at h; refine Ro.p (Eq.trans (hp.ld 0 (off := 3) (n := none) (v := (V.bool y880.fref)) rfl (by kernel_rfl)) (bool_of h951)) ?_
        refine Ro.t 7 ?_
        refine Ro.d (mkE [(2, (V.fp (E_Graph.e x0))), (0, (V.fp (E_Ins.e x1))), (1, (V.ptr b882 0 0)), (32, (V.bool (x1.fRef != (0 : Int))))] 58) ?_
        exact w51_j3 h hp
    · rw [ite_f h950] at h; refine Ro.p (Eq.trans (hp.ld 0 (off := 2) (n := none) (v := (V.bool y880.fbits)) rfl (by kernel_rfl)) (bool_of h950)) ?_
      refine Ro.t 7 ?_
      refine Ro.d (mkE [(2, (V.fp (E_Graph.e x0))), (0, (V.fp (E_Ins.e x1))), (1, (V.ptr b882 0 0)), (32, (V.bool (x1.fBits != (0 : Int))))] 58) ?_
      rcases tf (x1.fBits != (0 : Int)) with h952 | h952
      · rw [ite_t h952] at h; refine Rn.t h952 ?_
        refine Run.skip ?_
        refine Rn.c (mkE [(2, (V.fp (E_Graph.e x0))), (0, (V.fp (E_Ins.e x1))), (1, (V.ptr b882 0 0)), (32, (V.bool (x1.fBits != (0 : Int))))] 58) ?_
        exact w51_j3 h hp
      · rw [ite_f h952] at h; refine Rn.f h952 ?_
        refine Run.rgn ?_
        refine Ro.t 1 ?_
        rcases tf y880.fref with h953 | h953
        · rw [ite_t h953] at h; refine Ro.p (Eq.trans (hp.ld 0 (off := 3) (n := none) (v := (V.bool y880.fref)) rfl (by kernel_rfl)) (bool_of h953)) ?_
          refine Ro.t 7 ?_
          refine Ro.d (mkE [(2, (V.fp (E_Graph.e x0))), (0, (V.fp (E_Ins.e x1))), (1, (V.ptr b882 0 0)), (32, (V.bool false))] 58) ?_
          exact w51_j3 h hp
        · rw [ite_f h953] at h; refine Ro.p (Eq.trans (hp.ld 0 (off := 3) (n := none) (v := (V.bool y880.fref)) rfl (by kernel_rfl)) (bool_of h953)) ?_
          refine Ro.t 7 ?_
          refine Ro.d (mkE [(2, (V.fp (E_Graph.e x0))), (0, (V.fp (E_Ins.e x1))), (1, (V.ptr b882 0 0)), (32, (V.bool (x1.fRef != (0 : Int))))] 58) ?_
          exact w51_j3 h hp

def F51_j2 (x0 : T_Graph) (x1 : T_Ins) (y880 : T_form) (y926 : Bool) : Option Bool :=
  if y926 then
    some false
  else
    if y880.fop then
      F51_j5 x0 x1 y880 (false)
    else
      F51_j5 x0 x1 y880 ((x1.fOp != (0 : Int)))

theorem w51_j2 {x0 : T_Graph} {x1 : T_Ins} {y880 : T_form} {y926 : Bool} {r : Bool} (h : F51_j2 x0 x1 y880 y926 = some r) {b882 : Nat} {H : Heap} {L : List Ob} (hp : HP H ((some (b882, 0), [(V.bool y880.fdst), (V.bool y880.fop), (V.bool y880.fbits), (V.bool y880.fref), (i6 y880.fargs)]) :: L)) :
    Run T i51n34 (mkE [(2, (V.fp (E_Graph.e x0))), (0, (V.fp (E_Ins.e x1))), (1, (V.ptr b882 0 0)), (12, (V.bool y926))] 78) H (blk 0 (thn T (.clr [4, 5, 18, 19, 20, 21, 22, 23, 24, 25, 26, 27, 28, 29, 30, 31, 32, 33, 34, 35, 36, 37, 38, 39, 40, 41, 42, 43, 44, 45, 46, 47, 48, 49, 50, 51, 52, 53, 54, 55, 56, 57, 58, 59, 60, 61, 62, 63, 64, 65, 66, 67, 68, 69, 70, 71, 72, 73, 74, 75, 76, 77, 78, 79, 80, 81, 82, 83, 84, 85, 86, 87, 88, 89, 90, 91] i51n38) (finE none [4] (Q51 L r)))) := by
  unfold F51_j2 at h
  rcases tf y926 with h927 | h927
  · rw [ite_t h927] at h; refine Rn.t h927 ?_
    refine Rn.g ?_
    refine Ro.t 1 ?_
    refine Ro.d (mkE [(4, (V.bool false))] 92) ?_
    refine Run.ret ?_
    have h := Option.some.inj h; subst h
    have hp := hp.del 0
    exact ⟨(V.bool false), (by kernel_rfl), (by kernel_rfl), hp⟩
  · rw [ite_f h927] at h; refine Rn.f h927 ?_
    refine Run.seq ?_
    refine Rn.g ?_
    refine Ro.t 1 ?_
    rcases tf y880.fop with h954 | h954
    · rw [ite_t h954] at h; refine Ro.p (Eq.trans (hp.ld 0 (off := 1) (n := none) (v := (V.bool y880.fop)) rfl (by kernel_rfl)) (bool_of h954)) ?_
      refine Ro.t 7 ?_
      refine Ro.d (mkE [(2, (V.fp (E_Graph.e x0))), (0, (V.fp (E_Ins.e x1))), (1, (V.ptr b882 0 0)), (32, (V.bool false))] 58) ?_
      exact w51_j5 h hp
    · rw [ite_f h954] at h; refine Ro.p (Eq.trans (hp.ld 0 (off := 1) (n := none) (v := (V.bool y880.fop)) rfl (by kernel_rfl)) (bool_of h954)) ?_
      refine Ro.t 7 ?_
      refine Ro.d (mkE [(2, (V.fp (E_Graph.e x0))), (0, (V.fp (E_Ins.e x1))), (1, (V.ptr b882 0 0)), (32, (V.bool (x1.fOp != (0 : Int))))] 58) ?_
      exact w51_j5 h hp

def F51 (x0 : T_Graph) (x1 : T_Ins) : Option Bool :=
  if (decide (x1.fKind < (1 : Int))) then
    some false
  else
    if (decide (x1.fKind > (10 : Int))) then
      some false
    else
      (idx G0 x1.fKind).bind fun y880 =>
      if y880.fdst then
        (F34 x1.fDst ((List.length x0.fVars : Nat) : Int)).bind fun y956 =>
        F51_j2 x0 x1 y880 ((!y956))
      else
        if (x1.fDst != (0 : Int)) then
          F51_j2 x0 x1 y880 ((x1.fDst != (0 : Int)))
        else
          F51_j2 x0 x1 y880 (false)

theorem w51 {x0 : T_Graph} {x1 : T_Ins} {r : Bool} (h : F51 x0 x1 = some r) {H : Heap} {L : List Ob} (hp : HP H (L)) : Fn T 51 [(E_Graph.e x0), (E_Ins.e x1)] H (Q51 L r) := by
  refine Fn.enterE t51 (e0 := (mkE [(0, (E_Graph.e x0)), (0, (E_Ins.e x1))] 95)) (by kernel_rfl) ?_
  show Run T (.clr [] i51n42) _ _ (finE none [4] (Q51 L r))
  refine Rn.k (mkE [(0, (E_Graph.e x0)), (0, (E_Ins.e x1))] 95) ?_
  unfold F51 at h
  refine Rn.g ?_
  refine Ro.t 3 ?_
  refine Ro.d (mkE [(2, (V.fp (E_Graph.e x0))), (0, (V.fp (E_Ins.e x1)))] 93) ?_
  refine Run.seq ?_
  refine Rn.g ?_
  refine Ro.t 2 ?_
  rcases tf (decide (x1.fKind < (1 : Int))) with h878 | h878
  · rw [ite_t h878] at h; refine Ro.p (bool_of h878) ?_
    refine Ro.t 5 ?_
    refine Ro.d (mkE [(2, (V.fp (E_Graph.e x0))), (0, (V.fp (E_Ins.e x1))), (9, (V.bool true))] 83) ?_
    refine Run.condT (by kernel_rfl) ?_
    refine Rn.g ?_
    refine Ro.t 1 ?_
    refine Ro.d (mkE [(4, (V.bool false))] 92) ?_
    refine Run.ret ?_
    have h := Option.some.inj h; subst h
    exact ⟨(V.bool false), (by kernel_rfl), (by kernel_rfl), hp⟩
  · rw [ite_f h878] at h; refine Ro.p (bool_of h878) ?_
    refine Ro.t 5 ?_
    refine Ro.d (mkE [(2, (V.fp (E_Graph.e x0))), (0, (V.fp (E_Ins.e x1))), (9, (V.bool (decide (x1.fKind > (10 : Int)))))] 83) ?_
    rcases tf (decide (x1.fKind > (10 : Int))) with h879 | h879
    · rw [ite_t h879] at h; refine Rn.t h879 ?_
      refine Rn.g ?_
      refine Ro.t 1 ?_
      refine Ro.d (mkE [(4, (V.bool false))] 92) ?_
      refine Run.ret ?_
      have h := Option.some.inj h; subst h
      exact ⟨(V.bool false), (by kernel_rfl), (by kernel_rfl), hp⟩
    · rw [ite_f h879] at h; refine Rn.f h879 ?_
      refine Run.skip ?_
      refine Rn.c (mkE [(2, (V.fp (E_Graph.e x0))), (0, (V.fp (E_Ins.e x1)))] 93) ?_
      refine Rn.g ?_
      refine Ro.t 2 ?_
      obtain ⟨y880, h881, h⟩ := bind_some h
      refine Ro.p (idxp_fp E_form (l := G0) .u8 (n := 11) (cs := [V.bool false, V.bool false, V.bool false, V.bool false, i6 0, V.bool true, V.bool false, V.bool false, V.bool false, i6 (-1), V.bool true, V.bool false, V.bool true, V.bool false, i6 0, V.bool true, V.bool false, V.bool false, V.bool false, i6 1, V.bool true, V.bool true, V.bool false, V.bool false, i6 (-1), V.bool true, V.bool false, V.bool false, V.bool false, i6 1, V.bool true, V.bool false, V.bool false, V.bool true, i6 1, V.bool false, V.bool false, V.bool false, V.bool true, i6 2, V.bool false, V.bool false, V.bool false, V.bool true, i6 0, V.bool true, V.bool false, V.bool false, V.bool true, i6 (-1), V.bool false, V.bool false, V.bool false, V.bool false, i6 1]) (by kernel_rfl) (by kernel_rfl) h881) ?_
      refine Ro.t 1 ?_
      refine RunO.alloc hp (by kernel_rfl) ?_
      intro b882 H hp
      have hp : HP H ((some (b882, 0), [(V.bool false), (V.bool false), (V.bool false), (V.bool false), (i6 (0 : Int))]) :: L) := hp
      refine RunO.st hp (by kernel_rfl) 0 (off := 0) (v := (E_form.e y880)) (cs' := [(V.bool y880.fdst), (V.bool y880.fop), (V.bool y880.fbits), (V.bool y880.fref), (i6 y880.fargs)]) rfl (by kernel_rfl) (by kernel_rfl) (by kernel_rfl) ?_
      intro H hp
      refine Ro.d (mkE [(2, (V.fp (E_Graph.e x0))), (0, (V.fp (E_Ins.e x1))), (1, (V.ptr b882 0 0))] 91) ?_
      refine Run.seq ?_
      refine Run.block ?_
      refine Run.seq ?_
      refine Rn.g ?_
      refine Ro.t 1 ?_
      rcases tf y880.fdst with h955 | h955
      · rw [ite_t h955] at h; refine Ro.p (Eq.trans (hp.ld 0 (off := 0) (n := none) (v := (V.bool y880.fdst)) rfl (by kernel_rfl)) (bool_of h955)) ?_
        refine Ro.t 7 ?_
        refine Ro.d (mkE [(2, (V.fp (E_Graph.e x0))), (0, (V.fp (E_Ins.e x1))), (1, (V.ptr b882 0 0)), (12, (V.bool false))] 78) ?_
        refine Run.condF (by kernel_rfl) ?_
        refine Run.rgn ?_
        refine Ro.t 1 ?_
        refine Ro.p (Eq.trans (hp.ld 0 (off := 0) (n := none) (v := (V.bool y880.fdst)) rfl (by kernel_rfl)) (bool_of h955)) ?_
        refine Ro.t 5 ?_
        refine Ro.p (len_fz (EI .u8) x0.fVars) ?_
        obtain ⟨y956, h957, h⟩ := bind_some h
        refine RunO.c1 (by kernel_rfl) (by kernel_rfl) (c34 h957 _) ?_
        refine Ro.t 3 ?_
        refine Ro.d (mkE [(2, (V.fp (E_Graph.e x0))), (0, (V.fp (E_Ins.e x1))), (1, (V.ptr b882 0 0)), (12, (V.bool (!y956)))] 78) ?_
        exact w51_j2 h hp
      · rw [ite_f h955] at h; refine Ro.p (Eq.trans (hp.ld 0 (off := 0) (n := none) (v := (V.bool y880.fdst)) rfl (by kernel_rfl)) (bool_of h955)) ?_
        refine Ro.t 7 ?_
        refine Ro.d (mkE [(2, (V.fp (E_Graph.e x0))), (0, (V.fp (E_Ins.e x1))), (1, (V.ptr b882 0 0)), (12, (V.bool (x1.fDst != (0 : Int))))] 78) ?_
        rcases tf (x1.fDst != (0 : Int)) with h958 | h958
        · rw [ite_t h958] at h; refine Rn.t h958 ?_
          refine Run.skip ?_
          refine Rn.c (mkE [(2, (V.fp (E_Graph.e x0))), (0, (V.fp (E_Ins.e x1))), (1, (V.ptr b882 0 0)), (12, (V.bool (x1.fDst != (0 : Int))))] 78) ?_
          exact w51_j2 h hp
        · rw [ite_f h958] at h; refine Rn.f h958 ?_
          refine Run.rgn ?_
          refine Ro.t 1 ?_
          refine Ro.p (Eq.trans (hp.ld 0 (off := 0) (n := none) (v := (V.bool y880.fdst)) rfl (by kernel_rfl)) (bool_of h955)) ?_
          refine Ro.t 10 ?_
          refine Ro.d (mkE [(2, (V.fp (E_Graph.e x0))), (0, (V.fp (E_Ins.e x1))), (1, (V.ptr b882 0 0)), (12, (V.bool false))] 78) ?_
          exact w51_j2 h hp

theorem c51 {x0 : T_Graph} {x1 : T_Ins} {r : Bool} (h : F51 x0 x1 = some r) (s : Bool) : Fn T 51 [(E_Graph.e x0), (E_Ins.e x1)] [] (fun v hh => deep s hh deepN v = some (EB.e r)) := by
  refine (w51 h HP.nil).mono ?_
  rintro v hh ⟨rfl, hp⟩
  exact EB.hd s hh 38 _ (.inr rfl)

/- smithy/graph.types -/
abbrev Q52 (L : List Ob) (r : (List Int)) : V → Heap → Prop := fun v h => ∃ (o0 : Option (Nat × Nat)) (q0 : List V), v = slv (EI .u8).z (EI .u8).ag (List.length r) o0 ∧ HP h ((o0, List.flatMap (EI .u8).c r ++ q0) :: L)
abbrev RR52 (L : List Ob) (r : (List Int)) : List V → Heap → Prop := fun e h => endR none [4] (Q52 L r) e h

abbrev I52_1 (x0 : T_Graph) (x1 : (List Int)) (L : List Ob) : ((List Int) × Int) → List V → Heap → Prop := fun s e h => ∃ o1024 : Option (Nat × Nat), ∃ q1025 : List V, e = (mkE [(2, (V.fp (E_Graph.e x0))), (2, (slv (EI .u8).z (EI .u8).ag (List.length s.1) o1024)), (5, (Zl (EI .i64) x1)), (0, (i6 (ln x1))), (0, (i6 s.2))] 14) ∧ HP h ((o1024, List.flatMap (EI .u8).c s.1 ++ q1025) :: L)

abbrev J52_1 (x0 : T_Graph) (x1 : (List Int)) (L : List Ob) : ((List Int)) → Nat → List V → Heap → Prop := fun a i e h => i = 0 ∧ ∃ o1043 : Option (Nat × Nat), ∃ q1044 : List V, clrEnv [1, 2, 6, 7, 11, 12, 13, 14, 15, 16, 17, 18, 19, 20, 21, 22, 23, 24, 25, 26] e = (mkE [(5, (slv (EI .u8).z (EI .u8).ag (List.length a) o1043))] 22) ∧ HP h ((o1043, List.flatMap (EI .u8).c a ++ q1044) :: L)

def F52_1_b (x0 : T_Graph) (x1 : (List Int)) (l1023 : (List Int)) (y1026 : Int) : Option (Stp ((List Int) × Int) (List Int) ((List Int))) :=
  if (decide (y1026 < ((List.length x1 : Nat) : Int))) then
    (idx x1 y1026).bind fun y1047 =>
    (idx x0.fVars y1047).bind fun y1049 =>
    (idx l1023 y1026).bind fun y1051 =>
    (upd l1023 y1026 y1049).bind fun y1057 =>
    some (.next (y1057, (IntKind.i64.wrap (y1026 + (1 : Int)))))
  else
    some (.go (l1023))

theorem w52_1_b {x0 : T_Graph} {x1 : (List Int)} {l1023 : (List Int)} {y1026 : Int} {t : (Stp ((List Int) × Int) (List Int) ((List Int)))} (h : F52_1_b x0 x1 l1023 y1026 = some t) {o1024 : Option (Nat × Nat)} {q1025 : List V} {H : Heap} {L : List Ob} (hp : HP H ((o1024, List.flatMap (EI .u8).c l1023 ++ q1025) :: L)) :
    Run T i52n12 (mkE [(2, (V.fp (E_Graph.e x0))), (2, (slv (EI .u8).z (EI .u8).ag (List.length l1023) o1024)), (5, (Zl (EI .i64) x1)), (0, (i6 (ln x1))), (0, (i6 y1026))] 14) H (stp [6, 7, 14, 15, 16, 17, 18, 19, 20, 21, 22, 23, 24, 25, 26] (I52_1 x0 x1 L) (RR52 L) (J52_1 x0 x1 L) t) := by
  unfold F52_1_b at h
  refine Rn.g ?_
  refine Ro.t 1 ?_
  refine Ro.d (mkE [(2, (V.fp (E_Graph.e x0))), (2, (slv (EI .u8).z (EI .u8).ag (List.length l1023) o1024)), (5, (Zl (EI .i64) x1)), (0, (i6 (ln x1))), (0, (i6 y1026)), (0, (V.bool (decide (y1026 < (ln x1)))))] 13) ?_
  refine Run.seq ?_
  rcases tf (decide (y1026 < (ln x1))) with h1046 | h1046
  · rw [ite_t h1046] at h; refine Rn.t h1046 ?_
    refine Run.skip ?_
    refine Rn.c (mkE [(2, (V.fp (E_Graph.e x0))), (2, (slv (EI .u8).z (EI .u8).ag (List.length l1023) o1024)), (5, (Zl (EI .i64) x1)), (0, (i6 (ln x1))), (0, (i6 y1026))] 14) ?_
    refine Run.seq ?_
    refine Run.block ?_
    refine Rn.g ?_
    refine Ro.t 1 ?_
    obtain ⟨y1047, h1048, h⟩ := bind_some h
    refine Ro.p (idx_fz (EI .i64) .i64 h1048) ?_
    refine Ro.t 3 ?_
    refine Ro.d (mkE [(2, (V.fp (E_Graph.e x0))), (2, (slv (EI .u8).z (EI .u8).ag (List.length l1023) o1024)), (0, (i6 y1026)), (0, (i6 y1047)), (3, (Zl (EI .i64) x1)), (0, (i6 (ln x1))), (0, (i6 y1026))] 14) ?_
    refine Run.rgn ?_
    refine Ro.t 5 ?_
    obtain ⟨y1049, h1050, h⟩ := bind_some h
    refine Ro.p (idx_fz (EI .u8) .i64 h1050) ?_
    refine Ro.t 1 ?_
    obtain ⟨y1051, h1052, h⟩ := bind_some h
    obtain ⟨b1053, g1054, h1055, h1056⟩ := own_idx (EI .u8) hp 0 rfl h1052
    subst h1055
    refine Ro.p (h1056 .i64) ?_
    obtain ⟨y1057, h1058, h⟩ := bind_some h
    refine RunO.st hp (by kernel_rfl) 0 rfl (by kernel_rfl) (by kernel_rfl) (own_st (EI .u8) (a := y1049) h1058) ?_
    intro H hp
    have h1059 := upd_len h1058; rw [← h1059]
    refine RunO.nil ?_
    refine Run.clrE (ts := [6, 7, 15, 16, 17, 18, 19, 20, 21, 22, 23, 24, 25]) (b := (.rgn i52r9)) (Q := (stp [6, 7, 14, 15, 16, 17, 18, 19, 20, 21, 22, 23, 24, 25, 26] (I52_1 x0 x1 L) (RR52 L) (J52_1 x0 x1 L) t)) (e' := (mkE [(2, (V.fp (E_Graph.e x0))), (2, (slv (EI .u8).z (EI .u8).ag (List.length y1057) (some (b1053, g1054)))), (5, (Zl (EI .i64) x1)), (0, (i6 (ln x1))), (0, (i6 y1026))] 14)) (by kernel_rfl) ?_
    refine Run.rgn ?_
    refine Ro.t 2 ?_
    refine RunO.nil ?_
    have h := Option.some.inj h; subst h
    show I52_1 x0 x1 L _ _ _
    exact ⟨(some (b1053, g1054)), q1025, (by kernel_rfl), hp⟩
  · rw [ite_f h1046] at h; refine Rn.f h1046 ?_
    refine Run.exit ?_
    have h := Option.some.inj h; subst h
    show J52_1 x0 x1 L _ _ _ _
    exact ⟨rfl, o1024, q1025, (by kernel_rfl), hp⟩

def F52 (x0 : T_Graph) (x1 : (List Int)) : Option (List Int) :=
  (made 1 ((0 : Int) : Int) ((List.length x1 : Nat) : Int)).bind fun y1005 =>
  (iter (fun s : ((List Int) × Int) => F52_1_b x0 x1 s.1 s.2) FUEL (y1005, (0 : Int))).bind fun o => match o with
  | .ret r => some r
  | .go (l1042) =>
    some l1042

theorem w52 {x0 : T_Graph} {x1 : (List Int)} {r : (List Int)} (h : F52 x0 x1 = some r) {H : Heap} {L : List Ob} (hp : HP H (L)) : Fn T 52 [(E_Graph.e x0), (Zl (EI .i64) x1)] H (Q52 L r) := by
  refine Fn.enterE t52 (e0 := (mkE [(0, (E_Graph.e x0)), (0, (Zl (EI .i64) x1))] 26)) (by kernel_rfl) ?_
  show Run T (.clr [] i52n20) _ _ (finE none [4] (Q52 L r))
  refine Rn.k (mkE [(0, (E_Graph.e x0)), (0, (Zl (EI .i64) x1))] 26) ?_
  unfold F52 at h
  refine Rn.g ?_
  refine Ro.t 2 ?_
  refine Ro.d (mkE [(1, (Zl (EI .i64) x1)), (0, (V.fp (E_Graph.e x0)))] 25) ?_
  refine Rn.g ?_
  refine Ro.t 1 ?_
  refine Ro.p (len_fz (EI .i64) x1) ?_
  obtain ⟨y1005, h1006, h⟩ := bind_some h
  refine RunO.mks1 (EI .u8) hp (by kernel_rfl) (by kernel_rfl) (by kernel_rfl) (by kernel_rfl) (by kernel_rfl) (by kernel_rfl) h1006 ?_
  intro b1007 H hp
  refine Ro.t 1 ?_
  refine Ro.d (mkE [(1, (Zl (EI .i64) x1)), (0, (V.fp (E_Graph.e x0))), (2, (slv (EI .u8).z (EI .u8).ag (List.length y1005) (some (b1007, 0))))] 22) ?_
  refine Run.seq ?_
  refine Rn.g ?_
  refine Ro.t 1 ?_
  refine Ro.p (len_fz (EI .i64) x1) ?_
  refine Ro.t 1 ?_
  refine Ro.d (mkE [(2, (V.fp (E_Graph.e x0))), (2, (slv (EI .u8).z (EI .u8).ag (List.length y1005) (some (b1007, 0)))), (5, (Zl (EI .i64) x1)), (0, (i6 (ln x1))), (0, (i6 (0 : Int)))] 14) ?_
  refine Run.block ?_
  obtain ⟨o, h1060, h⟩ := bind_some h
  refine (Run.iter (I := I52_1 x0 x1 L) (RR := RR52 L) (J := J52_1 x0 x1 L) (fun s e h' t hI hf => ?_) FUEL h1060 (by exact ⟨(some (b1007, 0)), [], (by kernel_rfl), hp⟩)).mono ?_
  · obtain ⟨_, _, rfl, hp⟩ := hI; exact w52_1_b hf hp
  · rintro X e' H hq
    cases o with
    | ret r => cases X <;> first | exact hq.elim | (cases h; exact hq)
    | go l1042 => 
      cases X with | nrm => exact hq.elim | ret => exact hq.elim | ext i => ?_
      obtain ⟨rfl, o1043, q1044, he, hp⟩ := hq
      dsimp only at h
      refine Run.clrE (ts := [1, 2, 6, 7, 11, 12, 13, 14, 15, 16, 17, 18, 19, 20, 21, 22, 23, 24, 25, 26]) (b := i52n17) (Q := (finE none [4] (Q52 L r))) he ?_
      refine Rn.g ?_
      refine Ro.t 2 ?_
      refine Ro.d (mkE [(4, (slv (EI .u8).z (EI .u8).ag (List.length l1042) o1043))] 23) ?_
      refine Run.ret ?_
      have h := Option.some.inj h; subst h
      exact ⟨(slv (EI .u8).z (EI .u8).ag (List.length l1042) o1043), (by kernel_rfl), _, _, (by kernel_rfl), hp⟩

theorem c52 {x0 : T_Graph} {x1 : (List Int)} {r : (List Int)} (h : F52 x0 x1 = some r) (s : Bool) : Fn T 52 [(E_Graph.e x0), (Zl (EI .i64) x1)] [] (fun v hh => deep s hh deepN v = some ((EL (EI .u8)).e r)) := by
  refine (w52 h HP.nil).mono ?_
  rintro v hh ⟨o0, q0, rfl, hp⟩
  exact own_deep (EI .u8) hp 0 rfl s (.inr rfl) 36

/- smithy/graph.Type$1 -/
abbrev Q54 (b1086 : Nat) (x1 : Int) (L : List Ob) (r : Bool) : V → Heap → Prop := fun v h => v = EB.e r ∧ HP h ((some (b1086, 0), [(V.int .u8 x1)]) :: L)
abbrev RR54 (b1086 : Nat) (x1 : Int) (L : List Ob) (r : Bool) : List V → Heap → Prop := fun e h => endR none [3] (Q54 b1086 x1 L r) e h

def F54 (x0 : Int) (x1 : Int) : Option Bool :=
  some (x0 != x1)

theorem w54 {x0 : Int} {x1 : Int} {r : Bool} (h : F54 x0 x1 = some r) {b1086 : Nat} {H : Heap} {L : List Ob} (hp : HP H ((some (b1086, 0), [(V.int .u8 x1)]) :: L)) : Fn T 54 [(V.int .u8 x0), (V.ptr b1086 0 0)] H (Q54 b1086 x1 L r) := by
  refine Fn.enterE t54 (e0 := (mkE [(0, (V.int .u8 x0)), (0, (V.ptr b1086 0 0))] 5)) (by kernel_rfl) ?_
  show Run T (.clr [] i54n3) _ _ (finE none [3] (Q54 b1086 x1 L r))
  refine Rn.k (mkE [(0, (V.int .u8 x0)), (0, (V.ptr b1086 0 0))] 5) ?_
  unfold F54 at h
  refine Rn.g ?_
  refine Ro.t 1 ?_
  refine Ro.d (mkE [(0, (V.int .u8 x0)), (0, (V.ptr b1086 0 0))] 5) ?_
  refine Rn.g ?_
  refine Ro.t 1 ?_
  refine Ro.p (hp.ld 0 (off := 0) (n := none) (v := (V.int .u8 x1)) rfl (by kernel_rfl)) ?_
  refine Ro.t 2 ?_
  refine Ro.d (mkE [(3, (V.bool (x0 != x1)))] 3) ?_
  refine Run.ret ?_
  have h := Option.some.inj h; subst h
  exact ⟨(V.bool (x0 != x1)), (by kernel_rfl), (by kernel_rfl), hp⟩

/- slices.IndexFunc[[]smithy/api.Type,smithy/api.Type] -/
abbrev Q73 (b1081 : Nat) (x1 : Int) (L : List Ob) (r : Int) : V → Heap → Prop := fun v h => v = (EI .i64).e r ∧ HP h ((some (b1081, 0), [(V.int .u8 x1)]) :: L)
abbrev RR73 (b1081 : Nat) (x1 : Int) (L : List Ob) (r : Int) : List V → Heap → Prop := fun e h => endR none [4] (Q73 b1081 x1 L r) e h

abbrev I73_1 (x0 : (List Int)) (x1 : Int) (b1081 : Nat) (L : List Ob) : (Int) → List V → Heap → Prop := fun s e h => e = (mkE [(0, (Zl (EI .u8) x0)), (0, (V.fn 54 [(V.ptr b1081 0 0)])), (5, (i6 (ln x0))), (0, (i6 s))] 10) ∧ HP h ((some (b1081, 0), [(V.int .u8 x1)]) :: L)

abbrev J73_1 (x0 : (List Int)) (x1 : Int) (b1081 : Nat) (L : List Ob) : Unit → Nat → List V → Heap → Prop := fun a i e h => i = 0 ∧ clrEnv [0, 1, 4, 5, 6, 7, 8, 9, 10, 11, 12, 13, 14, 15, 16, 17, 18] e = (mkE [] 19) ∧ HP h ((some (b1081, 0), [(V.int .u8 x1)]) :: L)

def F73_1_b (x0 : (List Int)) (x1 : Int) (y1120 : Int) : Option (Stp (Int) Int Unit) :=
  if (decide (y1120 < ((List.length x0 : Nat) : Int))) then
    (idx x0 y1120).bind fun y1140 =>
    (F54 y1140 x1).bind fun y1142 =>
    if y1142 then
      some (.ret y1120)
    else
      some (.next ((IntKind.i64.wrap (y1120 + (1 : Int)))))
  else
    some (.go ())

theorem w73_1_b {x0 : (List Int)} {x1 : Int} {y1120 : Int} {t : (Stp (Int) Int Unit)} (h : F73_1_b x0 x1 y1120 = some t) {b1081 : Nat} {H : Heap} {L : List Ob} (hp : HP H ((some (b1081, 0), [(V.int .u8 x1)]) :: L)) :
    Run T i73n15 (mkE [(0, (Zl (EI .u8) x0)), (0, (V.fn 54 [(V.ptr b1081 0 0)])), (5, (i6 (ln x0))), (0, (i6 y1120))] 10) H (stp [4, 5, 9, 10, 11, 12, 13, 14, 15, 16, 17, 18] (I73_1 x0 x1 b1081 L) (RR73 b1081 x1 L) (J73_1 x0 x1 b1081 L) t) := by
  unfold F73_1_b at h
  refine Rn.g ?_
  refine Ro.t 1 ?_
  refine Ro.d (mkE [(0, (Zl (EI .u8) x0)), (0, (V.fn 54 [(V.ptr b1081 0 0)])), (5, (i6 (ln x0))), (0, (i6 y1120)), (0, (V.bool (decide (y1120 < (ln x0)))))] 9) ?_
  refine Run.seq ?_
  rcases tf (decide (y1120 < (ln x0))) with h1134 | h1134
  · rw [ite_t h1134] at h; refine Rn.t h1134 ?_
    refine Run.skip ?_
    refine Rn.c (mkE [(0, (Zl (EI .u8) x0)), (0, (V.fn 54 [(V.ptr b1081 0 0)])), (5, (i6 (ln x0))), (0, (i6 y1120))] 10) ?_
    refine Run.seq ?_
    refine Run.block ?_
    refine Rn.g ?_
    refine Ro.t 2 ?_
    refine Ro.d (mkE [(0, (Zl (EI .u8) x0)), (0, (V.fn 54 [(V.ptr b1081 0 0)])), (3, (i6 y1120)), (1, (i6 (ln x0))), (0, (i6 y1120))] 10) ?_
    refine Rn.g ?_
    refine Ro.t 3 ?_
    obtain ⟨y1140, h1141, h⟩ := bind_some h
    refine Ro.p (idx_fz (EI .u8) .i64 h1141) ?_
    refine Ro.t 1 ?_
    obtain ⟨y1142, h1143, h⟩ := bind_some h
    have hp : HP _ ((some (b1081, 0), [(V.int .u8 x1)]) :: L) := hp
    refine RunO.h1 (n := 54) (caps := [(V.ptr b1081 0 0)]) (us := [(V.int .u8 y1140), (V.ptr b1081 0 0)]) (by kernel_rfl) (by kernel_rfl) (by kernel_rfl) ((w54 h1143 hp).mono ?_)
    rintro _ H ⟨rfl, hp⟩
    have hp : HP H ((some (b1081, 0), [(V.int .u8 x1)]) :: L) := hp
    refine Ro.d (mkE [(0, (Zl (EI .u8) x0)), (0, (V.fn 54 [(V.ptr b1081 0 0)])), (3, (i6 y1120)), (1, (i6 (ln x0))), (0, (i6 y1120)), (7, (V.bool y1142))] 2) ?_
    rcases tf y1142 with h1144 | h1144
    · rw [ite_t h1144] at h; refine Rn.t h1144 ?_
      refine Rn.g ?_
      refine Ro.t 2 ?_
      refine Ro.d (mkE [(4, (i6 y1120))] 14) ?_
      refine Run.ret ?_
      have h := Option.some.inj h; subst h
      show RR73 b1081 x1 L _ _ _
      exact ⟨(i6 y1120), (by kernel_rfl), (by kernel_rfl), hp⟩
    · rw [ite_f h1144] at h; refine Rn.f h1144 ?_
      refine Run.skip ?_
      refine Run.clrE (ts := [4, 5, 10, 11, 12, 13, 14, 15, 16, 17]) (b := (.rgn i73r12)) (Q := (stp [4, 5, 9, 10, 11, 12, 13, 14, 15, 16, 17, 18] (I73_1 x0 x1 b1081 L) (RR73 b1081 x1 L) (J73_1 x0 x1 b1081 L) t)) (e' := (mkE [(0, (Zl (EI .u8) x0)), (0, (V.fn 54 [(V.ptr b1081 0 0)])), (5, (i6 (ln x0))), (0, (i6 y1120))] 10)) (by kernel_rfl) ?_
      refine Run.rgn ?_
      refine Ro.t 2 ?_
      refine RunO.nil ?_
      have h := Option.some.inj h; subst h
      show I73_1 x0 x1 b1081 L _ _ _
      exact ⟨(by kernel_rfl), hp⟩
  · rw [ite_f h1134] at h; refine Rn.f h1134 ?_
    refine Run.exit ?_
    have h := Option.some.inj h; subst h
    show J73_1 x0 x1 b1081 L () _ _ _
    exact ⟨rfl, (by kernel_rfl), hp⟩

def F73 (x0 : (List Int)) (x1 : Int) : Option Int :=
  (iter (fun s : (Int) => F73_1_b x0 x1 s) FUEL ((0 : Int))).bind fun o => match o with
  | .ret r => some r
  | .go () =>
    some (-1 : Int)

theorem w73 {x0 : (List Int)} {x1 : Int} {r : Int} (h : F73 x0 x1 = some r) {b1081 : Nat} {H : Heap} {L : List Ob} (hp : HP H ((some (b1081, 0), [(V.int .u8 x1)]) :: L)) : Fn T 73 [(Zl (EI .u8) x0), (V.fn 54 [(V.ptr b1081 0 0)])] H (Q73 b1081 x1 L r) := by
  refine Fn.enterE t73 (e0 := (mkE [(0, (Zl (EI .u8) x0)), (0, (V.fn 54 [(V.ptr b1081 0 0)]))] 17)) (by kernel_rfl) ?_
  show Run T (.clr [] i73n22) _ _ (finE none [4] (Q73 b1081 x1 L r))
  refine Rn.k (mkE [(0, (Zl (EI .u8) x0)), (0, (V.fn 54 [(V.ptr b1081 0 0)]))] 17) ?_
  unfold F73 at h
  refine Rn.g ?_
  refine Ro.t 1 ?_
  refine Ro.d (mkE [(0, (Zl (EI .u8) x0)), (0, (V.fn 54 [(V.ptr b1081 0 0)]))] 17) ?_
  refine Run.seq ?_
  refine Rn.g ?_
  refine Ro.t 1 ?_
  refine Ro.p (len_fz (EI .u8) x0) ?_
  refine Ro.t 1 ?_
  refine Ro.d (mkE [(0, (Zl (EI .u8) x0)), (0, (V.fn 54 [(V.ptr b1081 0 0)])), (5, (i6 (ln x0))), (0, (i6 (0 : Int)))] 10) ?_
  refine Run.block ?_
  obtain ⟨o, h1145, h⟩ := bind_some h
  refine (Run.iter (I := I73_1 x0 x1 b1081 L) (RR := RR73 b1081 x1 L) (J := J73_1 x0 x1 b1081 L) (fun s e h' t hI hf => ?_) FUEL h1145 (by exact ⟨(by kernel_rfl), hp⟩)).mono ?_
  · obtain ⟨rfl, hp⟩ := hI; exact w73_1_b hf hp
  · rintro X e' H hq
    cases o with
    | ret r => cases X <;> first | exact hq.elim | (cases h; exact hq)
    | go a => 
      cases X with | nrm => exact hq.elim | ret => exact hq.elim | ext i => ?_
      obtain ⟨rfl, he, hp⟩ := hq
      dsimp only at h
      refine Run.clrE (ts := [0, 1, 4, 5, 6, 7, 8, 9, 10, 11, 12, 13, 14, 15, 16, 17, 18]) (b := i73n20) (Q := (finE none [4] (Q73 b1081 x1 L r))) he ?_
      refine Rn.g ?_
      refine Ro.t 1 ?_
      refine Ro.d (mkE [(4, (i6 (-1 : Int)))] 14) ?_
      refine Run.ret ?_
      have h := Option.some.inj h; subst h
      exact ⟨(i6 (-1 : Int)), (by kernel_rfl), (by kernel_rfl), hp⟩

/- slices.ContainsFunc[[]smithy/api.Type,smithy/api.Type] -/
abbrev Q53 (b1080 : Nat) (x1 : Int) (L : List Ob) (r : Bool) : V → Heap → Prop := fun v h => v = EB.e r ∧ HP h ((some (b1080, 0), [(V.int .u8 x1)]) :: L)
abbrev RR53 (b1080 : Nat) (x1 : Int) (L : List Ob) (r : Bool) : List V → Heap → Prop := fun e h => endR none [4] (Q53 b1080 x1 L r) e h

def F53 (x0 : (List Int)) (x1 : Int) : Option Bool :=
  (F73 x0 x1).bind fun y1148 =>
  some (decide (y1148 ≥ (0 : Int)))

theorem w53 {x0 : (List Int)} {x1 : Int} {r : Bool} (h : F53 x0 x1 = some r) {b1080 : Nat} {H : Heap} {L : List Ob} (hp : HP H ((some (b1080, 0), [(V.int .u8 x1)]) :: L)) : Fn T 53 [(Zl (EI .u8) x0), (V.fn 54 [(V.ptr b1080 0 0)])] H (Q53 b1080 x1 L r) := by
  refine Fn.enterE t53 (e0 := (mkE [(0, (Zl (EI .u8) x0)), (0, (V.fn 54 [(V.ptr b1080 0 0)]))] 7)) (by kernel_rfl) ?_
  show Run T (.clr [] i53n3) _ _ (finE none [4] (Q53 b1080 x1 L r))
  refine Rn.k (mkE [(0, (Zl (EI .u8) x0)), (0, (V.fn 54 [(V.ptr b1080 0 0)]))] 7) ?_
  unfold F53 at h
  refine Rn.g ?_
  refine Ro.t 1 ?_
  refine Ro.d (mkE [(0, (Zl (EI .u8) x0)), (0, (V.fn 54 [(V.ptr b1080 0 0)]))] 7) ?_
  refine Rn.g ?_
  refine Ro.t 2 ?_
  obtain ⟨y1148, h1149, h⟩ := bind_some h
  have hp : HP _ ((some (b1080, 0), [(V.int .u8 x1)]) :: L) := hp
  refine RunO.h1 (n := 73) (caps := []) (us := [(Zl (EI .u8) x0), (V.fn 54 [(V.ptr b1080 0 0)])]) (by kernel_rfl) (by kernel_rfl) (by kernel_rfl) ((w73 h1149 hp).mono ?_)
  rintro _ H ⟨rfl, hp⟩
  have hp : HP H ((some (b1080, 0), [(V.int .u8 x1)]) :: L) := hp
  refine Ro.t 2 ?_
  refine Ro.d (mkE [(4, (V.bool (decide (y1148 ≥ (0 : Int)))))] 4) ?_
  refine Run.ret ?_
  have h := Option.some.inj h; subst h
  exact ⟨(V.bool (decide (y1148 ≥ (0 : Int)))), (by kernel_rfl), (by kernel_rfl), hp⟩

/- smithy/scalar.Cut -/
abbrev Q74 (L : List Ob) (r : Int) : V → Heap → Prop := fun v h => v = (EI .u64).e r ∧ HP h (L)
abbrev RR74 (L : List Ob) (r : Int) : List V → Heap → Prop := fun e h => endR none [4] (Q74 L r) e h

def F74_j1 (x1 : Int) : Option Int :=
  some x1

theorem w74_j1 {x1 : Int} {r : Int} (h : F74_j1 x1 = some r) {H : Heap} {L : List Ob} (hp : HP H (L)) :
    Run T i74n49 (mkE [(1, (V.int .u64 x1))] 30) H (blk 0 (thn T (.clr [0, 1, 4, 5, 6, 7, 8, 9, 10, 11, 12, 13, 14, 15, 16, 17, 18, 19, 20, 21, 22, 23, 24, 25, 26, 27, 28, 29, 30, 31] i74n54) (finE none [4] (Q74 L r)))) := by
  unfold F74_j1 at h
  refine Run.seq ?_
  refine Rn.g ?_
  refine Ro.t 2 ?_
  refine Ro.d (mkE [(4, (V.int .u64 x1))] 27) ?_
  refine Run.ret ?_
  have h := Option.some.inj h; subst h
  exact ⟨(V.int .u64 x1), (by kernel_rfl), (by kernel_rfl), hp⟩

def F74 (x0 : Int) (x1 : Int) : Option Int :=
  if (x0 == (1 : Int)) then
    some (IntKind.u64.wrap ((BitVec.ofInt IntKind.u64.bits x1 &&& BitVec.ofInt IntKind.u64.bits (1 : Int)).toNat : Int))
  else
    if (x0 == (2 : Int)) then
      some (IntKind.u64.wrap (IntKind.u8.wrap x1))
    else
      if (x0 == (3 : Int)) then
        some (IntKind.u64.wrap (IntKind.i64.wrap (IntKind.i32.wrap x1)))
      else
        if (x0 == (5 : Int)) then
          if (flO (some (Int.toNat x1)) (some (Int.toNat x1)) != some Ordering.eq) then
            some (9221120237041090560 : Int)
          else
            F74_j1 x1
        else
          if (x0 == (4 : Int)) then
            F74_j1 x1
          else
            some (0 : Int)

theorem w74 {x0 : Int} {x1 : Int} {r : Int} (h : F74 x0 x1 = some r) {H : Heap} {L : List Ob} (hp : HP H (L)) : Fn T 74 [(V.int .u8 x0), (V.int .u64 x1)] H (Q74 L r) := by
  refine Fn.enterE t74 (e0 := (mkE [(0, (V.int .u8 x0)), (0, (V.int .u64 x1))] 30)) (by kernel_rfl) ?_
  show Run T (.clr [] i74n56) _ _ (finE none [4] (Q74 L r))
  refine Rn.k (mkE [(0, (V.int .u8 x0)), (0, (V.int .u64 x1))] 30) ?_
  unfold F74 at h
  refine Rn.g ?_
  refine Ro.t 1 ?_
  refine Ro.d (mkE [(0, (V.int .u8 x0)), (0, (V.int .u64 x1))] 30) ?_
  refine Run.seq ?_
  refine Rn.g ?_
  refine Ro.t 1 ?_
  refine Ro.d (mkE [(1, (V.int .u64 x1)), (4, (V.int .u8 x0))] 25) ?_
  refine Run.block ?_
  refine Run.seq ?_
  refine Run.block ?_
  refine Run.seq ?_
  refine Run.block ?_
  refine Run.seq ?_
  refine Run.block ?_
  refine Run.seq ?_
  refine Run.block ?_
  refine Run.seq ?_
  refine Run.block ?_
  refine Run.seq ?_
  refine Run.seq ?_
  refine Rn.g ?_
  refine Ro.t 2 ?_
  refine Ro.d (mkE [(1, (V.int .u64 x1)), (4, (V.int .u8 x0)), (0, (V.bool (x0 == (1 : Int))))] 24) ?_
  rcases tf (x0 == (1 : Int)) with h2306 | h2306
  · rw [ite_t h2306] at h; refine Rn.t h2306 ?_
    refine Run.exit ?_
    refine Rn.c (mkE [(1, (V.int .u64 x1))] 30) ?_
    refine Run.seq ?_
    refine Rn.g ?_
    refine Ro.t 3 ?_
    refine Ro.d (mkE [(4, (V.int .u64 (IntKind.u64.wrap ((BitVec.ofInt IntKind.u64.bits x1 &&& BitVec.ofInt IntKind.u64.bits (1 : Int)).toNat : Int))))] 27) ?_
    refine Run.ret ?_
    have h := Option.some.inj h; subst h
    exact ⟨(V.int .u64 (IntKind.u64.wrap ((BitVec.ofInt IntKind.u64.bits x1 &&& BitVec.ofInt IntKind.u64.bits (1 : Int)).toNat : Int))), (by kernel_rfl), (by kernel_rfl), hp⟩
  · rw [ite_f h2306] at h; refine Rn.f h2306 ?_
    refine Run.skip ?_
    refine Rn.c (mkE [(1, (V.int .u64 x1)), (4, (V.int .u8 x0))] 25) ?_
    refine Run.seq ?_
    refine Rn.g ?_
    refine Ro.t 2 ?_
    refine Ro.d (mkE [(1, (V.int .u64 x1)), (4, (V.int .u8 x0)), (2, (V.bool (x0 == (2 : Int))))] 22) ?_
    rcases tf (x0 == (2 : Int)) with h2308 | h2308
    · rw [ite_t h2308] at h; refine Rn.t h2308 ?_
      refine Run.exit ?_
      refine Rn.c (mkE [(1, (V.int .u64 x1))] 30) ?_
      refine Run.seq ?_
      refine Rn.g ?_
      refine Ro.t 4 ?_
      refine Ro.d (mkE [(4, (V.int .u64 (IntKind.u64.wrap (IntKind.u8.wrap x1))))] 27) ?_
      refine Run.ret ?_
      have h := Option.some.inj h; subst h
      exact ⟨(V.int .u64 (IntKind.u64.wrap (IntKind.u8.wrap x1))), (by kernel_rfl), (by kernel_rfl), hp⟩
    · rw [ite_f h2308] at h; refine Rn.f h2308 ?_
      refine Run.skip ?_
      refine Rn.c (mkE [(1, (V.int .u64 x1)), (4, (V.int .u8 x0))] 25) ?_
      refine Run.seq ?_
      refine Rn.g ?_
      refine Ro.t 2 ?_
      refine Ro.d (mkE [(1, (V.int .u64 x1)), (4, (V.int .u8 x0)), (4, (V.bool (x0 == (3 : Int))))] 20) ?_
      rcases tf (x0 == (3 : Int)) with h2310 | h2310
      · rw [ite_t h2310] at h; refine Rn.t h2310 ?_
        refine Run.exit ?_
        refine Rn.c (mkE [(1, (V.int .u64 x1))] 30) ?_
        refine Run.seq ?_
        refine Rn.g ?_
        refine Ro.t 5 ?_
        refine Ro.d (mkE [(4, (V.int .u64 (IntKind.u64.wrap (IntKind.i64.wrap (IntKind.i32.wrap x1)))))] 27) ?_
        refine Run.ret ?_
        have h := Option.some.inj h; subst h
        exact ⟨(V.int .u64 (IntKind.u64.wrap (IntKind.i64.wrap (IntKind.i32.wrap x1)))), (by kernel_rfl), (by kernel_rfl), hp⟩
      · rw [ite_f h2310] at h; refine Rn.f h2310 ?_
        refine Run.skip ?_
        refine Rn.c (mkE [(1, (V.int .u64 x1)), (4, (V.int .u8 x0))] 25) ?_
        refine Run.seq ?_
        refine Rn.g ?_
        refine Ro.t 2 ?_
        refine Ro.d (mkE [(1, (V.int .u64 x1)), (4, (V.int .u8 x0)), (6, (V.bool (x0 == (5 : Int))))] 18) ?_
        rcases tf (x0 == (5 : Int)) with h2312 | h2312
        · rw [ite_t h2312] at h; refine Rn.t h2312 ?_
          refine Run.exit ?_
          refine Rn.c (mkE [(1, (V.int .u64 x1))] 30) ?_
          refine Rn.g ?_
          refine Ro.t 3 ?_
          refine Ro.d (mkE [(1, (V.int .u64 x1)), (3, (V.fl (some (Int.toNat x1))))] 26) ?_
          refine Rn.g ?_
          refine Ro.t 3 ?_
          refine Ro.d (mkE [(1, (V.int .u64 x1)), (28, (V.bool (flO (some (Int.toNat x1)) (some (Int.toNat x1)) != some Ordering.eq)))] 1) ?_
          rcases tf (flO (some (Int.toNat x1)) (some (Int.toNat x1)) != some Ordering.eq) with h2313 | h2313
          · rw [ite_t h2313] at h; refine Rn.t h2313 ?_
            refine Rn.g ?_
            refine Ro.t 1 ?_
            refine Ro.d (mkE [(4, (V.int .u64 (9221120237041090560 : Int)))] 27) ?_
            refine Run.ret ?_
            have h := Option.some.inj h; subst h
            exact ⟨(V.int .u64 (9221120237041090560 : Int)), (by kernel_rfl), (by kernel_rfl), hp⟩
          · rw [ite_f h2313] at h; refine Rn.f h2313 ?_
            refine Run.skip ?_
            refine Rn.c (mkE [(1, (V.int .u64 x1))] 30) ?_
            exact w74_j1 h hp
        · rw [ite_f h2312] at h; refine Rn.f h2312 ?_
          refine Run.skip ?_
          refine Rn.c (mkE [(1, (V.int .u64 x1)), (4, (V.int .u8 x0))] 25) ?_
          refine Rn.g ?_
          refine Ro.t 2 ?_
          refine Ro.d (mkE [(1, (V.int .u64 x1)), (13, (V.bool (x0 == (4 : Int))))] 16) ?_
          rcases tf (x0 == (4 : Int)) with h2314 | h2314
          · rw [ite_t h2314] at h; refine Rn.t h2314 ?_
            refine Run.exit ?_
            refine Rn.c (mkE [(1, (V.int .u64 x1))] 30) ?_
            exact w74_j1 h hp
          · rw [ite_f h2314] at h; refine Rn.f h2314 ?_
            refine Run.skip ?_
            refine Run.clrE (ts := [1, 6, 7, 8, 9, 10, 11, 12, 13, 14, 15, 16]) (b := (.exit 0)) (Q := (blk 1 (thn T (.clr [6, 7, 8, 9, 10, 11, 12, 13, 14, 15, 16] i74n25) (blk 2 (thn T (.clr [4, 6, 7, 8, 9, 10, 11, 12, 13, 14, 15, 16, 17, 18] i74n30) (blk 3 (thn T (.clr [4, 6, 7, 8, 9, 10, 11, 12, 13, 14, 15, 16, 17, 18, 19, 20, 21] i74n35) (blk 4 (thn T (.clr [4, 6, 7, 8, 9, 10, 11, 12, 13, 14, 15, 16, 17, 18, 19, 20, 21, 22, 23, 24, 25] i74n44) (blk 5 (thn T (.clr [4, 5, 6, 7, 8, 9, 10, 11, 12, 13, 14, 15, 16, 17, 18, 19, 20, 21, 22, 23, 24, 25, 26, 27, 28, 29, 30] i74n49) (blk 0 (thn T (.clr [0, 1, 4, 5, 6, 7, 8, 9, 10, 11, 12, 13, 14, 15, 16, 17, 18, 19, 20, 21, 22, 23, 24, 25, 26, 27, 28, 29, 30, 31] i74n54) (finE none [4] (Q74 L r))))))))))))))) (e' := (mkE [] 32)) (by kernel_rfl) ?_
            refine Run.exit ?_
            refine Rn.c (mkE [] 32) ?_
            refine Rn.g ?_
            refine Ro.t 1 ?_
            refine Ro.d (mkE [(4, (V.int .u64 (0 : Int)))] 27) ?_
            refine Run.ret ?_
            have h := Option.some.inj h; subst h
            exact ⟨(V.int .u64 (0 : Int)), (by kernel_rfl), (by kernel_rfl), hp⟩

theorem c74 {x0 : Int} {x1 : Int} {r : Int} (h : F74 x0 x1 = some r) (s : Bool) : Fn T 74 [(V.int .u8 x0), (V.int .u64 x1)] [] (fun v hh => deep s hh deepN v = some ((EI .u64).e r)) := by
  refine (w74 h HP.nil).mono ?_
  rintro v hh ⟨rfl, hp⟩
  exact (EI .u64).hd s hh 38 _ (.inr rfl)

/- smithy/scalar.Right -/
abbrev Q55 (L : List Ob) (r : Bool) : V → Heap → Prop := fun v h => v = EB.e r ∧ HP h (L)
abbrev RR55 (L : List Ob) (r : Bool) : List V → Heap → Prop := fun e h => endR none [4] (Q55 L r) e h

def F55 (x0 : Int) (x1 : Int) : Option Bool :=
  if (decide (x0 ≥ (1 : Int))) then
    if (decide (x0 ≤ (5 : Int))) then
      (F74 x0 x1).bind fun y2319 =>
      some (y2319 == x1)
    else
      some false
  else
    some false

theorem w55 {x0 : Int} {x1 : Int} {r : Bool} (h : F55 x0 x1 = some r) {H : Heap} {L : List Ob} (hp : HP H (L)) : Fn T 55 [(V.int .u8 x0), (V.int .u64 x1)] H (Q55 L r) := by
  refine Fn.enterE t55 (e0 := (mkE [(0, (V.int .u8 x0)), (0, (V.int .u64 x1))] 16)) (by kernel_rfl) ?_
  show Run T (.clr [] i55n3) _ _ (finE none [4] (Q55 L r))
  refine Rn.k (mkE [(0, (V.int .u8 x0)), (0, (V.int .u64 x1))] 16) ?_
  unfold F55 at h
  refine Rn.g ?_
  refine Ro.t 1 ?_
  refine Ro.d (mkE [(0, (V.int .u8 x0)), (0, (V.int .u64 x1))] 16) ?_
  refine Rn.g ?_
  refine Ro.t 1 ?_
  rcases tf (decide (x0 ≥ (1 : Int))) with h2317 | h2317
  · rw [ite_t h2317] at h; refine Ro.p (bool_of h2317) ?_
    refine Ro.t 2 ?_
    rcases tf (decide (x0 ≤ (5 : Int))) with h2318 | h2318
    · rw [ite_t h2318] at h; refine Ro.p (bool_of h2318) ?_
      refine Ro.t 4 ?_
      obtain ⟨y2319, h2320, h⟩ := bind_some h
      refine RunO.c1 (by kernel_rfl) (by kernel_rfl) (c74 h2320 _) ?_
      refine Ro.t 4 ?_
      refine Ro.d (mkE [(4, (V.bool (y2319 == x1)))] 13) ?_
      refine Run.ret ?_
      have h := Option.some.inj h; subst h
      exact ⟨(V.bool (y2319 == x1)), (by kernel_rfl), (by kernel_rfl), hp⟩
    · rw [ite_f h2318] at h; refine Ro.p (bool_of h2318) ?_
      refine Ro.t 9 ?_
      refine Ro.d (mkE [(4, (V.bool false))] 13) ?_
      refine Run.ret ?_
      have h := Option.some.inj h; subst h
      exact ⟨(V.bool false), (by kernel_rfl), (by kernel_rfl), hp⟩
  · rw [ite_f h2317] at h; refine Ro.p (bool_of h2317) ?_
    refine Ro.t 12 ?_
    refine Ro.d (mkE [(4, (V.bool false))] 13) ?_
    refine Run.ret ?_
    have h := Option.some.inj h; subst h
    exact ⟨(V.bool false), (by kernel_rfl), (by kernel_rfl), hp⟩

theorem c55 {x0 : Int} {x1 : Int} {r : Bool} (h : F55 x0 x1 = some r) (s : Bool) : Fn T 55 [(V.int .u8 x0), (V.int .u64 x1)] [] (fun v hh => deep s hh deepN v = some (EB.e r)) := by
  refine (w55 h HP.nil).mono ?_
  rintro v hh ⟨rfl, hp⟩
  exact EB.hd s hh 38 _ (.inr rfl)

/- smithy/scalar.whole -/
abbrev Q76 (L : List Ob) (r : Bool) : V → Heap → Prop := fun v h => v = EB.e r ∧ HP h (L)
abbrev RR76 (L : List Ob) (r : Bool) : List V → Heap → Prop := fun e h => endR none [2] (Q76 L r) e h

def F76 (x0 : Int) : Option Bool :=
  if (x0 == (2 : Int)) then
    some true
  else
    if (x0 == (3 : Int)) then
      some true
    else
      some (x0 == (4 : Int))

theorem w76 {x0 : Int} {r : Bool} (h : F76 x0 = some r) {H : Heap} {L : List Ob} (hp : HP H (L)) : Fn T 76 [(V.int .u8 x0)] H (Q76 L r) := by
  refine Fn.enterE t76 (e0 := (mkE [(0, (V.int .u8 x0))] 12)) (by kernel_rfl) ?_
  show Run T (.clr [] i76n3) _ _ (finE none [2] (Q76 L r))
  refine Rn.k (mkE [(0, (V.int .u8 x0))] 12) ?_
  unfold F76 at h
  refine Rn.g ?_
  refine Ro.t 1 ?_
  refine Ro.d (mkE [(0, (V.int .u8 x0))] 12) ?_
  refine Rn.g ?_
  refine Ro.t 1 ?_
  rcases tf (x0 == (2 : Int)) with h2464 | h2464
  · rw [ite_t h2464] at h; refine Ro.p (bool_of h2464) ?_
    refine Ro.t 9 ?_
    refine Ro.d (mkE [(2, (V.bool true))] 10) ?_
    refine Run.ret ?_
    have h := Option.some.inj h; subst h
    exact ⟨(V.bool true), (by kernel_rfl), (by kernel_rfl), hp⟩
  · rw [ite_f h2464] at h; refine Ro.p (bool_of h2464) ?_
    refine Ro.t 2 ?_
    rcases tf (x0 == (3 : Int)) with h2465 | h2465
    · rw [ite_t h2465] at h; refine Ro.p (bool_of h2465) ?_
      refine Ro.t 6 ?_
      refine Ro.d (mkE [(2, (V.bool true))] 10) ?_
      refine Run.ret ?_
      have h := Option.some.inj h; subst h
      exact ⟨(V.bool true), (by kernel_rfl), (by kernel_rfl), hp⟩
    · rw [ite_f h2465] at h; refine Ro.p (bool_of h2465) ?_
      refine Ro.t 6 ?_
      refine Ro.d (mkE [(2, (V.bool (x0 == (4 : Int))))] 10) ?_
      refine Run.ret ?_
      have h := Option.some.inj h; subst h
      exact ⟨(V.bool (x0 == (4 : Int))), (by kernel_rfl), (by kernel_rfl), hp⟩

theorem c76 {x0 : Int} {r : Bool} (h : F76 x0 = some r) (s : Bool) : Fn T 76 [(V.int .u8 x0)] [] (fun v hh => deep s hh deepN v = some (EB.e r)) := by
  refine (w76 h HP.nil).mono ?_
  rintro v hh ⟨rfl, hp⟩
  exact EB.hd s hh 38 _ (.inr rfl)

/- smithy/scalar.Of -/
abbrev Q75 (L : List Ob) (r : (Int × Bool)) : V → Heap → Prop := fun v h => v = .tup [(EI .u8).e r.1, EB.e r.2] ∧ HP h (L)
abbrev RR75 (L : List Ob) (r : (Int × Bool)) : List V → Heap → Prop := fun e h => endR none [4, 5] (Q75 L r) e h

def F75_j1 (x1 : Int) (y5675 : Bool) : Option (Int × Bool) :=
  if (!y5675) then
    some ((0 : Int), false)
  else
    some (x1, true)

theorem w75_j1 {x1 : Int} {y5675 : Bool} {r : (Int × Bool)} (h : F75_j1 x1 y5675 = some r) {H : Heap} {L : List Ob} (hp : HP H (L)) :
    Run T i75n98 (mkE [(1, (V.int .u8 x1)), (4, (V.bool y5675))] 41) H (finE none [4, 5] (Q75 L r)) := by
  unfold F75_j1 at h
  refine Run.seq ?_
  refine Rn.g ?_
  refine Ro.t 2 ?_
  refine Ro.d (mkE [(1, (V.int .u8 x1)), (44, (V.bool (!y5675)))] 1) ?_
  rcases tf (!y5675) with h5677 | h5677
  · rw [ite_t h5677] at h; refine Rn.t h5677 ?_
    refine Rn.g ?_
    refine Ro.t 2 ?_
    refine Ro.d (mkE [(4, (V.int .u8 (0 : Int))), (0, (V.bool false))] 42) ?_
    refine Run.ret ?_
    have h := Option.some.inj h; subst h
    exact ⟨(V.tup [(V.int .u8 (0 : Int)), (V.bool false)]), (by kernel_rfl), (by kernel_rfl), hp⟩
  · rw [ite_f h5677] at h; refine Rn.f h5677 ?_
    refine Run.skip ?_
    refine Rn.c (mkE [(1, (V.int .u8 x1))] 46) ?_
    refine Rn.g ?_
    refine Ro.t 3 ?_
    refine Ro.d (mkE [(4, (V.int .u8 x1)), (0, (V.bool true))] 42) ?_
    refine Run.ret ?_
    have h := Option.some.inj h; subst h
    exact ⟨(V.tup [(V.int .u8 x1), (V.bool true)]), (by kernel_rfl), (by kernel_rfl), hp⟩

def F75_j2 : Option (Int × Bool) :=
  some ((1 : Int), true)

theorem w75_j2 {r : (Int × Bool)} (h : F75_j2 = some r) {H : Heap} {L : List Ob} (hp : HP H (L)) :
    Run T i75n87 (mkE [] 48) H (blk 0 (thn T (.clr [0, 4, 5, 13, 14, 15, 16, 17, 18, 19, 20, 21, 22, 23, 24, 25, 26, 27, 28, 29, 30, 31, 32, 33, 34, 35, 36, 37, 38, 39, 40, 41, 42, 43, 44] i75n98) (finE none [4, 5] (Q75 L r)))) := by
  unfold F75_j2 at h
  refine Run.seq ?_
  refine Rn.g ?_
  refine Ro.t 2 ?_
  refine Ro.d (mkE [(4, (V.int .u8 (1 : Int))), (0, (V.bool true))] 42) ?_
  refine Run.ret ?_
  have h := Option.some.inj h; subst h
  exact ⟨(V.tup [(V.int .u8 (1 : Int)), (V.bool true)]), (by kernel_rfl), (by kernel_rfl), hp⟩

def F75_j3 (x1 : Int) : Option (Int × Bool) :=
  if (x1 == (1 : Int)) then
    F75_j1 x1 (false)
  else
    F75_j2

theorem w75_j3 {x1 : Int} {r : (Int × Bool)} (h : F75_j3 x1 = some r) {H : Heap} {L : List Ob} (hp : HP H (L)) :
    Run T i75n82 (mkE [(1, (V.int .u8 x1)), (4, (V.bool false))] 41) H (blk 5 (thn T (.clr [1, 6, 13, 14, 15, 16, 17, 18, 19, 20, 21, 22, 23, 24, 25, 26, 27, 28, 29, 30, 31, 32, 33, 34, 35, 36, 37, 38, 39, 40, 41, 42, 43, 44] i75n87) (blk 0 (thn T (.clr [0, 4, 5, 13, 14, 15, 16, 17, 18, 19, 20, 21, 22, 23, 24, 25, 26, 27, 28, 29, 30, 31, 32, 33, 34, 35, 36, 37, 38, 39, 40, 41, 42, 43, 44] i75n98) (finE none [4, 5] (Q75 L r)))))) := by
  unfold F75_j3 at h
  refine Rn.g ?_
  refine Ro.t 2 ?_
  refine Ro.d (mkE [(1, (V.int .u8 x1)), (4, (V.bool false)), (37, (V.bool (x1 == (1 : Int))))] 3) ?_
  rcases tf (x1 == (1 : Int)) with h6507 | h6507
  · rw [ite_t h6507] at h; refine Rn.t h6507 ?_
    refine Run.exit ?_
    refine Rn.c (mkE [(1, (V.int .u8 x1)), (4, (V.bool false))] 41) ?_
    exact w75_j1 h hp
  · rw [ite_f h6507] at h; refine Rn.f h6507 ?_
    refine Run.skip ?_
    refine Rn.c (mkE [] 48) ?_
    exact w75_j2 h hp

def F75_j4 (x1 : Int) : Option (Int × Bool) :=
  F75_j1 x1 ((x1 != (5 : Int)))

theorem w75_j4 {x1 : Int} {r : (Int × Bool)} (h : F75_j4 x1 = some r) {H : Heap} {L : List Ob} (hp : HP H (L)) :
    Run T i75n77 (mkE [(1, (V.int .u8 x1))] 46) H (blk 4 (thn T (.clr [13, 14, 15, 16, 17, 18, 19, 20, 21, 22, 23, 24, 25, 26, 27, 28, 29, 30, 31, 32, 33, 34, 35, 36, 37, 38, 39, 40, 41, 42] i75n82) (blk 5 (thn T (.clr [1, 6, 13, 14, 15, 16, 17, 18, 19, 20, 21, 22, 23, 24, 25, 26, 27, 28, 29, 30, 31, 32, 33, 34, 35, 36, 37, 38, 39, 40, 41, 42, 43, 44] i75n87) (blk 0 (thn T (.clr [0, 4, 5, 13, 14, 15, 16, 17, 18, 19, 20, 21, 22, 23, 24, 25, 26, 27, 28, 29, 30, 31, 32, 33, 34, 35, 36, 37, 38, 39, 40, 41, 42, 43, 44] i75n98) (finE none [4, 5] (Q75 L r)))))))) := by
  unfold F75_j4 at h
  refine Rn.g ?_
  refine Ro.t 3 ?_
  refine Ro.d (mkE [(1, (V.int .u8 x1)), (4, (V.bool (x1 != (5 : Int))))] 41) ?_
  refine Run.exit ?_
  refine Rn.c (mkE [(1, (V.int .u8 x1)), (4, (V.bool (x1 != (5 : Int))))] 41) ?_
  exact w75_j1 h hp

def F75_j5 (x1 : Int) : Option (Int × Bool) :=
  (F76 x1).bind fun y6714 =>
  F75_j1 x1 (y6714)

theorem w75_j5 {x1 : Int} {r : (Int × Bool)} (h : F75_j5 x1 = some r) {H : Heap} {L : List Ob} (hp : HP H (L)) :
    Run T i75n73 (mkE [(1, (V.int .u8 x1))] 46) H (blk 3 (thn T (.clr [6, 13, 14, 15, 16, 17, 18, 19, 20, 21, 22, 23, 24, 25, 26, 27, 28, 29, 30, 31, 32, 33, 34, 35, 36, 37, 38, 39, 40] i75n77) (blk 4 (thn T (.clr [13, 14, 15, 16, 17, 18, 19, 20, 21, 22, 23, 24, 25, 26, 27, 28, 29, 30, 31, 32, 33, 34, 35, 36, 37, 38, 39, 40, 41, 42] i75n82) (blk 5 (thn T (.clr [1, 6, 13, 14, 15, 16, 17, 18, 19, 20, 21, 22, 23, 24, 25, 26, 27, 28, 29, 30, 31, 32, 33, 34, 35, 36, 37, 38, 39, 40, 41, 42, 43, 44] i75n87) (blk 0 (thn T (.clr [0, 4, 5, 13, 14, 15, 16, 17, 18, 19, 20, 21, 22, 23, 24, 25, 26, 27, 28, 29, 30, 31, 32, 33, 34, 35, 36, 37, 38, 39, 40, 41, 42, 43, 44] i75n98) (finE none [4, 5] (Q75 L r)))))))))) := by
  unfold F75_j5 at h
  refine Rn.g ?_
  refine Ro.t 1 ?_
  obtain ⟨y6714, h6715, h⟩ := bind_some h
  refine RunO.c1 (by kernel_rfl) (by kernel_rfl) (c76 h6715 _) ?_
  refine Ro.t 1 ?_
  refine Ro.d (mkE [(1, (V.int .u8 x1)), (4, (V.bool y6714))] 41) ?_
  refine Run.exit ?_
  refine Rn.c (mkE [(1, (V.int .u8 x1)), (4, (V.bool y6714))] 41) ?_
  exact w75_j1 h hp

def F75_j6 (x1 : Int) : Option (Int × Bool) :=
  F75_j1 x1 ((x1 != (1 : Int)))

theorem w75_j6 {x1 : Int} {r : (Int × Bool)} (h : F75_j6 x1 = some r) {H : Heap} {L : List Ob} (hp : HP H (L)) :
    Run T i75n69 (mkE [(1, (V.int .u8 x1))] 46) H (blk 2 (thn T (.clr [6, 13, 14, 15, 16, 17, 18, 19, 20, 21, 22, 23, 24, 25, 26, 27, 28, 29, 30, 31, 32, 33, 34, 35, 36, 37, 38] i75n73) (blk 3 (thn T (.clr [6, 13, 14, 15, 16, 17, 18, 19, 20, 21, 22, 23, 24, 25, 26, 27, 28, 29, 30, 31, 32, 33, 34, 35, 36, 37, 38, 39, 40] i75n77) (blk 4 (thn T (.clr [13, 14, 15, 16, 17, 18, 19, 20, 21, 22, 23, 24, 25, 26, 27, 28, 29, 30, 31, 32, 33, 34, 35, 36, 37, 38, 39, 40, 41, 42] i75n82) (blk 5 (thn T (.clr [1, 6, 13, 14, 15, 16, 17, 18, 19, 20, 21, 22, 23, 24, 25, 26, 27, 28, 29, 30, 31, 32, 33, 34, 35, 36, 37, 38, 39, 40, 41, 42, 43, 44] i75n87) (blk 0 (thn T (.clr [0, 4, 5, 13, 14, 15, 16, 17, 18, 19, 20, 21, 22, 23, 24, 25, 26, 27, 28, 29, 30, 31, 32, 33, 34, 35, 36, 37, 38, 39, 40, 41, 42, 43, 44] i75n98) (finE none [4, 5] (Q75 L r)))))))))))) := by
  unfold F75_j6 at h
  refine Rn.g ?_
  refine Ro.t 3 ?_
  refine Ro.d (mkE [(1, (V.int .u8 x1)), (4, (V.bool (x1 != (1 : Int))))] 41) ?_
  refine Run.exit ?_
  refine Rn.c (mkE [(1, (V.int .u8 x1)), (4, (V.bool (x1 != (1 : Int))))] 41) ?_
  exact w75_j1 h hp

def F75 (x0 : Int) (x1 : Int) : Option (Int × Bool) :=
  if (decide (x1 < (1 : Int))) then
    some ((0 : Int), false)
  else
    if (decide (x1 > (5 : Int))) then
      some ((0 : Int), false)
    else
      if (x0 == (1 : Int)) then
        F75_j6 x1
      else
        if (x0 == (2 : Int)) then
          F75_j6 x1
        else
          if (x0 == (3 : Int)) then
            F75_j6 x1
          else
            if (x0 == (4 : Int)) then
              F75_j6 x1
            else
              if (x0 == (17 : Int)) then
                F75_j6 x1
              else
                if (x0 == (5 : Int)) then
                  F75_j5 x1
                else
                  if (x0 == (9 : Int)) then
                    F75_j5 x1
                  else
                    if (x0 == (10 : Int)) then
                      F75_j5 x1
                    else
                      if (x0 == (6 : Int)) then
                        F75_j4 x1
                      else
                        if (x0 == (7 : Int)) then
                          F75_j4 x1
                        else
                          if (x0 == (8 : Int)) then
                            F75_j4 x1
                          else
                            if (x0 == (18 : Int)) then
                              F75_j4 x1
                            else
                              if (x0 == (13 : Int)) then
                                F75_j3 x1
                              else
                                if (x0 == (14 : Int)) then
                                  F75_j3 x1
                                else
                                  if (x0 == (15 : Int)) then
                                    F75_j3 x1
                                  else
                                    if (x0 == (16 : Int)) then
                                      F75_j3 x1
                                    else
                                      if (x0 == (11 : Int)) then
                                        F75_j2
                                      else
                                        if (x0 == (12 : Int)) then
                                          F75_j2
                                        else
                                          F75_j1 x1 (false)

theorem w75 {x0 : Int} {x1 : Int} {r : (Int × Bool)} (h : F75 x0 x1 = some r) {H : Heap} {L : List Ob} (hp : HP H (L)) : Fn T 75 [(V.int .u8 x0), (V.int .u8 x1)] H (Q75 L r) := by
  refine Fn.enterE t75 (e0 := (mkE [(0, (V.int .u8 x0)), (0, (V.int .u8 x1))] 46)) (by kernel_rfl) ?_
  show Run T (.clr [] i75n102) _ _ (finE none [4, 5] (Q75 L r))
  refine Rn.k (mkE [(0, (V.int .u8 x0)), (0, (V.int .u8 x1))] 46) ?_
  unfold F75 at h
  refine Rn.g ?_
  refine Ro.t 2 ?_
  refine Ro.d (mkE [(0, (V.int .u8 x0)), (0, (V.int .u8 x1))] 46) ?_
  refine Run.seq ?_
  refine Rn.g ?_
  refine Ro.t 1 ?_
  rcases tf (decide (x1 < (1 : Int))) with h4567 | h4567
  · rw [ite_t h4567] at h; refine Ro.p (bool_of h4567) ?_
    refine Ro.t 4 ?_
    refine Ro.d (mkE [(0, (V.int .u8 x0)), (0, (V.int .u8 x1)), (10, (V.bool true))] 35) ?_
    refine Run.condT (by kernel_rfl) ?_
    refine Rn.g ?_
    refine Ro.t 2 ?_
    refine Ro.d (mkE [(4, (V.int .u8 (0 : Int))), (0, (V.bool false))] 42) ?_
    refine Run.ret ?_
    have h := Option.some.inj h; subst h
    exact ⟨(V.tup [(V.int .u8 (0 : Int)), (V.bool false)]), (by kernel_rfl), (by kernel_rfl), hp⟩
  · rw [ite_f h4567] at h; refine Ro.p (bool_of h4567) ?_
    refine Ro.t 4 ?_
    refine Ro.d (mkE [(0, (V.int .u8 x0)), (0, (V.int .u8 x1)), (10, (V.bool (decide (x1 > (5 : Int)))))] 35) ?_
    rcases tf (decide (x1 > (5 : Int))) with h4568 | h4568
    · rw [ite_t h4568] at h; refine Rn.t h4568 ?_
      refine Rn.g ?_
      refine Ro.t 2 ?_
      refine Ro.d (mkE [(4, (V.int .u8 (0 : Int))), (0, (V.bool false))] 42) ?_
      refine Run.ret ?_
      have h := Option.some.inj h; subst h
      exact ⟨(V.tup [(V.int .u8 (0 : Int)), (V.bool false)]), (by kernel_rfl), (by kernel_rfl), hp⟩
    · rw [ite_f h4568] at h; refine Rn.f h4568 ?_
      refine Run.skip ?_
      refine Rn.c (mkE [(0, (V.int .u8 x0)), (0, (V.int .u8 x1))] 46) ?_
      refine Rn.g ?_
      refine Ro.t 1 ?_
      refine Ro.d (mkE [(0, (V.int .u8 x0)), (0, (V.int .u8 x1)), (4, (V.bool false))] 41) ?_
      refine Run.seq ?_
      refine Rn.g ?_
      refine Ro.t 1 ?_
      refine Ro.d (mkE [(1, (V.int .u8 x1)), (4, (V.bool false)), (6, (V.int .u8 x0))] 34) ?_
      refine Run.block ?_
      refine Run.seq ?_
      refine Run.block ?_
      refine Run.seq ?_
      refine Run.block ?_
      refine Run.seq ?_
      refine Run.block ?_
      refine Run.seq ?_
      refine Run.block ?_
      refine Run.seq ?_
      refine Run.block ?_
      refine Run.seq ?_
      refine Run.seq ?_
      refine Run.seq ?_
      refine Rn.g ?_
      refine Ro.t 2 ?_
      refine Ro.d (mkE [(1, (V.int .u8 x1)), (4, (V.bool false)), (6, (V.int .u8 x0)), (0, (V.bool (x0 == (1 : Int))))] 33) ?_
      rcases tf (x0 == (1 : Int)) with h6755 | h6755
      · rw [ite_t h6755] at h; refine Rn.t h6755 ?_
        refine Run.skip ?_
        refine Rn.c (mkE [(1, (V.int .u8 x1)), (4, (V.bool false)), (6, (V.int .u8 x0)), (0, (V.bool (x0 == (1 : Int))))] 33) ?_
        refine Run.cond (t := true) (by rw [← h6755]; kernel_rfl) ?_
        refine Run.exit ?_
        refine Rn.c (mkE [(1, (V.int .u8 x1))] 46) ?_
        exact w75_j6 h hp
      · rw [ite_f h6755] at h; refine Rn.f h6755 ?_
        refine Rn.g ?_
        refine Ro.t 2 ?_
        refine Ro.d (mkE [(1, (V.int .u8 x1)), (4, (V.bool false)), (6, (V.int .u8 x0)), (0, (V.bool (x0 == (2 : Int))))] 33) ?_
        rcases tf (x0 == (2 : Int)) with h6756 | h6756
        · rw [ite_t h6756] at h; refine Rn.t h6756 ?_
          refine Run.skip ?_
          refine Rn.c (mkE [(1, (V.int .u8 x1)), (4, (V.bool false)), (6, (V.int .u8 x0)), (0, (V.bool (x0 == (2 : Int))))] 33) ?_
          refine Run.cond (t := true) (by rw [← h6756]; kernel_rfl) ?_
          refine Run.exit ?_
          refine Rn.c (mkE [(1, (V.int .u8 x1))] 46) ?_
          exact w75_j6 h hp
        · rw [ite_f h6756] at h; refine Rn.f h6756 ?_
          refine Rn.g ?_
          refine Ro.t 2 ?_
          refine Ro.d (mkE [(1, (V.int .u8 x1)), (4, (V.bool false)), (6, (V.int .u8 x0)), (0, (V.bool (x0 == (3 : Int))))] 33) ?_
          rcases tf (x0 == (3 : Int)) with h6757 | h6757
          · rw [ite_t h6757] at h; refine Rn.t h6757 ?_
            refine Run.skip ?_
            refine Rn.c (mkE [(1, (V.int .u8 x1)), (4, (V.bool false)), (6, (V.int .u8 x0)), (0, (V.bool (x0 == (3 : Int))))] 33) ?_
            refine Run.cond (t := true) (by rw [← h6757]; kernel_rfl) ?_
            refine Run.exit ?_
            refine Rn.c (mkE [(1, (V.int .u8 x1))] 46) ?_
            exact w75_j6 h hp
          · rw [ite_f h6757] at h; refine Rn.f h6757 ?_
            refine Rn.g ?_
            refine Ro.t 2 ?_
            refine Ro.d (mkE [(1, (V.int .u8 x1)), (4, (V.bool false)), (6, (V.int .u8 x0)), (0, (V.bool (x0 == (4 : Int))))] 33) ?_
            rcases tf (x0 == (4 : Int)) with h6758 | h6758
            · rw [ite_t h6758] at h; refine Rn.t h6758 ?_
              refine Run.skip ?_
              refine Rn.c (mkE [(1, (V.int .u8 x1)), (4, (V.bool false)), (6, (V.int .u8 x0)), (0, (V.bool (x0 == (4 : Int))))] 33) ?_
              refine Run.cond (t := true) (by rw [← h6758]; kernel_rfl) ?_
              refine Run.exit ?_
              refine Rn.c (mkE [(1, (V.int .u8 x1))] 46) ?_
              exact w75_j6 h hp
            · rw [ite_f h6758] at h; refine Rn.f h6758 ?_
              refine Run.rgn ?_
              refine Ro.t 2 ?_
              refine Ro.d (mkE [(1, (V.int .u8 x1)), (4, (V.bool false)), (6, (V.int .u8 x0)), (0, (V.bool (x0 == (17 : Int))))] 33) ?_
              rcases tf (x0 == (17 : Int)) with h6759 | h6759
              · rw [ite_t h6759] at h; refine Rn.t h6759 ?_
                refine Run.exit ?_
                refine Rn.c (mkE [(1, (V.int .u8 x1))] 46) ?_
                exact w75_j6 h hp
              · rw [ite_f h6759] at h; refine Rn.f h6759 ?_
                refine Run.skip ?_
                refine Rn.c (mkE [(1, (V.int .u8 x1)), (4, (V.bool false)), (6, (V.int .u8 x0))] 34) ?_
                refine Run.seq ?_
                refine Run.seq ?_
                refine Rn.g ?_
                refine Ro.t 2 ?_
                refine Ro.d (mkE [(1, (V.int .u8 x1)), (4, (V.bool false)), (6, (V.int .u8 x0)), (6, (V.bool (x0 == (5 : Int))))] 27) ?_
                rcases tf (x0 == (5 : Int)) with h6763 | h6763
                · rw [ite_t h6763] at h; refine Rn.t h6763 ?_
                  refine Run.skip ?_
                  refine Rn.c (mkE [(1, (V.int .u8 x1)), (4, (V.bool false)), (6, (V.int .u8 x0)), (6, (V.bool (x0 == (5 : Int))))] 27) ?_
                  refine Run.cond (t := true) (by rw [← h6763]; kernel_rfl) ?_
                  refine Run.exit ?_
                  refine Rn.c (mkE [(1, (V.int .u8 x1))] 46) ?_
                  exact w75_j5 h hp
                · rw [ite_f h6763] at h; refine Rn.f h6763 ?_
                  refine Rn.g ?_
                  refine Ro.t 2 ?_
                  refine Ro.d (mkE [(1, (V.int .u8 x1)), (4, (V.bool false)), (6, (V.int .u8 x0)), (6, (V.bool (x0 == (9 : Int))))] 27) ?_
                  rcases tf (x0 == (9 : Int)) with h6764 | h6764
                  · rw [ite_t h6764] at h; refine Rn.t h6764 ?_
                    refine Run.skip ?_
                    refine Rn.c (mkE [(1, (V.int .u8 x1)), (4, (V.bool false)), (6, (V.int .u8 x0)), (6, (V.bool (x0 == (9 : Int))))] 27) ?_
                    refine Run.cond (t := true) (by rw [← h6764]; kernel_rfl) ?_
                    refine Run.exit ?_
                    refine Rn.c (mkE [(1, (V.int .u8 x1))] 46) ?_
                    exact w75_j5 h hp
                  · rw [ite_f h6764] at h; refine Rn.f h6764 ?_
                    refine Run.rgn ?_
                    refine Ro.t 2 ?_
                    refine Ro.d (mkE [(1, (V.int .u8 x1)), (4, (V.bool false)), (6, (V.int .u8 x0)), (6, (V.bool (x0 == (10 : Int))))] 27) ?_
                    rcases tf (x0 == (10 : Int)) with h6765 | h6765
                    · rw [ite_t h6765] at h; refine Rn.t h6765 ?_
                      refine Run.exit ?_
                      refine Rn.c (mkE [(1, (V.int .u8 x1))] 46) ?_
                      exact w75_j5 h hp
                    · rw [ite_f h6765] at h; refine Rn.f h6765 ?_
                      refine Run.skip ?_
                      refine Rn.c (mkE [(1, (V.int .u8 x1)), (4, (V.bool false)), (6, (V.int .u8 x0))] 34) ?_
                      refine Run.seq ?_
                      refine Run.seq ?_
                      refine Rn.g ?_
                      refine Ro.t 2 ?_
                      refine Ro.d (mkE [(1, (V.int .u8 x1)), (4, (V.bool false)), (6, (V.int .u8 x0)), (10, (V.bool (x0 == (6 : Int))))] 23) ?_
                      rcases tf (x0 == (6 : Int)) with h6770 | h6770
                      · rw [ite_t h6770] at h; refine Rn.t h6770 ?_
                        refine Run.skip ?_
                        refine Rn.c (mkE [(1, (V.int .u8 x1)), (4, (V.bool false)), (6, (V.int .u8 x0)), (10, (V.bool (x0 == (6 : Int))))] 23) ?_
                        refine Run.cond (t := true) (by rw [← h6770]; kernel_rfl) ?_
                        refine Run.exit ?_
                        refine Rn.c (mkE [(1, (V.int .u8 x1))] 46) ?_
                        exact w75_j4 h hp
                      · rw [ite_f h6770] at h; refine Rn.f h6770 ?_
                        refine Rn.g ?_
                        refine Ro.t 2 ?_
                        refine Ro.d (mkE [(1, (V.int .u8 x1)), (4, (V.bool false)), (6, (V.int .u8 x0)), (10, (V.bool (x0 == (7 : Int))))] 23) ?_
                        rcases tf (x0 == (7 : Int)) with h6771 | h6771
                        · rw [ite_t h6771] at h; refine Rn.t h6771 ?_
                          refine Run.skip ?_
                          refine Rn.c (mkE [(1, (V.int .u8 x1)), (4, (V.bool false)), (6, (V.int .u8 x0)), (10, (V.bool (x0 == (7 : Int))))] 23) ?_
                          refine Run.cond (t := true) (by rw [← h6771]; kernel_rfl) ?_
                          refine Run.exit ?_
                          refine Rn.c (mkE [(1, (V.int .u8 x1))] 46) ?_
                          exact w75_j4 h hp
                        · rw [ite_f h6771] at h; refine Rn.f h6771 ?_
                          refine Rn.g ?_
                          refine Ro.t 2 ?_
                          refine Ro.d (mkE [(1, (V.int .u8 x1)), (4, (V.bool false)), (6, (V.int .u8 x0)), (10, (V.bool (x0 == (8 : Int))))] 23) ?_
                          rcases tf (x0 == (8 : Int)) with h6772 | h6772
                          · rw [ite_t h6772] at h; refine Rn.t h6772 ?_
                            refine Run.skip ?_
                            refine Rn.c (mkE [(1, (V.int .u8 x1)), (4, (V.bool false)), (6, (V.int .u8 x0)), (10, (V.bool (x0 == (8 : Int))))] 23) ?_
                            refine Run.cond (t := true) (by rw [← h6772]; kernel_rfl) ?_
                            refine Run.exit ?_
                            refine Rn.c (mkE [(1, (V.int .u8 x1))] 46) ?_
                            exact w75_j4 h hp
                          · rw [ite_f h6772] at h; refine Rn.f h6772 ?_
                            refine Run.rgn ?_
                            refine Ro.t 2 ?_
                            refine Ro.d (mkE [(1, (V.int .u8 x1)), (4, (V.bool false)), (6, (V.int .u8 x0)), (10, (V.bool (x0 == (18 : Int))))] 23) ?_
                            rcases tf (x0 == (18 : Int)) with h6773 | h6773
                            · rw [ite_t h6773] at h; refine Rn.t h6773 ?_
                              refine Run.exit ?_
                              refine Rn.c (mkE [(1, (V.int .u8 x1))] 46) ?_
                              exact w75_j4 h hp
                            · rw [ite_f h6773] at h; refine Rn.f h6773 ?_
                              refine Run.skip ?_
                              refine Rn.c (mkE [(1, (V.int .u8 x1)), (4, (V.bool false)), (6, (V.int .u8 x0))] 34) ?_
                              refine Run.seq ?_
                              refine Run.seq ?_
                              refine Rn.g ?_
                              refine Ro.t 2 ?_
                              refine Ro.d (mkE [(1, (V.int .u8 x1)), (4, (V.bool false)), (6, (V.int .u8 x0)), (15, (V.bool (x0 == (13 : Int))))] 18) ?_
                              rcases tf (x0 == (13 : Int)) with h6778 | h6778
                              · rw [ite_t h6778] at h; refine Rn.t h6778 ?_
                                refine Run.skip ?_
                                refine Rn.c (mkE [(1, (V.int .u8 x1)), (4, (V.bool false)), (6, (V.int .u8 x0)), (15, (V.bool (x0 == (13 : Int))))] 18) ?_
                                refine Run.cond (t := true) (by rw [← h6778]; kernel_rfl) ?_
                                refine Run.exit ?_
                                refine Rn.c (mkE [(1, (V.int .u8 x1)), (4, (V.bool false))] 41) ?_
                                exact w75_j3 h hp
                              · rw [ite_f h6778] at h; refine Rn.f h6778 ?_
                                refine Rn.g ?_
                                refine Ro.t 2 ?_
                                refine Ro.d (mkE [(1, (V.int .u8 x1)), (4, (V.bool false)), (6, (V.int .u8 x0)), (15, (V.bool (x0 == (14 : Int))))] 18) ?_
                                rcases tf (x0 == (14 : Int)) with h6779 | h6779
                                · rw [ite_t h6779] at h; refine Rn.t h6779 ?_
                                  refine Run.skip ?_
                                  refine Rn.c (mkE [(1, (V.int .u8 x1)), (4, (V.bool false)), (6, (V.int .u8 x0)), (15, (V.bool (x0 == (14 : Int))))] 18) ?_
                                  refine Run.cond (t := true) (by rw [← h6779]; kernel_rfl) ?_
                                  refine Run.exit ?_
                                  refine Rn.c (mkE [(1, (V.int .u8 x1)), (4, (V.bool false))] 41) ?_
                                  exact w75_j3 h hp
                                · rw [ite_f h6779] at h; refine Rn.f h6779 ?_
                                  refine Rn.g ?_
                                  refine Ro.t 2 ?_
                                  refine Ro.d (mkE [(1, (V.int .u8 x1)), (4, (V.bool false)), (6, (V.int .u8 x0)), (15, (V.bool (x0 == (15 : Int))))] 18) ?_
                                  rcases tf (x0 == (15 : Int)) with h6780 | h6780
                                  · rw [ite_t h6780] at h; refine Rn.t h6780 ?_
                                    refine Run.skip ?_
                                    refine Rn.c (mkE [(1, (V.int .u8 x1)), (4, (V.bool false)), (6, (V.int .u8 x0)), (15, (V.bool (x0 == (15 : Int))))] 18) ?_
                                    refine Run.cond (t := true) (by rw [← h6780]; kernel_rfl) ?_
                                    refine Run.exit ?_
                                    refine Rn.c (mkE [(1, (V.int .u8 x1)), (4, (V.bool false))] 41) ?_
                                    exact w75_j3 h hp
                                  · rw [ite_f h6780] at h; refine Rn.f h6780 ?_
                                    refine Run.rgn ?_
                                    refine Ro.t 2 ?_
                                    refine Ro.d (mkE [(1, (V.int .u8 x1)), (4, (V.bool false)), (6, (V.int .u8 x0)), (15, (V.bool (x0 == (16 : Int))))] 18) ?_
                                    rcases tf (x0 == (16 : Int)) with h6781 | h6781
                                    · rw [ite_t h6781] at h; refine Rn.t h6781 ?_
                                      refine Run.exit ?_
                                      refine Rn.c (mkE [(1, (V.int .u8 x1)), (4, (V.bool false))] 41) ?_
                                      exact w75_j3 h hp
                                    · rw [ite_f h6781] at h; refine Rn.f h6781 ?_
                                      refine Run.skip ?_
                                      refine Rn.c (mkE [(1, (V.int .u8 x1)), (4, (V.bool false)), (6, (V.int .u8 x0))] 34) ?_
                                      refine Run.seq ?_
                                      refine Rn.g ?_
                                      refine Ro.t 2 ?_
                                      refine Ro.d (mkE [(1, (V.int .u8 x1)), (4, (V.bool false)), (6, (V.int .u8 x0)), (20, (V.bool (x0 == (11 : Int))))] 13) ?_
                                      rcases tf (x0 == (11 : Int)) with h6782 | h6782
                                      · rw [ite_t h6782] at h; refine Rn.t h6782 ?_
                                        refine Run.skip ?_
                                        refine Rn.c (mkE [(1, (V.int .u8 x1)), (4, (V.bool false)), (27, (V.bool (x0 == (11 : Int))))] 13) ?_
                                        refine Run.cond (t := true) (by rw [← h6782]; kernel_rfl) ?_
                                        refine Run.exit ?_
                                        refine Rn.c (mkE [] 48) ?_
                                        exact w75_j2 h hp
                                      · rw [ite_f h6782] at h; refine Rn.f h6782 ?_
                                        refine Run.rgn ?_
                                        refine Ro.t 2 ?_
                                        refine Ro.d (mkE [(1, (V.int .u8 x1)), (4, (V.bool false)), (27, (V.bool (x0 == (12 : Int))))] 13) ?_
                                        rcases tf (x0 == (12 : Int)) with h6783 | h6783
                                        · rw [ite_t h6783] at h; refine Rn.t h6783 ?_
                                          refine Run.exit ?_
                                          refine Rn.c (mkE [] 48) ?_
                                          exact w75_j2 h hp
                                        · rw [ite_f h6783] at h; refine Rn.f h6783 ?_
                                          refine Run.skip ?_
                                          refine Run.clrE (ts := [13, 14, 15, 16, 17, 18, 19, 20, 21, 22, 23, 24, 25, 26, 27, 28, 29, 30, 31, 32, 33, 34, 35, 36]) (b := (.exit 0)) (Q := (blk 1 (thn T (.clr [6, 13, 14, 15, 16, 17, 18, 19, 20, 21, 22, 23, 24, 25, 26, 27, 28, 29, 30, 31, 32, 33, 34, 35, 36] i75n69) (blk 2 (thn T (.clr [6, 13, 14, 15, 16, 17, 18, 19, 20, 21, 22, 23, 24, 25, 26, 27, 28, 29, 30, 31, 32, 33, 34, 35, 36, 37, 38] i75n73) (blk 3 (thn T (.clr [6, 13, 14, 15, 16, 17, 18, 19, 20, 21, 22, 23, 24, 25, 26, 27, 28, 29, 30, 31, 32, 33, 34, 35, 36, 37, 38, 39, 40] i75n77) (blk 4 (thn T (.clr [13, 14, 15, 16, 17, 18, 19, 20, 21, 22, 23, 24, 25, 26, 27, 28, 29, 30, 31, 32, 33, 34, 35, 36, 37, 38, 39, 40, 41, 42] i75n82) (blk 5 (thn T (.clr [1, 6, 13, 14, 15, 16, 17, 18, 19, 20, 21, 22, 23, 24, 25, 26, 27, 28, 29, 30, 31, 32, 33, 34, 35, 36, 37, 38, 39, 40, 41, 42, 43, 44] i75n87) (blk 0 (thn T (.clr [0, 4, 5, 13, 14, 15, 16, 17, 18, 19, 20, 21, 22, 23, 24, 25, 26, 27, 28, 29, 30, 31, 32, 33, 34, 35, 36, 37, 38, 39, 40, 41, 42, 43, 44] i75n98) (finE none [4, 5] (Q75 L r))))))))))))))) (e' := (mkE [(1, (V.int .u8 x1)), (4, (V.bool false))] 41)) (by kernel_rfl) ?_
                                          refine Run.exit ?_
                                          refine Rn.c (mkE [(1, (V.int .u8 x1)), (4, (V.bool false))] 41) ?_
                                          exact w75_j1 h hp

theorem c75 {x0 : Int} {x1 : Int} {r : (Int × Bool)} (h : F75 x0 x1 = some r) (s : Bool) : Fn T 75 [(V.int .u8 x0), (V.int .u8 x1)] [] (fun v hh => deep s hh deepN v = some (.tup [(EI .u8).e r.1, EB.e r.2])) := by
  refine (w75 h HP.nil).mono ?_
  rintro v hh ⟨rfl, hp⟩
  exact congrArg (Option.map V.tup) (omapc ((EI .u8).hd s hh 37 _ (.inr rfl)) (omapc (EB.hd s hh 37 _ (.inr rfl)) omapn))

/- smithy/graph.operated -/
abbrev Q56 (L : List Ob) (r : Bool) : V → Heap → Prop := fun v h => v = EB.e r ∧ HP h (L)
abbrev RR56 (L : List Ob) (r : Bool) : List V → Heap → Prop := fun e h => endR none [6] (Q56 L r) e h

def F56_j1 (x0 : Int) (x1 : (List Int)) (x2 : Int) (y6790 : Int) : Option Bool :=
  if (((List.length x1 : Nat) : Int) != y6790) then
    some false
  else
    (idx x1 (0 : Int)).bind fun y6798 =>
    (idx x1 (IntKind.i64.wrap (y6790 - (1 : Int)))).bind fun y6800 =>
    if (y6798 != y6800) then
      some false
    else
      (idx x1 (0 : Int)).bind fun y6803 =>
      (F75 x0 y6803).bind fun y6805 =>
      if y6805.2 then
        some (y6805.1 == x2)
      else
        some false

theorem w56_j1 {x0 : Int} {x1 : (List Int)} {x2 : Int} {y6790 : Int} {r : Bool} (h : F56_j1 x0 x1 x2 y6790 = some r) {H : Heap} {L : List Ob} (hp : HP H (L)) :
    Run T i56n15 (mkE [(0, (V.int .u8 x0)), (0, (Zl (EI .u8) x1)), (0, (V.int .u8 x2)), (4, (i6 y6790))] 37) H (finE none [6] (Q56 L r)) := by
  unfold F56_j1 at h
  refine Run.seq ?_
  refine Rn.g ?_
  refine Ro.t 1 ?_
  refine Ro.p (len_fz (EI .u8) x1) ?_
  refine Ro.t 1 ?_
  rcases tf ((ln x1) != y6790) with h6797 | h6797
  · rw [ite_t h6797] at h; refine Ro.p (bool_of h6797) ?_
    refine Ro.t 11 ?_
    refine Ro.d (mkE [(0, (V.int .u8 x0)), (0, (Zl (EI .u8) x1)), (0, (V.int .u8 x2)), (27, (V.bool true))] 14) ?_
    refine Run.condT (by kernel_rfl) ?_
    refine Rn.g ?_
    refine Ro.t 1 ?_
    refine Ro.d (mkE [(6, (V.bool false))] 38) ?_
    refine Run.ret ?_
    have h := Option.some.inj h; subst h
    exact ⟨(V.bool false), (by kernel_rfl), (by kernel_rfl), hp⟩
  · rw [ite_f h6797] at h; refine Ro.p (bool_of h6797) ?_
    refine Ro.t 2 ?_
    obtain ⟨y6798, h6799, h⟩ := bind_some h
    refine Ro.p (idx_fz (EI .u8) .i64 h6799) ?_
    refine Ro.t 4 ?_
    obtain ⟨y6800, h6801, h⟩ := bind_some h
    refine Ro.p (idx_fz (EI .u8) .i64 h6801) ?_
    refine Ro.t 3 ?_
    refine Ro.d (mkE [(0, (V.int .u8 x0)), (0, (Zl (EI .u8) x1)), (0, (V.int .u8 x2)), (27, (V.bool (y6798 != y6800)))] 14) ?_
    rcases tf (y6798 != y6800) with h6802 | h6802
    · rw [ite_t h6802] at h; refine Rn.t h6802 ?_
      refine Rn.g ?_
      refine Ro.t 1 ?_
      refine Ro.d (mkE [(6, (V.bool false))] 38) ?_
      refine Run.ret ?_
      have h := Option.some.inj h; subst h
      exact ⟨(V.bool false), (by kernel_rfl), (by kernel_rfl), hp⟩
    · rw [ite_f h6802] at h; refine Rn.f h6802 ?_
      refine Run.skip ?_
      refine Rn.c (mkE [(0, (V.int .u8 x0)), (0, (Zl (EI .u8) x1)), (0, (V.int .u8 x2))] 42) ?_
      refine Rn.g ?_
      refine Ro.t 2 ?_
      obtain ⟨y6803, h6804, h⟩ := bind_some h
      refine Ro.p (idx_fz (EI .u8) .i64 h6804) ?_
      refine Ro.t 1 ?_
      obtain ⟨y6805, h6806, h⟩ := bind_some h
      refine RunO.c1 (by kernel_rfl) (by kernel_rfl) (c75 h6806 _) ?_
      refine Ro.t 5 ?_
      refine Ro.d (mkE [(2, (V.int .u8 x2)), (5, (V.int .u8 y6805.1)), (0, (V.bool y6805.2))] 35) ?_
      refine Rn.g ?_
      rcases tf y6805.2 with h6807 | h6807
      · rw [ite_t h6807] at h; refine Ro.p (bool_of h6807) ?_
        refine Ro.t 6 ?_
        refine Ro.d (mkE [(6, (V.bool (y6805.1 == x2)))] 38) ?_
        refine Run.ret ?_
        have h := Option.some.inj h; subst h
        exact ⟨(V.bool (y6805.1 == x2)), (by kernel_rfl), (by kernel_rfl), hp⟩
      · rw [ite_f h6807] at h; refine Ro.p (bool_of h6807) ?_
        refine Ro.t 6 ?_
        refine Ro.d (mkE [(6, (V.bool false))] 38) ?_
        refine Run.ret ?_
        have h := Option.some.inj h; subst h
        exact ⟨(V.bool false), (by kernel_rfl), (by kernel_rfl), hp⟩

def F56 (x0 : Int) (x1 : (List Int)) (x2 : Int) : Option Bool :=
  if (x0 == (17 : Int)) then
    F56_j1 x0 x1 x2 ((1 : Int))
  else
    if (x0 == (18 : Int)) then
      F56_j1 x0 x1 x2 ((1 : Int))
    else
      F56_j1 x0 x1 x2 ((2 : Int))

theorem w56 {x0 : Int} {x1 : (List Int)} {x2 : Int} {r : Bool} (h : F56 x0 x1 x2 = some r) {H : Heap} {L : List Ob} (hp : HP H (L)) : Fn T 56 [(V.int .u8 x0), (Zl (EI .u8) x1), (V.int .u8 x2)] H (Q56 L r) := by
  refine Fn.enterE t56 (e0 := (mkE [(0, (V.int .u8 x0)), (0, (Zl (EI .u8) x1)), (0, (V.int .u8 x2))] 42)) (by kernel_rfl) ?_
  show Run T (.clr [] i56n18) _ _ (finE none [6] (Q56 L r))
  refine Rn.k (mkE [(0, (V.int .u8 x0)), (0, (Zl (EI .u8) x1)), (0, (V.int .u8 x2))] 42) ?_
  unfold F56 at h
  refine Rn.g ?_
  refine Ro.t 1 ?_
  refine Ro.d (mkE [(0, (V.int .u8 x0)), (0, (Zl (EI .u8) x1)), (0, (V.int .u8 x2))] 42) ?_
  refine Rn.g ?_
  refine Ro.t 1 ?_
  refine Ro.d (mkE [(0, (V.int .u8 x0)), (0, (Zl (EI .u8) x1)), (0, (V.int .u8 x2)), (4, (i6 (2 : Int)))] 37) ?_
  refine Run.seq ?_
  refine Rn.g ?_
  refine Ro.t 1 ?_
  rcases tf (x0 == (17 : Int)) with h6808 | h6808
  · rw [ite_t h6808] at h; refine Ro.p (bool_of h6808) ?_
    refine Ro.t 4 ?_
    refine Ro.d (mkE [(0, (V.int .u8 x0)), (0, (Zl (EI .u8) x1)), (0, (V.int .u8 x2)), (4, (i6 (2 : Int))), (7, (V.bool true))] 29) ?_
    refine Run.condT (by kernel_rfl) ?_
    refine Run.rgn ?_
    refine Ro.t 1 ?_
    refine Ro.d (mkE [(0, (V.int .u8 x0)), (0, (Zl (EI .u8) x1)), (0, (V.int .u8 x2)), (4, (i6 (1 : Int)))] 37) ?_
    exact w56_j1 h hp
  · rw [ite_f h6808] at h; refine Ro.p (bool_of h6808) ?_
    refine Ro.t 4 ?_
    refine Ro.d (mkE [(0, (V.int .u8 x0)), (0, (Zl (EI .u8) x1)), (0, (V.int .u8 x2)), (4, (i6 (2 : Int))), (7, (V.bool (x0 == (18 : Int))))] 29) ?_
    rcases tf (x0 == (18 : Int)) with h6809 | h6809
    · rw [ite_t h6809] at h; refine Rn.t h6809 ?_
      refine Run.rgn ?_
      refine Ro.t 1 ?_
      refine Ro.d (mkE [(0, (V.int .u8 x0)), (0, (Zl (EI .u8) x1)), (0, (V.int .u8 x2)), (4, (i6 (1 : Int)))] 37) ?_
      exact w56_j1 h hp
    · rw [ite_f h6809] at h; refine Rn.f h6809 ?_
      refine Run.skip ?_
      refine Rn.c (mkE [(0, (V.int .u8 x0)), (0, (Zl (EI .u8) x1)), (0, (V.int .u8 x2)), (4, (i6 (2 : Int)))] 37) ?_
      exact w56_j1 h hp

theorem c56 {x0 : Int} {x1 : (List Int)} {x2 : Int} {r : Bool} (h : F56 x0 x1 x2 = some r) (s : Bool) : Fn T 56 [(V.int .u8 x0), (Zl (EI .u8) x1), (V.int .u8 x2)] [] (fun v hh => deep s hh deepN v = some (EB.e r)) := by
  refine (w56 h HP.nil).mono ?_
  rintro v hh ⟨rfl, hp⟩
  exact EB.hd s hh 38 _ (.inr rfl)

end Go.Eng.Gra
