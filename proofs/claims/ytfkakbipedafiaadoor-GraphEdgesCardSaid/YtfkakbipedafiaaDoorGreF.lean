/- Plain functions with the answers of the layer's functions, and the proofs (lines written by a program of this session's; no condition beyond those stated). -/
import Derived.Test.YtfkakbipedafiaaDoorGreFa
namespace Go.Eng.Gra
open Go Go.Eng
set_option linter.unusedSectionVars false
set_option linter.unusedVariables false
set_option linter.unusedSimpArgs false
set_option maxRecDepth 20000
/- smithy/scalar.Turns -/
abbrev Q57 (L : List Ob) (r : Bool) : V → Heap → Prop := fun v h => v = EB.e r ∧ HP h (L)
abbrev RR57 (L : List Ob) (r : Bool) : List V → Heap → Prop := fun e h => endR none [4] (Q57 L r) e h

def F57 (x0 : Int) (x1 : Int) : Option Bool :=
  (F76 x0).bind fun y6825 =>
  if y6825 then
    (F76 x1).bind fun y6828 =>
    if y6828 then
      some true
    else
      some (x1 == (5 : Int))
  else
    if (x0 == (5 : Int)) then
      (F76 x1).bind fun y6832 =>
      if y6832 then
        some true
      else
        some (x1 == (5 : Int))
    else
      some false

theorem w57 {x0 : Int} {x1 : Int} {r : Bool} (h : F57 x0 x1 = some r) {H : Heap} {L : List Ob} (hp : HP H (L)) : Fn T 57 [(V.int .u8 x0), (V.int .u8 x1)] H (Q57 L r) := by
  refine Fn.enterE t57 (e0 := (mkE [(0, (V.int .u8 x0)), (0, (V.int .u8 x1))] 17)) (by kernel_rfl) ?_
  show Run T (.clr [] i57n3) _ _ (finE none [4] (Q57 L r))
  refine Rn.k (mkE [(0, (V.int .u8 x0)), (0, (V.int .u8 x1))] 17) ?_
  unfold F57 at h
  refine Rn.g ?_
  refine Ro.t 1 ?_
  refine Ro.d (mkE [(0, (V.int .u8 x0)), (0, (V.int .u8 x1))] 17) ?_
  refine Rn.g ?_
  refine Ro.t 1 ?_
  obtain ⟨y6825, h6826, h⟩ := bind_some h
  rcases tf y6825 with h6827 | h6827
  · subst h6827; rw [if_pos rfl] at h
    refine RunO.c1 (by kernel_rfl) (by kernel_rfl) (c76 h6826 _) ?_
    refine Ro.t 6 ?_
    obtain ⟨y6828, h6829, h⟩ := bind_some h
    rcases tf y6828 with h6830 | h6830
    · subst h6830; rw [if_pos rfl] at h
      refine RunO.c1 (by kernel_rfl) (by kernel_rfl) (c76 h6829 _) ?_
      refine Ro.t 6 ?_
      refine Ro.d (mkE [(4, (V.bool true))] 14) ?_
      refine Run.ret ?_
      have h := Option.some.inj h; subst h
      exact ⟨(V.bool true), (by kernel_rfl), (by kernel_rfl), hp⟩
    · subst h6830; rw [if_neg (by decide)] at h
      refine RunO.c1 (by kernel_rfl) (by kernel_rfl) (c76 h6829 _) ?_
      refine Ro.t 6 ?_
      refine Ro.d (mkE [(4, (V.bool (x1 == (5 : Int))))] 14) ?_
      refine Run.ret ?_
      have h := Option.some.inj h; subst h
      exact ⟨(V.bool (x1 == (5 : Int))), (by kernel_rfl), (by kernel_rfl), hp⟩
  · subst h6827; rw [if_neg (by decide)] at h
    refine RunO.c1 (by kernel_rfl) (by kernel_rfl) (c76 h6826 _) ?_
    refine Ro.t 2 ?_
    rcases tf (x0 == (5 : Int)) with h6831 | h6831
    · rw [ite_t h6831] at h; refine Ro.p (bool_of h6831) ?_
      refine Ro.t 3 ?_
      obtain ⟨y6832, h6833, h⟩ := bind_some h
      rcases tf y6832 with h6834 | h6834
      · subst h6834; rw [if_pos rfl] at h
        refine RunO.c1 (by kernel_rfl) (by kernel_rfl) (c76 h6833 _) ?_
        refine Ro.t 6 ?_
        refine Ro.d (mkE [(4, (V.bool true))] 14) ?_
        refine Run.ret ?_
        have h := Option.some.inj h; subst h
        exact ⟨(V.bool true), (by kernel_rfl), (by kernel_rfl), hp⟩
      · subst h6834; rw [if_neg (by decide)] at h
        refine RunO.c1 (by kernel_rfl) (by kernel_rfl) (c76 h6833 _) ?_
        refine Ro.t 6 ?_
        refine Ro.d (mkE [(4, (V.bool (x1 == (5 : Int))))] 14) ?_
        refine Run.ret ?_
        have h := Option.some.inj h; subst h
        exact ⟨(V.bool (x1 == (5 : Int))), (by kernel_rfl), (by kernel_rfl), hp⟩
    · rw [ite_f h6831] at h; refine Ro.p (bool_of h6831) ?_
      refine Ro.t 10 ?_
      refine Ro.d (mkE [(4, (V.bool false))] 14) ?_
      refine Run.ret ?_
      have h := Option.some.inj h; subst h
      exact ⟨(V.bool false), (by kernel_rfl), (by kernel_rfl), hp⟩

theorem c57 {x0 : Int} {x1 : Int} {r : Bool} (h : F57 x0 x1 = some r) (s : Bool) : Fn T 57 [(V.int .u8 x0), (V.int .u8 x1)] [] (fun v hh => deep s hh deepN v = some (EB.e r)) := by
  refine (w57 h HP.nil).mono ?_
  rintro v hh ⟨rfl, hp⟩
  exact EB.hd s hh 38 _ (.inr rfl)

/- slices.Equal[[]smithy/api.Type,smithy/api.Type] -/
abbrev Q77 (L : List Ob) (r : Bool) : V → Heap → Prop := fun v h => v = EB.e r ∧ HP h (L)
abbrev RR77 (L : List Ob) (r : Bool) : List V → Heap → Prop := fun e h => endR none [4] (Q77 L r) e h

abbrev I77_1 (x0 : (List Int)) (x1 : (List Int)) (L : List Ob) : (Int) → List V → Heap → Prop := fun s e h => e = (mkE [(0, (Zl (EI .u8) x0)), (0, (Zl (EI .u8) x1)), (10, (i6 (ln x0))), (0, (i6 s))] 12) ∧ HP h (L)

abbrev J77_1 (x0 : (List Int)) (x1 : (List Int)) (L : List Ob) : Unit → Nat → List V → Heap → Prop := fun a i e h => i = 0 ∧ clrEnv [0, 1, 4, 5, 11, 12, 13, 14, 15, 16, 17, 18, 19, 20, 21, 22, 23, 24, 25] e = (mkE [] 26) ∧ HP h (L)

def F77_1_b (x0 : (List Int)) (x1 : (List Int)) (y6930 : Int) : Option (Stp (Int) Bool Unit) :=
  if (decide (y6930 < ((List.length x0 : Nat) : Int))) then
    (idx x0 y6930).bind fun y6950 =>
    (idx x1 y6930).bind fun y6952 =>
    if (y6950 != y6952) then
      some (.ret false)
    else
      some (.next ((IntKind.i64.wrap (y6930 + (1 : Int)))))
  else
    some (.go ())

theorem w77_1_b {x0 : (List Int)} {x1 : (List Int)} {y6930 : Int} {t : (Stp (Int) Bool Unit)} (h : F77_1_b x0 x1 y6930 = some t) {H : Heap} {L : List Ob} (hp : HP H (L)) :
    Run T i77n20 (mkE [(0, (Zl (EI .u8) x0)), (0, (Zl (EI .u8) x1)), (10, (i6 (ln x0))), (0, (i6 y6930))] 12) H (stp [4, 5, 14, 15, 16, 17, 18, 19, 20, 21, 22, 23, 24, 25] (I77_1 x0 x1 L) (RR77 L) (J77_1 x0 x1 L) t) := by
  unfold F77_1_b at h
  refine Rn.g ?_
  refine Ro.t 1 ?_
  refine Ro.d (mkE [(0, (Zl (EI .u8) x0)), (0, (Zl (EI .u8) x1)), (10, (i6 (ln x0))), (0, (i6 y6930)), (0, (V.bool (decide (y6930 < (ln x0)))))] 11) ?_
  refine Run.seq ?_
  rcases tf (decide (y6930 < (ln x0))) with h6944 | h6944
  · rw [ite_t h6944] at h; refine Rn.t h6944 ?_
    refine Run.skip ?_
    refine Rn.c (mkE [(0, (Zl (EI .u8) x0)), (0, (Zl (EI .u8) x1)), (10, (i6 (ln x0))), (0, (i6 y6930))] 12) ?_
    refine Run.seq ?_
    refine Run.block ?_
    refine Rn.g ?_
    refine Ro.t 2 ?_
    refine Ro.d (mkE [(0, (Zl (EI .u8) x0)), (0, (Zl (EI .u8) x1)), (3, (i6 y6930)), (6, (i6 (ln x0))), (0, (i6 y6930))] 12) ?_
    refine Rn.g ?_
    refine Ro.t 2 ?_
    obtain ⟨y6950, h6951, h⟩ := bind_some h
    refine Ro.p (idx_fz (EI .u8) .i64 h6951) ?_
    refine Ro.t 3 ?_
    obtain ⟨y6952, h6953, h⟩ := bind_some h
    refine Ro.p (idx_fz (EI .u8) .i64 h6953) ?_
    refine Ro.t 2 ?_
    refine Ro.d (mkE [(0, (Zl (EI .u8) x0)), (0, (Zl (EI .u8) x1)), (10, (i6 (ln x0))), (0, (i6 y6930)), (10, (V.bool (y6950 != y6952)))] 1) ?_
    rcases tf (y6950 != y6952) with h6954 | h6954
    · rw [ite_t h6954] at h; refine Rn.t h6954 ?_
      refine Rn.g ?_
      refine Ro.t 1 ?_
      refine Ro.d (mkE [(4, (V.bool false))] 21) ?_
      refine Run.ret ?_
      have h := Option.some.inj h; subst h
      show RR77 L _ _ _
      exact ⟨(V.bool false), (by kernel_rfl), (by kernel_rfl), hp⟩
    · rw [ite_f h6954] at h; refine Rn.f h6954 ?_
      refine Run.skip ?_
      refine Run.clrE (ts := [4, 5, 15, 16, 17, 18, 19, 20, 21, 22, 23, 24]) (b := (.rgn i77r17)) (Q := (stp [4, 5, 14, 15, 16, 17, 18, 19, 20, 21, 22, 23, 24, 25] (I77_1 x0 x1 L) (RR77 L) (J77_1 x0 x1 L) t)) (e' := (mkE [(0, (Zl (EI .u8) x0)), (0, (Zl (EI .u8) x1)), (10, (i6 (ln x0))), (0, (i6 y6930))] 12)) (by kernel_rfl) ?_
      refine Run.rgn ?_
      refine Ro.t 2 ?_
      refine RunO.nil ?_
      have h := Option.some.inj h; subst h
      show I77_1 x0 x1 L _ _ _
      exact ⟨(by kernel_rfl), hp⟩
  · rw [ite_f h6944] at h; refine Rn.f h6944 ?_
    refine Run.exit ?_
    have h := Option.some.inj h; subst h
    show J77_1 x0 x1 L () _ _ _
    exact ⟨rfl, (by kernel_rfl), hp⟩

def F77 (x0 : (List Int)) (x1 : (List Int)) : Option Bool :=
  if (((List.length x0 : Nat) : Int) != ((List.length x1 : Nat) : Int)) then
    some false
  else
    (iter (fun s : (Int) => F77_1_b x0 x1 s) FUEL ((0 : Int))).bind fun o => match o with
    | .ret r => some r
    | .go () =>
      some true

theorem w77 {x0 : (List Int)} {x1 : (List Int)} {r : Bool} (h : F77 x0 x1 = some r) {H : Heap} {L : List Ob} (hp : HP H (L)) : Fn T 77 [(Zl (EI .u8) x0), (Zl (EI .u8) x1)] H (Q77 L r) := by
  refine Fn.enterE t77 (e0 := (mkE [(0, (Zl (EI .u8) x0)), (0, (Zl (EI .u8) x1))] 24)) (by kernel_rfl) ?_
  show Run T (.clr [] i77n28) _ _ (finE none [4] (Q77 L r))
  refine Rn.k (mkE [(0, (Zl (EI .u8) x0)), (0, (Zl (EI .u8) x1))] 24) ?_
  unfold F77 at h
  refine Rn.g ?_
  refine Ro.t 1 ?_
  refine Ro.d (mkE [(0, (Zl (EI .u8) x0)), (0, (Zl (EI .u8) x1))] 24) ?_
  refine Run.seq ?_
  refine Rn.g ?_
  refine Ro.t 1 ?_
  refine Ro.p (len_fz (EI .u8) x0) ?_
  refine Ro.t 1 ?_
  refine Ro.p (len_fz (EI .u8) x1) ?_
  refine Ro.t 1 ?_
  refine Ro.d (mkE [(0, (Zl (EI .u8) x0)), (0, (Zl (EI .u8) x1)), (8, (V.bool ((ln x0) != (ln x1))))] 15) ?_
  rcases tf ((ln x0) != (ln x1)) with h6917 | h6917
  · rw [ite_t h6917] at h; refine Rn.t h6917 ?_
    refine Rn.g ?_
    refine Ro.t 1 ?_
    refine Ro.d (mkE [(4, (V.bool false))] 21) ?_
    refine Run.ret ?_
    have h := Option.some.inj h; subst h
    exact ⟨(V.bool false), (by kernel_rfl), (by kernel_rfl), hp⟩
  · rw [ite_f h6917] at h; refine Rn.f h6917 ?_
    refine Run.skip ?_
    refine Rn.c (mkE [(0, (Zl (EI .u8) x0)), (0, (Zl (EI .u8) x1))] 24) ?_
    refine Run.seq ?_
    refine Rn.g ?_
    refine Ro.t 1 ?_
    refine Ro.p (len_fz (EI .u8) x0) ?_
    refine Ro.t 1 ?_
    refine Ro.d (mkE [(0, (Zl (EI .u8) x0)), (0, (Zl (EI .u8) x1)), (10, (i6 (ln x0))), (0, (i6 (0 : Int)))] 12) ?_
    refine Run.block ?_
    obtain ⟨o, h6955, h⟩ := bind_some h
    refine (Run.iter (I := I77_1 x0 x1 L) (RR := RR77 L) (J := J77_1 x0 x1 L) (fun s e h' t hI hf => ?_) FUEL h6955 (by exact ⟨(by kernel_rfl), hp⟩)).mono ?_
    · obtain ⟨rfl, hp⟩ := hI; exact w77_1_b hf hp
    · rintro X e' H hq
      cases o with
      | ret r => cases X <;> first | exact hq.elim | (cases h; exact hq)
      | go a => 
        cases X with | nrm => exact hq.elim | ret => exact hq.elim | ext i => ?_
        obtain ⟨rfl, he, hp⟩ := hq
        dsimp only at h
        refine Run.clrE (ts := [0, 1, 4, 5, 11, 12, 13, 14, 15, 16, 17, 18, 19, 20, 21, 22, 23, 24, 25]) (b := i77n25) (Q := (finE none [4] (Q77 L r))) he ?_
        refine Rn.g ?_
        refine Ro.t 1 ?_
        refine Ro.d (mkE [(4, (V.bool true))] 21) ?_
        refine Run.ret ?_
        have h := Option.some.inj h; subst h
        exact ⟨(V.bool true), (by kernel_rfl), (by kernel_rfl), hp⟩

theorem c77 {x0 : (List Int)} {x1 : (List Int)} {r : Bool} (h : F77 x0 x1 = some r) (s : Bool) : Fn T 77 [(Zl (EI .u8) x0), (Zl (EI .u8) x1)] [] (fun v hh => deep s hh deepN v = some (EB.e r)) := by
  refine (w77 h HP.nil).mono ?_
  rintro v hh ⟨rfl, hp⟩
  exact EB.hd s hh 38 _ (.inr rfl)

/- smithy/graph.called -/
abbrev Q58 (L : List Ob) (r : Bool) : V → Heap → Prop := fun v h => v = EB.e r ∧ HP h (L)
abbrev RR58 (L : List Ob) (r : Bool) : List V → Heap → Prop := fun e h => endR none [8] (Q58 L r) e h

abbrev I58_1 (x2 : (List Int)) (x3 : Int) (y6964 : T_Graph) (b6966 : Nat) (L : List Ob) : (Int) → List V → Heap → Prop := fun s e h => e = (mkE [(2, (Zl (EI .u8) x2)), (0, (V.int .u8 x3)), (5, (V.ptr b6966 0 0)), (14, (Zl (EI .i64) y6964.fParams)), (0, (i6 (ln y6964.fParams))), (0, (i6 s))] 22) ∧ HP h ((some (b6966, 0), [(ES.e y6964.fName), (Zl (EI .i64) y6964.fParams), (V.int .u8 y6964.fResult), (Zl (EI .u8) y6964.fVars), (Zl E_Array y6964.fArrays), (Zl E_Block y6964.fBlocks)]) :: L)

abbrev J58_1 (x2 : (List Int)) (x3 : Int) (y6964 : T_Graph) (b6966 : Nat) (L : List Ob) : Unit → Nat → List V → Heap → Prop := fun a i e h => i = 0 ∧ clrEnv [8, 11, 23, 24, 25, 26, 27, 28, 29, 30, 31, 32, 33, 34, 35, 36] e = (mkE [(2, (Zl (EI .u8) x2)), (0, (V.int .u8 x3)), (5, (V.ptr b6966 0 0))] 39) ∧ HP h ((some (b6966, 0), [(ES.e y6964.fName), (Zl (EI .i64) y6964.fParams), (V.int .u8 y6964.fResult), (Zl (EI .u8) y6964.fVars), (Zl E_Array y6964.fArrays), (Zl E_Block y6964.fBlocks)]) :: L)

def F58_1_b (x2 : (List Int)) (x3 : Int) (y6964 : T_Graph) (y6979 : Int) : Option (Stp (Int) Bool Unit) :=
  if (decide (y6979 < ((List.length y6964.fParams : Nat) : Int))) then
    (idx y6964.fParams y6979).bind fun y6999 =>
    (F34 y6999 ((List.length y6964.fVars : Nat) : Int)).bind fun y7001 =>
    if (!y7001) then
      some (.ret false)
    else
      some (.next ((IntKind.i64.wrap (y6979 + (1 : Int)))))
  else
    some (.go ())

theorem w58_1_b {x2 : (List Int)} {x3 : Int} {y6964 : T_Graph} {y6979 : Int} {t : (Stp (Int) Bool Unit)} (h : F58_1_b x2 x3 y6964 y6979 = some t) {b6966 : Nat} {H : Heap} {L : List Ob} (hp : HP H ((some (b6966, 0), [(ES.e y6964.fName), (Zl (EI .i64) y6964.fParams), (V.int .u8 y6964.fResult), (Zl (EI .u8) y6964.fVars), (Zl E_Array y6964.fArrays), (Zl E_Block y6964.fBlocks)]) :: L)) :
    Run T i58n21 (mkE [(2, (Zl (EI .u8) x2)), (0, (V.int .u8 x3)), (5, (V.ptr b6966 0 0)), (14, (Zl (EI .i64) y6964.fParams)), (0, (i6 (ln y6964.fParams))), (0, (i6 y6979))] 22) H (stp [8, 11, 27, 28, 29, 30, 31, 32, 33, 34, 35, 36] (I58_1 x2 x3 y6964 b6966 L) (RR58 L) (J58_1 x2 x3 y6964 b6966 L) t) := by
  unfold F58_1_b at h
  refine Rn.g ?_
  refine Ro.t 1 ?_
  refine Ro.d (mkE [(2, (Zl (EI .u8) x2)), (0, (V.int .u8 x3)), (5, (V.ptr b6966 0 0)), (14, (Zl (EI .i64) y6964.fParams)), (0, (i6 (ln y6964.fParams))), (0, (i6 y6979)), (0, (V.bool (decide (y6979 < (ln y6964.fParams)))))] 21) ?_
  refine Run.seq ?_
  rcases tf (decide (y6979 < (ln y6964.fParams))) with h6993 | h6993
  · rw [ite_t h6993] at h; refine Rn.t h6993 ?_
    refine Run.skip ?_
    refine Rn.c (mkE [(2, (Zl (EI .u8) x2)), (0, (V.int .u8 x3)), (5, (V.ptr b6966 0 0)), (14, (Zl (EI .i64) y6964.fParams)), (0, (i6 (ln y6964.fParams))), (0, (i6 y6979))] 22) ?_
    refine Run.seq ?_
    refine Run.block ?_
    refine Rn.g ?_
    obtain ⟨y6999, h7000, h⟩ := bind_some h
    refine Ro.p (idx_fz (EI .i64) .i64 h7000) ?_
    refine Ro.t 2 ?_
    refine Ro.d (mkE [(2, (Zl (EI .u8) x2)), (0, (V.int .u8 x3)), (5, (V.ptr b6966 0 0)), (1, (i6 y6999)), (12, (Zl (EI .i64) y6964.fParams)), (0, (i6 (ln y6964.fParams))), (0, (i6 y6979))] 22) ?_
    refine Rn.g ?_
    refine Ro.t 2 ?_
    refine Ro.p (hp.ld 0 (off := 3) (n := none) (v := (Zl (EI .u8) y6964.fVars)) rfl (by kernel_rfl)) ?_
    refine Ro.p (len_fz (EI .u8) y6964.fVars) ?_
    obtain ⟨y7001, h7002, h⟩ := bind_some h
    refine RunO.c1 (by kernel_rfl) (by kernel_rfl) (c34 h7002 _) ?_
    refine Ro.t 1 ?_
    refine Ro.d (mkE [(2, (Zl (EI .u8) x2)), (0, (V.int .u8 x3)), (5, (V.ptr b6966 0 0)), (14, (Zl (EI .i64) y6964.fParams)), (0, (i6 (ln y6964.fParams))), (0, (i6 y6979)), (8, (V.bool (!y7001)))] 13) ?_
    rcases tf (!y7001) with h7003 | h7003
    · rw [ite_t h7003] at h; refine Rn.t h7003 ?_
      refine Rn.g ?_
      refine Ro.t 1 ?_
      refine Ro.d (mkE [(8, (V.bool false))] 40) ?_
      refine Run.ret ?_
      have h := Option.some.inj h; subst h
      show RR58 L _ _ _
      have hp := hp.del 0
      exact ⟨(V.bool false), (by kernel_rfl), (by kernel_rfl), hp⟩
    · rw [ite_f h7003] at h; refine Rn.f h7003 ?_
      refine Run.skip ?_
      refine Run.clrE (ts := [8, 11, 28, 29, 30, 31, 32, 33, 34, 35]) (b := (.rgn i58r18)) (Q := (stp [8, 11, 27, 28, 29, 30, 31, 32, 33, 34, 35, 36] (I58_1 x2 x3 y6964 b6966 L) (RR58 L) (J58_1 x2 x3 y6964 b6966 L) t)) (e' := (mkE [(2, (Zl (EI .u8) x2)), (0, (V.int .u8 x3)), (5, (V.ptr b6966 0 0)), (14, (Zl (EI .i64) y6964.fParams)), (0, (i6 (ln y6964.fParams))), (0, (i6 y6979))] 22)) (by kernel_rfl) ?_
      refine Run.rgn ?_
      refine Ro.t 2 ?_
      refine RunO.nil ?_
      have h := Option.some.inj h; subst h
      show I58_1 x2 x3 y6964 b6966 L _ _ _
      exact ⟨(by kernel_rfl), hp⟩
  · rw [ite_f h6993] at h; refine Rn.f h6993 ?_
    refine Run.exit ?_
    have h := Option.some.inj h; subst h
    show J58_1 x2 x3 y6964 b6966 L () _ _ _
    exact ⟨rfl, (by kernel_rfl), hp⟩

def F58 (x0 : (List T_Graph)) (x1 : T_Ins) (x2 : (List Int)) (x3 : Int) : Option Bool :=
  (F34 x1.fRef ((List.length x0 : Nat) : Int)).bind fun y6961 =>
  if (!y6961) then
    some false
  else
    (idx x0 x1.fRef).bind fun y6964 =>
    (iter (fun s : (Int) => F58_1_b x2 x3 y6964 s) FUEL ((0 : Int))).bind fun o => match o with
    | .ret r => some r
    | .go () =>
      if (y6964.fResult == x3) then
        (F52 y6964 y6964.fParams).bind fun y7006 =>
        (F77 y7006 x2).bind fun y7008 =>
        some y7008
      else
        some false

theorem w58 {x0 : (List T_Graph)} {x1 : T_Ins} {x2 : (List Int)} {x3 : Int} {r : Bool} (h : F58 x0 x1 x2 x3 = some r) {H : Heap} {L : List Ob} (hp : HP H (L)) : Fn T 58 [(Zl E_Graph x0), (E_Ins.e x1), (Zl (EI .u8) x2), (V.int .u8 x3)] H (Q58 L r) := by
  refine Fn.enterE t58 (e0 := (mkE [(0, (Zl E_Graph x0)), (0, (E_Ins.e x1)), (0, (Zl (EI .u8) x2)), (0, (V.int .u8 x3))] 45)) (by kernel_rfl) ?_
  show Run T (.clr [] i58n30) _ _ (finE none [8] (Q58 L r))
  refine Rn.k (mkE [(0, (Zl E_Graph x0)), (0, (E_Ins.e x1)), (0, (Zl (EI .u8) x2)), (0, (V.int .u8 x3))] 45) ?_
  unfold F58 at h
  refine Rn.g ?_
  refine Ro.t 2 ?_
  refine Ro.d (mkE [(0, (Zl E_Graph x0)), (1, (Zl (EI .u8) x2)), (0, (V.int .u8 x3)), (1, (V.fp (E_Ins.e x1)))] 43) ?_
  refine Run.seq ?_
  refine Rn.g ?_
  refine Ro.t 3 ?_
  refine Ro.p (len_fz E_Graph x0) ?_
  obtain ⟨y6961, h6962, h⟩ := bind_some h
  refine RunO.c1 (by kernel_rfl) (by kernel_rfl) (c34 h6962 _) ?_
  refine Ro.t 1 ?_
  refine Ro.d (mkE [(0, (Zl E_Graph x0)), (1, (Zl (EI .u8) x2)), (0, (V.int .u8 x3)), (1, (V.fp (E_Ins.e x1))), (11, (V.bool (!y6961)))] 31) ?_
  rcases tf (!y6961) with h6963 | h6963
  · rw [ite_t h6963] at h; refine Rn.t h6963 ?_
    refine Rn.g ?_
    refine Ro.t 1 ?_
    refine Ro.d (mkE [(8, (V.bool false))] 40) ?_
    refine Run.ret ?_
    have h := Option.some.inj h; subst h
    exact ⟨(V.bool false), (by kernel_rfl), (by kernel_rfl), hp⟩
  · rw [ite_f h6963] at h; refine Rn.f h6963 ?_
    refine Run.skip ?_
    refine Rn.c (mkE [(0, (Zl E_Graph x0)), (1, (Zl (EI .u8) x2)), (0, (V.int .u8 x3)), (1, (V.fp (E_Ins.e x1)))] 43) ?_
    refine Rn.g ?_
    refine Ro.t 3 ?_
    obtain ⟨y6964, h6965, h⟩ := bind_some h
    refine Ro.p (idx_fz E_Graph .i64 h6965) ?_
    refine Ro.t 1 ?_
    refine RunO.alloc hp (by kernel_rfl) ?_
    intro b6966 H hp
    have hp : HP H ((some (b6966, 0), [(ES.e ([] : List UInt8)), (V.fz (List.map (EI .i64).e ([] : List Int))), (V.int .u8 (0 : Int)), (V.fz (List.map (EI .u8).e ([] : List Int))), (V.fz (List.map E_Array.e ([] : List T_Array))), (V.fz (List.map E_Block.e ([] : List T_Block)))]) :: L) := hp
    refine RunO.st hp (by kernel_rfl) 0 (off := 0) (v := (E_Graph.e y6964)) (cs' := [(ES.e y6964.fName), (Zl (EI .i64) y6964.fParams), (V.int .u8 y6964.fResult), (Zl (EI .u8) y6964.fVars), (Zl E_Array y6964.fArrays), (Zl E_Block y6964.fBlocks)]) rfl (by kernel_rfl) (by kernel_rfl) (by kernel_rfl) ?_
    intro H hp
    refine Ro.d (mkE [(2, (Zl (EI .u8) x2)), (0, (V.int .u8 x3)), (5, (V.ptr b6966 0 0))] 39) ?_
    refine Run.seq ?_
    refine Rn.g ?_
    refine Ro.t 1 ?_
    refine Ro.p (hp.ld 0 (off := 1) (n := none) (v := (Zl (EI .i64) y6964.fParams)) rfl (by kernel_rfl)) ?_
    refine Ro.p (len_fz (EI .i64) y6964.fParams) ?_
    refine Ro.t 1 ?_
    refine Ro.d (mkE [(2, (Zl (EI .u8) x2)), (0, (V.int .u8 x3)), (5, (V.ptr b6966 0 0)), (14, (Zl (EI .i64) y6964.fParams)), (0, (i6 (ln y6964.fParams))), (0, (i6 (0 : Int)))] 22) ?_
    refine Run.block ?_
    obtain ⟨o, h7004, h⟩ := bind_some h
    refine (Run.iter (I := I58_1 x2 x3 y6964 b6966 L) (RR := RR58 L) (J := J58_1 x2 x3 y6964 b6966 L) (fun s e h' t hI hf => ?_) FUEL h7004 (by exact ⟨(by kernel_rfl), hp⟩)).mono ?_
    · obtain ⟨rfl, hp⟩ := hI; exact w58_1_b hf hp
    · rintro X e' H hq
      cases o with
      | ret r => cases X <;> first | exact hq.elim | (cases h; exact hq)
      | go a => 
        cases X with | nrm => exact hq.elim | ret => exact hq.elim | ext i => ?_
        obtain ⟨rfl, he, hp⟩ := hq
        dsimp only at h
        refine Run.clrE (ts := [8, 11, 23, 24, 25, 26, 27, 28, 29, 30, 31, 32, 33, 34, 35, 36]) (b := i58n26) (Q := (finE none [8] (Q58 L r))) he ?_
        refine Rn.g ?_
        refine Ro.t 1 ?_
        refine Ro.p (hp.ld 0 (off := 2) (n := none) (v := (V.int .u8 y6964.fResult)) rfl (by kernel_rfl)) ?_
        refine Ro.t 1 ?_
        rcases tf (y6964.fResult == x3) with h7005 | h7005
        · rw [ite_t h7005] at h; refine Ro.p (bool_of h7005) ?_
          refine Ro.t 1 ?_
          refine Ro.p (hp.ld 0 (off := 0) (n := (some 6)) (v := (E_Graph.e y6964)) rfl (by kernel_rfl)) ?_
          refine Ro.t 1 ?_
          refine Ro.p (hp.ld 0 (off := 1) (n := none) (v := (Zl (EI .i64) y6964.fParams)) rfl (by kernel_rfl)) ?_
          obtain ⟨y7006, h7007, h⟩ := bind_some h
          refine RunO.c1 (by kernel_rfl) (by kernel_rfl) (c52 h7007 _) ?_
          refine Ro.t 1 ?_
          obtain ⟨y7008, h7009, h⟩ := bind_some h
          refine RunO.c1 (by kernel_rfl) (by kernel_rfl) (c77 h7009 _) ?_
          refine Ro.t 2 ?_
          refine Ro.d (mkE [(8, (V.bool y7008))] 40) ?_
          refine Run.ret ?_
          have h := Option.some.inj h; subst h
          have hp := hp.del 0
          exact ⟨(V.bool y7008), (by kernel_rfl), (by kernel_rfl), hp⟩
        · rw [ite_f h7005] at h; refine Ro.p (bool_of h7005) ?_
          refine Ro.t 9 ?_
          refine Ro.d (mkE [(8, (V.bool false))] 40) ?_
          refine Run.ret ?_
          have h := Option.some.inj h; subst h
          have hp := hp.del 0
          exact ⟨(V.bool false), (by kernel_rfl), (by kernel_rfl), hp⟩

theorem c58 {x0 : (List T_Graph)} {x1 : T_Ins} {x2 : (List Int)} {x3 : Int} {r : Bool} (h : F58 x0 x1 x2 x3 = some r) (s : Bool) : Fn T 58 [(Zl E_Graph x0), (E_Ins.e x1), (Zl (EI .u8) x2), (V.int .u8 x3)] [] (fun v hh => deep s hh deepN v = some (EB.e r)) := by
  refine (w58 h HP.nil).mono ?_
  rintro v hh ⟨rfl, hp⟩
  exact EB.hd s hh 38 _ (.inr rfl)

/- smithy/graph.Type -/
abbrev Q31 (L : List Ob) (r : (Int × Bool)) : V → Heap → Prop := fun v h => v = .tup [(EI .u8).e r.1, EB.e r.2] ∧ HP h (L)
abbrev RR31 (L : List Ob) (r : (Int × Bool)) : List V → Heap → Prop := fun e h => endR none [6, 7] (Q31 L r) e h

def F31_j2 (y7064 : Int) (y7099 : Bool) : Option (Int × Bool) :=
  if (!y7099) then
    some ((0 : Int), false)
  else
    some (y7064, true)

theorem w31_j2 {y7064 : Int} {y7099 : Bool} {r : (Int × Bool)} (h : F31_j2 y7064 y7099 = some r) {b7063 : Nat} {H : Heap} {L : List Ob} (hp : HP H ((some (b7063, 0), [(V.int .u8 y7064)]) :: L)) :
    Run T i31n52 (mkE [(9, (V.ptr b7063 0 0)), (0, (V.bool y7099))] 94) H (finE none [6, 7] (Q31 L r)) := by
  unfold F31_j2 at h
  refine Run.seq ?_
  refine Rn.g ?_
  refine Ro.t 2 ?_
  refine Ro.d (mkE [(9, (V.ptr b7063 0 0)), (93, (V.bool (!y7099)))] 1) ?_
  rcases tf (!y7099) with h7101 | h7101
  · rw [ite_t h7101] at h; refine Rn.t h7101 ?_
    refine Rn.g ?_
    refine Ro.t 2 ?_
    refine Ro.d (mkE [(6, (V.int .u8 (0 : Int))), (0, (V.bool false))] 97) ?_
    refine Run.ret ?_
    have h := Option.some.inj h; subst h
    have hp := hp.del 0
    exact ⟨(V.tup [(V.int .u8 (0 : Int)), (V.bool false)]), (by kernel_rfl), (by kernel_rfl), hp⟩
  · rw [ite_f h7101] at h; refine Rn.f h7101 ?_
    refine Run.skip ?_
    refine Rn.c (mkE [(9, (V.ptr b7063 0 0))] 95) ?_
    refine Rn.g ?_
    refine Ro.p (hp.ld 0 (off := 0) (n := none) (v := (V.int .u8 y7064)) rfl (by kernel_rfl)) ?_
    refine Ro.t 2 ?_
    refine Ro.d (mkE [(6, (V.int .u8 y7064)), (0, (V.bool true))] 97) ?_
    refine Run.ret ?_
    have h := Option.some.inj h; subst h
    have hp := hp.del 0
    exact ⟨(V.tup [(V.int .u8 y7064), (V.bool true)]), (by kernel_rfl), (by kernel_rfl), hp⟩

def F31_j3 (x0 : (List T_Graph)) (x1 : T_Graph) (x2 : T_Ins) (y7055 : (List Int)) (y7064 : Int) (y7103 : Bool) : Option (Int × Bool) :=
  if y7103 then
    (F53 y7055 y7064).bind fun y7105 =>
    F31_j2 y7064 ((!y7105))
  else
    if (x2.fKind == (2 : Int)) then
      (F55 y7064 x2.fBits).bind fun y7108 =>
      F31_j2 y7064 (y7108)
    else
      if (x2.fKind == (4 : Int)) then
        (F56 x2.fOp y7055 y7064).bind fun y7111 =>
        F31_j2 y7064 (y7111)
      else
        if (x2.fKind == (5 : Int)) then
          (idx y7055 (0 : Int)).bind fun y7114 =>
          (F57 y7064 y7114).bind fun y7116 =>
          F31_j2 y7064 (y7116)
        else
          if (x2.fKind == (6 : Int)) then
            (idx y7055 (0 : Int)).bind fun y7119 =>
            if (y7119 == (4 : Int)) then
              (idx x1.fArrays x2.fRef).bind fun y7122 =>
              F31_j2 y7064 ((y7064 == y7122.fType))
            else
              F31_j2 y7064 (false)
          else
            if (x2.fKind == (7 : Int)) then
              (idx y7055 (0 : Int)).bind fun y7125 =>
              if (y7125 == (4 : Int)) then
                (idx y7055 (1 : Int)).bind fun y7128 =>
                (idx x1.fArrays x2.fRef).bind fun y7130 =>
                F31_j2 y7064 ((y7128 == y7130.fType))
              else
                F31_j2 y7064 (false)
            else
              if (x2.fKind == (9 : Int)) then
                (F58 x0 x2 y7055 y7064).bind fun y7133 =>
                F31_j2 y7064 (y7133)
              else
                F31_j2 y7064 (true)

theorem w31_j3 {x0 : (List T_Graph)} {x1 : T_Graph} {x2 : T_Ins} {y7055 : (List Int)} {y7064 : Int} {y7103 : Bool} {r : (Int × Bool)} (h : F31_j3 x0 x1 x2 y7055 y7064 y7103 = some r) {b7063 : Nat} {H : Heap} {L : List Ob} (hp : HP H ((some (b7063, 0), [(V.int .u8 y7064)]) :: L)) :
    Run T i31n41 (mkE [(0, (Zl E_Graph x0)), (3, (V.fp (E_Graph.e x1))), (0, (V.fp (E_Ins.e x2))), (2, (Zl (EI .u8) y7055)), (0, (V.ptr b7063 0 0)), (0, (V.bool true)), (20, (V.int .u8 x2.fKind)), (0, (V.bool y7103))] 72) H (blk 0 (thn T (.clr [0, 4, 5, 8, 30, 31, 32, 33, 34, 35, 36, 37, 38, 39, 40, 41, 42, 43, 44, 45, 46, 47, 48, 49, 50, 51, 52, 53, 54, 55, 56, 57, 58, 59, 60, 61, 62, 63, 64, 65, 66, 67, 68, 69, 70, 71, 72, 73, 74, 75, 76, 77, 78, 79, 80, 81, 82, 83, 84, 85, 86, 87, 88, 89, 90, 91, 92, 93, 94, 95, 96, 97, 98, 99, 100, 101] i31n52) (finE none [6, 7] (Q31 L r)))) := by
  unfold F31_j3 at h
  rcases tf y7103 with h7104 | h7104
  · rw [ite_t h7104] at h; refine Rn.t h7104 ?_
    refine Run.rgn ?_
    refine Ro.t 2 ?_
    obtain ⟨y7105, h7106, h⟩ := bind_some h
    have hp : HP _ ((some (b7063, 0), [(V.int .u8 y7064)]) :: L) := hp
    refine RunO.h1 (n := 53) (caps := []) (us := [(Zl (EI .u8) y7055), (V.fn 54 [(V.ptr b7063 0 0)])]) (by kernel_rfl) (by kernel_rfl) (by kernel_rfl) ((w53 h7106 hp).mono ?_)
    rintro _ H ⟨rfl, hp⟩
    have hp : HP H ((some (b7063, 0), [(V.int .u8 y7064)]) :: L) := hp
    refine Ro.t 2 ?_
    refine RunO.nil ?_
    refine Rn.c (mkE [(9, (V.ptr b7063 0 0)), (0, (V.bool (!y7105)))] 94) ?_
    exact w31_j2 h hp
  · rw [ite_f h7104] at h; refine Rn.f h7104 ?_
    refine Rn.g ?_
    refine Ro.t 2 ?_
    refine Ro.d (mkE [(0, (Zl E_Graph x0)), (3, (V.fp (E_Graph.e x1))), (0, (V.fp (E_Ins.e x2))), (2, (Zl (EI .u8) y7055)), (0, (V.ptr b7063 0 0)), (0, (V.bool true)), (20, (V.int .u8 x2.fKind)), (7, (V.bool (x2.fKind == (2 : Int))))] 65) ?_
    rcases tf (x2.fKind == (2 : Int)) with h7107 | h7107
    · rw [ite_t h7107] at h; refine Rn.t h7107 ?_
      refine Run.rgn ?_
      refine Ro.p (hp.ld 0 (off := 0) (n := none) (v := (V.int .u8 y7064)) rfl (by kernel_rfl)) ?_
      refine Ro.t 2 ?_
      obtain ⟨y7108, h7109, h⟩ := bind_some h
      refine RunO.c1 (by kernel_rfl) (by kernel_rfl) (c55 h7109 _) ?_
      refine Ro.t 1 ?_
      refine RunO.nil ?_
      refine Rn.c (mkE [(9, (V.ptr b7063 0 0)), (0, (V.bool y7108))] 94) ?_
      exact w31_j2 h hp
    · rw [ite_f h7107] at h; refine Rn.f h7107 ?_
      refine Rn.g ?_
      refine Ro.t 2 ?_
      refine Ro.d (mkE [(0, (Zl E_Graph x0)), (3, (V.fp (E_Graph.e x1))), (0, (V.fp (E_Ins.e x2))), (2, (Zl (EI .u8) y7055)), (0, (V.ptr b7063 0 0)), (0, (V.bool true)), (20, (V.int .u8 x2.fKind)), (13, (V.bool (x2.fKind == (4 : Int))))] 59) ?_
      rcases tf (x2.fKind == (4 : Int)) with h7110 | h7110
      · rw [ite_t h7110] at h; refine Rn.t h7110 ?_
        refine Run.rgn ?_
        refine Ro.t 3 ?_
        refine Ro.p (hp.ld 0 (off := 0) (n := none) (v := (V.int .u8 y7064)) rfl (by kernel_rfl)) ?_
        obtain ⟨y7111, h7112, h⟩ := bind_some h
        refine RunO.c1 (by kernel_rfl) (by kernel_rfl) (c56 h7112 _) ?_
        refine Ro.t 1 ?_
        refine RunO.nil ?_
        refine Rn.c (mkE [(9, (V.ptr b7063 0 0)), (0, (V.bool y7111))] 94) ?_
        exact w31_j2 h hp
      · rw [ite_f h7110] at h; refine Rn.f h7110 ?_
        refine Rn.g ?_
        refine Ro.t 2 ?_
        refine Ro.d (mkE [(0, (Zl E_Graph x0)), (3, (V.fp (E_Graph.e x1))), (0, (V.fp (E_Ins.e x2))), (2, (Zl (EI .u8) y7055)), (0, (V.ptr b7063 0 0)), (0, (V.bool true)), (20, (V.int .u8 x2.fKind)), (20, (V.bool (x2.fKind == (5 : Int))))] 52) ?_
        rcases tf (x2.fKind == (5 : Int)) with h7113 | h7113
        · rw [ite_t h7113] at h; refine Rn.t h7113 ?_
          refine Run.rgn ?_
          refine Ro.p (hp.ld 0 (off := 0) (n := none) (v := (V.int .u8 y7064)) rfl (by kernel_rfl)) ?_
          refine Ro.t 1 ?_
          obtain ⟨y7114, h7115, h⟩ := bind_some h
          refine Ro.p (idx_fz (EI .u8) .i64 h7115) ?_
          refine Ro.t 1 ?_
          obtain ⟨y7116, h7117, h⟩ := bind_some h
          refine RunO.c1 (by kernel_rfl) (by kernel_rfl) (c57 h7117 _) ?_
          refine Ro.t 1 ?_
          refine RunO.nil ?_
          refine Rn.c (mkE [(9, (V.ptr b7063 0 0)), (0, (V.bool y7116))] 94) ?_
          exact w31_j2 h hp
        · rw [ite_f h7113] at h; refine Rn.f h7113 ?_
          refine Rn.g ?_
          refine Ro.t 2 ?_
          refine Ro.d (mkE [(0, (Zl E_Graph x0)), (3, (V.fp (E_Graph.e x1))), (0, (V.fp (E_Ins.e x2))), (2, (Zl (EI .u8) y7055)), (0, (V.ptr b7063 0 0)), (0, (V.bool true)), (20, (V.int .u8 x2.fKind)), (27, (V.bool (x2.fKind == (6 : Int))))] 45) ?_
          rcases tf (x2.fKind == (6 : Int)) with h7118 | h7118
          · rw [ite_t h7118] at h; refine Rn.t h7118 ?_
            refine Run.rgn ?_
            refine Ro.t 1 ?_
            obtain ⟨y7119, h7120, h⟩ := bind_some h
            refine Ro.p (idx_fz (EI .u8) .i64 h7120) ?_
            refine Ro.t 1 ?_
            rcases tf (y7119 == (4 : Int)) with h7121 | h7121
            · rw [ite_t h7121] at h; refine Ro.p (bool_of h7121) ?_
              refine Ro.t 1 ?_
              refine Ro.p (hp.ld 0 (off := 0) (n := none) (v := (V.int .u8 y7064)) rfl (by kernel_rfl)) ?_
              refine Ro.t 4 ?_
              obtain ⟨y7122, h7123, h⟩ := bind_some h
              refine Ro.p (idx_fz E_Array .i64 h7123) ?_
              refine Ro.t 5 ?_
              refine RunO.nil ?_
              refine Rn.c (mkE [(9, (V.ptr b7063 0 0)), (0, (V.bool (y7064 == y7122.fType)))] 94) ?_
              exact w31_j2 h hp
            · rw [ite_f h7121] at h; refine Ro.p (bool_of h7121) ?_
              refine Ro.t 12 ?_
              refine RunO.nil ?_
              refine Rn.c (mkE [(9, (V.ptr b7063 0 0)), (0, (V.bool false))] 94) ?_
              exact w31_j2 h hp
          · rw [ite_f h7118] at h; refine Rn.f h7118 ?_
            refine Rn.g ?_
            refine Ro.t 2 ?_
            refine Ro.d (mkE [(0, (Zl E_Graph x0)), (3, (V.fp (E_Graph.e x1))), (0, (V.fp (E_Ins.e x2))), (2, (Zl (EI .u8) y7055)), (0, (V.ptr b7063 0 0)), (0, (V.bool true)), (20, (V.int .u8 x2.fKind)), (44, (V.bool (x2.fKind == (7 : Int))))] 28) ?_
            rcases tf (x2.fKind == (7 : Int)) with h7124 | h7124
            · rw [ite_t h7124] at h; refine Rn.t h7124 ?_
              refine Run.rgn ?_
              refine Ro.t 1 ?_
              obtain ⟨y7125, h7126, h⟩ := bind_some h
              refine Ro.p (idx_fz (EI .u8) .i64 h7126) ?_
              refine Ro.t 1 ?_
              rcases tf (y7125 == (4 : Int)) with h7127 | h7127
              · rw [ite_t h7127] at h; refine Ro.p (bool_of h7127) ?_
                refine Ro.t 2 ?_
                obtain ⟨y7128, h7129, h⟩ := bind_some h
                refine Ro.p (idx_fz (EI .u8) .i64 h7129) ?_
                refine Ro.t 5 ?_
                obtain ⟨y7130, h7131, h⟩ := bind_some h
                refine Ro.p (idx_fz E_Array .i64 h7131) ?_
                refine Ro.t 5 ?_
                refine RunO.nil ?_
                refine Rn.c (mkE [(9, (V.ptr b7063 0 0)), (0, (V.bool (y7128 == y7130.fType)))] 94) ?_
                exact w31_j2 h hp
              · rw [ite_f h7127] at h; refine Ro.p (bool_of h7127) ?_
                refine Ro.t 14 ?_
                refine RunO.nil ?_
                refine Rn.c (mkE [(9, (V.ptr b7063 0 0)), (0, (V.bool false))] 94) ?_
                exact w31_j2 h hp
            · rw [ite_f h7124] at h; refine Rn.f h7124 ?_
              refine Rn.g ?_
              refine Ro.t 2 ?_
              refine Ro.d (mkE [(0, (Zl E_Graph x0)), (4, (V.fp (E_Ins.e x2))), (2, (Zl (EI .u8) y7055)), (0, (V.ptr b7063 0 0)), (0, (V.bool true)), (84, (V.bool (x2.fKind == (9 : Int))))] 9) ?_
              rcases tf (x2.fKind == (9 : Int)) with h7132 | h7132
              · rw [ite_t h7132] at h; refine Rn.t h7132 ?_
                refine Run.rgn ?_
                refine Ro.t 3 ?_
                refine Ro.p (hp.ld 0 (off := 0) (n := none) (v := (V.int .u8 y7064)) rfl (by kernel_rfl)) ?_
                obtain ⟨y7133, h7134, h⟩ := bind_some h
                refine RunO.c1 (by kernel_rfl) (by kernel_rfl) (c58 h7134 _) ?_
                refine Ro.t 1 ?_
                refine RunO.nil ?_
                refine Rn.c (mkE [(9, (V.ptr b7063 0 0)), (0, (V.bool y7133))] 94) ?_
                exact w31_j2 h hp
              · rw [ite_f h7132] at h; refine Rn.f h7132 ?_
                refine Run.skip ?_
                refine Rn.c (mkE [(9, (V.ptr b7063 0 0)), (0, (V.bool true))] 94) ?_
                exact w31_j2 h hp

def F31_j1 (x0 : (List T_Graph)) (x1 : T_Graph) (x2 : T_Ins) (y7055 : (List Int)) (y7064 : Int) : Option (Int × Bool) :=
  if (x2.fKind == (1 : Int)) then
    F31_j3 x0 x1 x2 y7055 y7064 ((x2.fKind == (1 : Int)))
  else
    F31_j3 x0 x1 x2 y7055 y7064 ((x2.fKind == (3 : Int)))

theorem w31_j1 {x0 : (List T_Graph)} {x1 : T_Graph} {x2 : T_Ins} {y7055 : (List Int)} {y7064 : Int} {r : (Int × Bool)} (h : F31_j1 x0 x1 x2 y7055 y7064 = some r) {b7063 : Nat} {H : Heap} {L : List Ob} (hp : HP H ((some (b7063, 0), [(V.int .u8 y7064)]) :: L)) :
    Run T i31n53 (mkE [(0, (Zl E_Graph x0)), (3, (V.fp (E_Graph.e x1))), (0, (V.fp (E_Ins.e x2))), (2, (Zl (EI .u8) y7055)), (0, (V.ptr b7063 0 0)), (0, (V.bool true))] 94) H (finE none [6, 7] (Q31 L r)) := by
  unfold F31_j1 at h
  refine Run.seq ?_
  refine Rn.g ?_
  refine Ro.t 2 ?_
  refine Ro.d (mkE [(0, (Zl E_Graph x0)), (3, (V.fp (E_Graph.e x1))), (0, (V.fp (E_Ins.e x2))), (2, (Zl (EI .u8) y7055)), (0, (V.ptr b7063 0 0)), (0, (V.bool true)), (20, (V.int .u8 x2.fKind))] 73) ?_
  refine Run.block ?_
  refine Run.seq ?_
  refine Rn.g ?_
  refine Ro.t 2 ?_
  refine Ro.d (mkE [(0, (Zl E_Graph x0)), (3, (V.fp (E_Graph.e x1))), (0, (V.fp (E_Ins.e x2))), (2, (Zl (EI .u8) y7055)), (0, (V.ptr b7063 0 0)), (0, (V.bool true)), (20, (V.int .u8 x2.fKind)), (0, (V.bool (x2.fKind == (1 : Int))))] 72) ?_
  rcases tf (x2.fKind == (1 : Int)) with h7135 | h7135
  · rw [ite_t h7135] at h; refine Rn.t h7135 ?_
    refine Run.skip ?_
    refine Rn.c (mkE [(0, (Zl E_Graph x0)), (3, (V.fp (E_Graph.e x1))), (0, (V.fp (E_Ins.e x2))), (2, (Zl (EI .u8) y7055)), (0, (V.ptr b7063 0 0)), (0, (V.bool true)), (20, (V.int .u8 x2.fKind)), (0, (V.bool (x2.fKind == (1 : Int))))] 72) ?_
    exact w31_j3 h hp
  · rw [ite_f h7135] at h; refine Rn.f h7135 ?_
    refine Run.rgn ?_
    refine Ro.t 2 ?_
    refine Ro.d (mkE [(0, (Zl E_Graph x0)), (3, (V.fp (E_Graph.e x1))), (0, (V.fp (E_Ins.e x2))), (2, (Zl (EI .u8) y7055)), (0, (V.ptr b7063 0 0)), (0, (V.bool true)), (20, (V.int .u8 x2.fKind)), (0, (V.bool (x2.fKind == (3 : Int))))] 72) ?_
    exact w31_j3 h hp

def F31 (x0 : (List T_Graph)) (x1 : T_Graph) (x2 : T_Ins) : Option (Int × Bool) :=
  (F51 x1 x2).bind fun y7052 =>
  if (!y7052) then
    some ((0 : Int), false)
  else
    (F52 x1 x2.fArgs).bind fun y7055 =>
    (idx G0 x2.fKind).bind fun y7136 =>
    if y7136.fdst then
      (idx x1.fVars x2.fDst).bind fun y7139 =>
      F31_j1 x0 x1 x2 y7055 (y7139)
    else
      F31_j1 x0 x1 x2 y7055 ((0 : Int))

theorem w31 {x0 : (List T_Graph)} {x1 : T_Graph} {x2 : T_Ins} {r : (Int × Bool)} (h : F31 x0 x1 x2 = some r) {H : Heap} {L : List Ob} (hp : HP H (L)) : Fn T 31 [(Zl E_Graph x0), (E_Graph.e x1), (E_Ins.e x2)] H (Q31 L r) := by
  refine Fn.enterE t31 (e0 := (mkE [(0, (Zl E_Graph x0)), (0, (E_Graph.e x1)), (0, (E_Ins.e x2))] 102)) (by kernel_rfl) ?_
  show Run T (.clr [] i31n57) _ _ (finE none [6, 7] (Q31 L r))
  refine Rn.k (mkE [(0, (Zl E_Graph x0)), (0, (E_Graph.e x1)), (0, (E_Ins.e x2))] 102) ?_
  unfold F31 at h
  refine Rn.g ?_
  refine Ro.t 4 ?_
  refine Ro.d (mkE [(0, (Zl E_Graph x0)), (3, (V.fp (E_Graph.e x1))), (0, (V.fp (E_Ins.e x2)))] 99) ?_
  refine Run.seq ?_
  refine Rn.g ?_
  refine Ro.t 2 ?_
  obtain ⟨y7052, h7053, h⟩ := bind_some h
  refine RunO.c1 (by kernel_rfl) (by kernel_rfl) (c51 h7053 _) ?_
  refine Ro.t 1 ?_
  refine Ro.d (mkE [(0, (Zl E_Graph x0)), (3, (V.fp (E_Graph.e x1))), (0, (V.fp (E_Ins.e x2))), (8, (V.bool (!y7052)))] 90) ?_
  rcases tf (!y7052) with h7054 | h7054
  · rw [ite_t h7054] at h; refine Rn.t h7054 ?_
    refine Rn.g ?_
    refine Ro.t 2 ?_
    refine Ro.d (mkE [(6, (V.int .u8 (0 : Int))), (0, (V.bool false))] 97) ?_
    refine Run.ret ?_
    have h := Option.some.inj h; subst h
    exact ⟨(V.tup [(V.int .u8 (0 : Int)), (V.bool false)]), (by kernel_rfl), (by kernel_rfl), hp⟩
  · rw [ite_f h7054] at h; refine Rn.f h7054 ?_
    refine Run.skip ?_
    refine Rn.c (mkE [(0, (Zl E_Graph x0)), (3, (V.fp (E_Graph.e x1))), (0, (V.fp (E_Ins.e x2)))] 99) ?_
    refine Rn.g ?_
    refine Ro.t 3 ?_
    obtain ⟨y7055, h7056, h⟩ := bind_some h
    refine RunO.c1 (by kernel_rfl) (by kernel_rfl) (c52 h7056 _) ?_
    refine RunO.alloc hp (by kernel_rfl) ?_
    intro b7057 H hp
    have hp : HP H ((some (b7057, 0), [(V.int .u8 (0 : Int))]) :: L) := hp
    refine Ro.t 1 ?_
    refine RunO.st hp (by kernel_rfl) 0 (off := 0) (v := (V.int .u8 (0 : Int))) (cs' := [(V.int .u8 (0 : Int))]) rfl (by kernel_rfl) (by kernel_rfl) (by kernel_rfl) ?_
    intro H hp
    refine Ro.t 1 ?_
    refine Ro.d (mkE [(0, (Zl E_Graph x0)), (3, (V.fp (E_Graph.e x1))), (0, (V.fp (E_Ins.e x2))), (2, (Zl (EI .u8) y7055)), (0, (V.ptr b7057 0 0)), (0, (V.bool true))] 94) ?_
    refine Run.seq ?_
    refine Rn.g ?_
    refine Ro.t 2 ?_
    obtain ⟨y7136, h7137, h⟩ := bind_some h
    refine Ro.p (idxp_fp E_form (l := G0) .u8 (n := 11) (cs := [V.bool false, V.bool false, V.bool false, V.bool false, i6 0, V.bool true, V.bool false, V.bool false, V.bool false, i6 (-1), V.bool true, V.bool false, V.bool true, V.bool false, i6 0, V.bool true, V.bool false, V.bool false, V.bool false, i6 1, V.bool true, V.bool true, V.bool false, V.bool false, i6 (-1), V.bool true, V.bool false, V.bool false, V.bool false, i6 1, V.bool true, V.bool false, V.bool false, V.bool true, i6 1, V.bool false, V.bool false, V.bool false, V.bool true, i6 2, V.bool false, V.bool false, V.bool false, V.bool true, i6 0, V.bool true, V.bool false, V.bool false, V.bool true, i6 (-1), V.bool false, V.bool false, V.bool false, V.bool false, i6 1]) (by kernel_rfl) (by kernel_rfl) h7137) ?_
    refine Ro.t 2 ?_
    refine Ro.d (mkE [(0, (Zl E_Graph x0)), (3, (V.fp (E_Graph.e x1))), (0, (V.fp (E_Ins.e x2))), (2, (Zl (EI .u8) y7055)), (0, (V.ptr b7057 0 0)), (0, (V.bool true)), (12, (V.bool y7136.fdst))] 81) ?_
    rcases tf y7136.fdst with h7138 | h7138
    · rw [ite_t h7138] at h; refine Rn.t h7138 ?_
      refine Run.rgn ?_
      refine Ro.t 4 ?_
      obtain ⟨y7139, h7140, h⟩ := bind_some h
      refine Ro.p (idx_fz (EI .u8) .i64 h7140) ?_
      refine Ro.t 1 ?_
      refine RunO.st hp (by kernel_rfl) 0 (off := 0) (v := (V.int .u8 y7139)) (cs' := [(V.int .u8 y7139)]) rfl (by kernel_rfl) (by kernel_rfl) (by kernel_rfl) ?_
      intro H hp
      refine Ro.d (mkE [(0, (Zl E_Graph x0)), (3, (V.fp (E_Graph.e x1))), (0, (V.fp (E_Ins.e x2))), (2, (Zl (EI .u8) y7055)), (0, (V.ptr b7057 0 0)), (0, (V.bool true))] 94) ?_
      exact w31_j1 h hp
    · rw [ite_f h7138] at h; refine Rn.f h7138 ?_
      refine Run.skip ?_
      refine Rn.c (mkE [(0, (Zl E_Graph x0)), (3, (V.fp (E_Graph.e x1))), (0, (V.fp (E_Ins.e x2))), (2, (Zl (EI .u8) y7055)), (0, (V.ptr b7057 0 0)), (0, (V.bool true))] 94) ?_
      exact w31_j1 h hp

theorem c31 {x0 : (List T_Graph)} {x1 : T_Graph} {x2 : T_Ins} {r : (Int × Bool)} (h : F31 x0 x1 x2 = some r) (s : Bool) : Fn T 31 [(Zl E_Graph x0), (E_Graph.e x1), (E_Ins.e x2)] [] (fun v hh => deep s hh deepN v = some (.tup [(EI .u8).e r.1, EB.e r.2])) := by
  refine (w31 h HP.nil).mono ?_
  rintro v hh ⟨rfl, hp⟩
  exact congrArg (Option.map V.tup) (omapc ((EI .u8).hd s hh 37 _ (.inr rfl)) (omapc (EB.hd s hh 37 _ (.inr rfl)) omapn))

/- smithy/graph.right -/
abbrev Q32 (L : List Ob) (r : Bool) : V → Heap → Prop := fun v h => v = EB.e r ∧ HP h (L)
abbrev RR32 (L : List Ob) (r : Bool) : List V → Heap → Prop := fun e h => endR none [4] (Q32 L r) e h

abbrev I32_1 (x0 : (List T_Graph)) (x1 : T_Graph) (y7346 : (List (List Int))) (L : List Ob) : (Int) → List V → Heap → Prop := fun s e h => e = (mkE [(0, (Zl E_Graph x0)), (2, (V.fp (E_Graph.e x1))), (1, (V.fz (List.map (EL (EI .i64)).e y7346))), (12, (Zl E_Block x1.fBlocks)), (0, (i6 (ln x1.fBlocks))), (0, (i6 s))] 55) ∧ HP h (L)

abbrev J32_1 (x0 : (List T_Graph)) (x1 : T_Graph) (y7346 : (List (List Int))) (L : List Ob) : Unit → Nat → List V → Heap → Prop := fun a i e h => i = 0 ∧ clrEnv [0, 3, 4, 5, 6, 7, 9, 10, 11, 17, 18, 19, 20, 21, 22, 23, 24, 25, 26, 27, 28, 29, 30, 31, 32, 33, 34, 35, 36, 37, 38, 39, 40, 41, 42, 43, 44, 45, 46, 47, 48, 49, 50, 51, 52, 53, 54, 55, 56, 57, 58, 59, 60, 61, 62, 63, 64, 65, 66, 67, 68, 69, 70, 71, 72, 73, 74, 75] e = (mkE [] 76) ∧ HP h (L)

abbrev I32_2 (x0 : (List T_Graph)) (x1 : T_Graph) (y7346 : (List (List Int))) (y7462 : Int) (y7641 : T_Block) (L : List Ob) : (Int) → List V → Heap → Prop := fun s e h => e = (mkE [(0, (Zl E_Graph x0)), (2, (V.fp (E_Graph.e x1))), (1, (V.fz (List.map (EL (EI .i64)).e y7346))), (12, (Zl E_Block x1.fBlocks)), (0, (i6 (ln x1.fBlocks))), (0, (i6 y7462)), (38, (Zl E_Ins y7641.fIns)), (0, (i6 (ln y7641.fIns))), (0, (i6 s))] 14) ∧ HP h (L)

abbrev J32_2 (x0 : (List T_Graph)) (x1 : T_Graph) (y7346 : (List (List Int))) (y7462 : Int) (y7641 : T_Block) (L : List Ob) : Unit → Nat → List V → Heap → Prop := fun a i e h => i = 2 ∧ clrEnv [4, 6, 7, 9, 10, 11, 22, 23, 24, 25, 26, 27, 28, 29, 30, 31, 32, 33, 34, 35, 36, 37, 38, 39, 40, 41, 42, 43, 44, 45, 46, 47, 48, 49, 50, 51, 52, 53, 54, 55, 56, 57, 58, 59, 60, 61, 62, 63, 64, 65, 66, 67, 68, 69, 70, 71, 72, 73, 74] e = (mkE [(0, (Zl E_Graph x0)), (2, (V.fp (E_Graph.e x1))), (1, (V.fz (List.map (EL (EI .i64)).e y7346))), (12, (Zl E_Block x1.fBlocks)), (0, (i6 (ln x1.fBlocks))), (0, (i6 y7462))] 55) ∧ HP h (L)

def F32_2_b (x0 : (List T_Graph)) (x1 : T_Graph) (y7346 : (List (List Int))) (y7462 : Int) (y7641 : T_Block) (y7671 : Int) : Option (Stp (Int) Bool Unit) :=
  if (decide (y7671 < ((List.length y7641.fIns : Nat) : Int))) then
    (idx y7641.fIns y7671).bind fun y7694 =>
    (F31 x0 x1 y7694).bind fun y7697 =>
    if (!y7697.2) then
      some (.ret false)
    else
      some (.next ((IntKind.i64.wrap (y7671 + (1 : Int)))))
  else
    some (.go ())

theorem w32_2_b {x0 : (List T_Graph)} {x1 : T_Graph} {y7346 : (List (List Int))} {y7462 : Int} {y7641 : T_Block} {y7671 : Int} {t : (Stp (Int) Bool Unit)} (h : F32_2_b x0 x1 y7346 y7462 y7641 y7671 = some t) {H : Heap} {L : List Ob} (hp : HP H (L)) :
    Run T i32n32 (mkE [(0, (Zl E_Graph x0)), (2, (V.fp (E_Graph.e x1))), (1, (V.fz (List.map (EL (EI .i64)).e y7346))), (12, (Zl E_Block x1.fBlocks)), (0, (i6 (ln x1.fBlocks))), (0, (i6 y7462)), (38, (Zl E_Ins y7641.fIns)), (0, (i6 (ln y7641.fIns))), (0, (i6 y7671))] 14) H (stp [4, 9, 10, 11, 62, 63, 64, 65, 66, 67, 68, 69, 70, 71, 72, 73, 74] (I32_2 x0 x1 y7346 y7462 y7641 L) (RR32 L) (J32_2 x0 x1 y7346 y7462 y7641 L) t) := by
  unfold F32_2_b at h
  refine Rn.g ?_
  refine Ro.t 1 ?_
  refine Ro.d (mkE [(0, (Zl E_Graph x0)), (2, (V.fp (E_Graph.e x1))), (1, (V.fz (List.map (EL (EI .i64)).e y7346))), (12, (Zl E_Block x1.fBlocks)), (0, (i6 (ln x1.fBlocks))), (0, (i6 y7462)), (38, (Zl E_Ins y7641.fIns)), (0, (i6 (ln y7641.fIns))), (0, (i6 y7671)), (0, (V.bool (decide (y7671 < (ln y7641.fIns)))))] 13) ?_
  refine Run.seq ?_
  rcases tf (decide (y7671 < (ln y7641.fIns))) with h7687 | h7687
  · rw [ite_t h7687] at h; refine Rn.t h7687 ?_
    refine Run.skip ?_
    refine Rn.c (mkE [(0, (Zl E_Graph x0)), (2, (V.fp (E_Graph.e x1))), (1, (V.fz (List.map (EL (EI .i64)).e y7346))), (12, (Zl E_Block x1.fBlocks)), (0, (i6 (ln x1.fBlocks))), (0, (i6 y7462)), (38, (Zl E_Ins y7641.fIns)), (0, (i6 (ln y7641.fIns))), (0, (i6 y7671))] 14) ?_
    refine Run.seq ?_
    refine Run.block ?_
    refine Rn.g ?_
    obtain ⟨y7694, h7695, h⟩ := bind_some h
    refine Ro.p (idx_fz E_Ins .i64 h7695) ?_
    refine Ro.t 1 ?_
    refine RunO.alloc hp (by kernel_rfl) ?_
    intro b7696 H hp
    have hp : HP H ((some (b7696, 0), [(V.int .u8 (0 : Int)), (V.int .u8 (0 : Int)), (i6 (0 : Int)), (V.fz (List.map (EI .i64).e ([] : List Int))), (V.int .u64 (0 : Int)), (i6 (0 : Int))]) :: L) := hp
    refine RunO.st hp (by kernel_rfl) 0 (off := 0) (v := (E_Ins.e y7694)) (cs' := [(V.int .u8 y7694.fKind), (V.int .u8 y7694.fOp), (i6 y7694.fDst), (Zl (EI .i64) y7694.fArgs), (V.int .u64 y7694.fBits), (i6 y7694.fRef)]) rfl (by kernel_rfl) (by kernel_rfl) (by kernel_rfl) ?_
    intro H hp
    refine Ro.d (mkE [(0, (Zl E_Graph x0)), (2, (V.fp (E_Graph.e x1))), (1, (V.fz (List.map (EL (EI .i64)).e y7346))), (3, (V.ptr b7696 0 0)), (8, (Zl E_Block x1.fBlocks)), (0, (i6 (ln x1.fBlocks))), (0, (i6 y7462)), (38, (Zl E_Ins y7641.fIns)), (0, (i6 (ln y7641.fIns))), (0, (i6 y7671))] 14) ?_
    refine Rn.g ?_
    refine Ro.t 2 ?_
    refine Ro.p (hp.ld 0 (off := 0) (n := (some 6)) (v := (E_Ins.e y7694)) rfl (by kernel_rfl)) ?_
    obtain ⟨y7697, h7698, h⟩ := bind_some h
    refine RunO.c1 (by kernel_rfl) (by kernel_rfl) (c31 h7698 _) ?_
    refine Ro.t 5 ?_
    refine Ro.d (mkE [(0, (Zl E_Graph x0)), (2, (V.fp (E_Graph.e x1))), (1, (V.fz (List.map (EL (EI .i64)).e y7346))), (5, (V.bool y7697.2)), (6, (Zl E_Block x1.fBlocks)), (0, (i6 (ln x1.fBlocks))), (0, (i6 y7462)), (38, (Zl E_Ins y7641.fIns)), (0, (i6 (ln y7641.fIns))), (0, (i6 y7671))] 14) ?_
    refine Rn.g ?_
    refine Ro.t 2 ?_
    refine Ro.d (mkE [(0, (Zl E_Graph x0)), (2, (V.fp (E_Graph.e x1))), (1, (V.fz (List.map (EL (EI .i64)).e y7346))), (12, (Zl E_Block x1.fBlocks)), (0, (i6 (ln x1.fBlocks))), (0, (i6 y7462)), (38, (Zl E_Ins y7641.fIns)), (0, (i6 (ln y7641.fIns))), (0, (i6 y7671)), (11, (V.bool (!y7697.2)))] 2) ?_
    rcases tf (!y7697.2) with h7699 | h7699
    · rw [ite_t h7699] at h; refine Rn.t h7699 ?_
      refine Rn.g ?_
      refine Ro.t 1 ?_
      refine Ro.d (mkE [(4, (V.bool false))] 71) ?_
      refine Run.ret ?_
      have h := Option.some.inj h; subst h
      show RR32 L _ _ _
      have hp := hp.del 0
      exact ⟨(V.bool false), (by kernel_rfl), (by kernel_rfl), hp⟩
    · rw [ite_f h7699] at h; refine Rn.f h7699 ?_
      refine Run.skip ?_
      refine Run.clrE (ts := [4, 9, 10, 11, 63, 64, 65, 66, 67, 68, 69, 70, 71, 72, 73]) (b := (.rgn i32r29)) (Q := (stp [4, 9, 10, 11, 62, 63, 64, 65, 66, 67, 68, 69, 70, 71, 72, 73, 74] (I32_2 x0 x1 y7346 y7462 y7641 L) (RR32 L) (J32_2 x0 x1 y7346 y7462 y7641 L) t)) (e' := (mkE [(0, (Zl E_Graph x0)), (2, (V.fp (E_Graph.e x1))), (1, (V.fz (List.map (EL (EI .i64)).e y7346))), (12, (Zl E_Block x1.fBlocks)), (0, (i6 (ln x1.fBlocks))), (0, (i6 y7462)), (38, (Zl E_Ins y7641.fIns)), (0, (i6 (ln y7641.fIns))), (0, (i6 y7671))] 14)) (by kernel_rfl) ?_
      refine Run.rgn ?_
      refine Ro.t 2 ?_
      refine RunO.nil ?_
      have h := Option.some.inj h; subst h
      have hp := hp.del 0
      show I32_2 x0 x1 y7346 y7462 y7641 L _ _ _
      exact ⟨(by kernel_rfl), hp⟩
  · rw [ite_f h7687] at h; refine Rn.f h7687 ?_
    refine Run.exit ?_
    have h := Option.some.inj h; subst h
    show J32_2 x0 x1 y7346 y7462 y7641 L () _ _ _
    exact ⟨rfl, (by kernel_rfl), hp⟩

def F32_j1 (x0 : (List T_Graph)) (x1 : T_Graph) (y7346 : (List (List Int))) (y7462 : Int) (y7641 : T_Block) : Option (Stp (Int) Bool Unit) :=
  (iter (fun s : (Int) => F32_2_b x0 x1 y7346 y7462 y7641 s) FUEL ((0 : Int))).bind fun o => match o with
  | .ret r => some (.ret r)
  | .go () =>
    some (.next ((IntKind.i64.wrap (y7462 + (1 : Int)))))

theorem w32_j1 {x0 : (List T_Graph)} {x1 : T_Graph} {y7346 : (List (List Int))} {y7462 : Int} {y7641 : T_Block} {t : (Stp (Int) Bool Unit)} (h : F32_j1 x0 x1 y7346 y7462 y7641 = some t) {b7643 : Nat} {H : Heap} {L : List Ob} (hp : HP H ((some (b7643, 0), [(Zl E_Ins y7641.fIns), (V.int .u8 y7641.fTerm.fKind), (i6 y7641.fTerm.fArg), (i6 y7641.fTerm.fTo.a0), (i6 y7641.fTerm.fTo.a1), (V.int .u8 y7641.fTerm.fTrap)]) :: L)) :
    Run T i32n35 (mkE [(0, (Zl E_Graph x0)), (2, (V.fp (E_Graph.e x1))), (1, (V.fz (List.map (EL (EI .i64)).e y7346))), (1, (V.ptr b7643 0 0)), (10, (Zl E_Block x1.fBlocks)), (0, (i6 (ln x1.fBlocks))), (0, (i6 y7462))] 55) H (blk 1 (thn T (.clr [4, 6, 7, 9, 10, 11, 22, 23, 24, 25, 26, 27, 28, 29, 30, 31, 32, 33, 34, 35, 36, 37, 38, 39, 40, 41, 42, 43, 44, 45, 46, 47, 48, 49, 50, 51, 52, 53, 54, 55, 56, 57, 58, 59, 60, 61, 62, 63, 64, 65, 66, 67, 68, 69, 70, 71, 72, 73, 74] (.rgn i32r39)) (stp [4, 6, 7, 9, 10, 11, 21, 22, 23, 24, 25, 26, 27, 28, 29, 30, 31, 32, 33, 34, 35, 36, 37, 38, 39, 40, 41, 42, 43, 44, 45, 46, 47, 48, 49, 50, 51, 52, 53, 54, 55, 56, 57, 58, 59, 60, 61, 62, 63, 64, 65, 66, 67, 68, 69, 70, 71, 72, 73, 74, 75] (I32_1 x0 x1 y7346 L) (RR32 L) (J32_1 x0 x1 y7346 L) t))) := by
  unfold F32_j1 at h
  refine Rn.g ?_
  refine Ro.t 1 ?_
  refine Ro.p (hp.ld 0 (off := 0) (n := none) (v := (Zl E_Ins y7641.fIns)) rfl (by kernel_rfl)) ?_
  refine Ro.p (len_fz E_Ins y7641.fIns) ?_
  refine Ro.t 1 ?_
  refine Ro.d (mkE [(0, (Zl E_Graph x0)), (2, (V.fp (E_Graph.e x1))), (1, (V.fz (List.map (EL (EI .i64)).e y7346))), (12, (Zl E_Block x1.fBlocks)), (0, (i6 (ln x1.fBlocks))), (0, (i6 y7462)), (38, (Zl E_Ins y7641.fIns)), (0, (i6 (ln y7641.fIns))), (0, (i6 (0 : Int)))] 14) ?_
  refine Run.block ?_
  obtain ⟨o, h7700, h⟩ := bind_some h
  have hp := hp.del 0
  refine (Run.iter (I := I32_2 x0 x1 y7346 y7462 y7641 L) (RR := RR32 L) (J := J32_2 x0 x1 y7346 y7462 y7641 L) (fun s e h' t hI hf => ?_) FUEL h7700 (by exact ⟨(by kernel_rfl), hp⟩)).mono ?_
  · obtain ⟨rfl, hp⟩ := hI; exact w32_2_b hf hp
  · rintro X e' H hq
    cases o with
    | ret r => cases X <;> first | exact hq.elim | (cases h; exact hq)
    | go a => 
      cases X with | nrm => exact hq.elim | ret => exact hq.elim | ext i => ?_
      obtain ⟨rfl, he, hp⟩ := hq
      dsimp only at h
      refine Run.clrE (ts := [4, 6, 7, 9, 10, 11, 22, 23, 24, 25, 26, 27, 28, 29, 30, 31, 32, 33, 34, 35, 36, 37, 38, 39, 40, 41, 42, 43, 44, 45, 46, 47, 48, 49, 50, 51, 52, 53, 54, 55, 56, 57, 58, 59, 60, 61, 62, 63, 64, 65, 66, 67, 68, 69, 70, 71, 72, 73, 74]) (b := (.rgn i32r39)) (Q := (stp [4, 6, 7, 9, 10, 11, 21, 22, 23, 24, 25, 26, 27, 28, 29, 30, 31, 32, 33, 34, 35, 36, 37, 38, 39, 40, 41, 42, 43, 44, 45, 46, 47, 48, 49, 50, 51, 52, 53, 54, 55, 56, 57, 58, 59, 60, 61, 62, 63, 64, 65, 66, 67, 68, 69, 70, 71, 72, 73, 74, 75] (I32_1 x0 x1 y7346 L) (RR32 L) (J32_1 x0 x1 y7346 L) t)) he ?_
      refine Run.rgn ?_
      refine Ro.t 2 ?_
      refine RunO.nil ?_
      have h := Option.some.inj h; subst h
      show I32_1 x0 x1 y7346 L _ _ _
      exact ⟨(by kernel_rfl), hp⟩

def F32_1_b (x0 : (List T_Graph)) (x1 : T_Graph) (y7346 : (List (List Int))) (y7462 : Int) : Option (Stp (Int) Bool Unit) :=
  if (decide (y7462 < ((List.length x1.fBlocks : Nat) : Int))) then
    (idx x1.fBlocks y7462).bind fun y7641 =>
    (F60 x1 y7641.fTerm).bind fun y7701 =>
    if y7701 then
      (idx y7346 y7462).bind fun y7704 =>
      (F61 y7641 ((List.length y7704 : Nat) : Int)).bind fun y7706 =>
      if y7706 then
        if (y7462 == (0 : Int)) then
          if (decide (((List.length y7641.fIns : Nat) : Int) > (0 : Int))) then
            (idx y7641.fIns (0 : Int)).bind fun y7711 =>
            if (y7711.fKind == (1 : Int)) then
              some (.ret false)
            else
              F32_j1 x0 x1 y7346 y7462 y7641
          else
            F32_j1 x0 x1 y7346 y7462 y7641
        else
          F32_j1 x0 x1 y7346 y7462 y7641
      else
        some (.ret false)
    else
      some (.ret false)
  else
    some (.go ())

theorem w32_1_b {x0 : (List T_Graph)} {x1 : T_Graph} {y7346 : (List (List Int))} {y7462 : Int} {t : (Stp (Int) Bool Unit)} (h : F32_1_b x0 x1 y7346 y7462 = some t) {H : Heap} {L : List Ob} (hp : HP H (L)) :
    Run T i32n42 (mkE [(0, (Zl E_Graph x0)), (2, (V.fp (E_Graph.e x1))), (1, (V.fz (List.map (EL (EI .i64)).e y7346))), (12, (Zl E_Block x1.fBlocks)), (0, (i6 (ln x1.fBlocks))), (0, (i6 y7462))] 55) H (stp [4, 6, 7, 9, 10, 11, 21, 22, 23, 24, 25, 26, 27, 28, 29, 30, 31, 32, 33, 34, 35, 36, 37, 38, 39, 40, 41, 42, 43, 44, 45, 46, 47, 48, 49, 50, 51, 52, 53, 54, 55, 56, 57, 58, 59, 60, 61, 62, 63, 64, 65, 66, 67, 68, 69, 70, 71, 72, 73, 74, 75] (I32_1 x0 x1 y7346 L) (RR32 L) (J32_1 x0 x1 y7346 L) t) := by
  unfold F32_1_b at h
  refine Rn.g ?_
  refine Ro.t 1 ?_
  refine Ro.d (mkE [(0, (Zl E_Graph x0)), (2, (V.fp (E_Graph.e x1))), (1, (V.fz (List.map (EL (EI .i64)).e y7346))), (12, (Zl E_Block x1.fBlocks)), (0, (i6 (ln x1.fBlocks))), (0, (i6 y7462)), (0, (V.bool (decide (y7462 < (ln x1.fBlocks)))))] 54) ?_
  refine Run.seq ?_
  rcases tf (decide (y7462 < (ln x1.fBlocks))) with h7582 | h7582
  · rw [ite_t h7582] at h; refine Rn.t h7582 ?_
    refine Run.skip ?_
    refine Rn.c (mkE [(0, (Zl E_Graph x0)), (2, (V.fp (E_Graph.e x1))), (1, (V.fz (List.map (EL (EI .i64)).e y7346))), (12, (Zl E_Block x1.fBlocks)), (0, (i6 (ln x1.fBlocks))), (0, (i6 y7462))] 55) ?_
    refine Run.seq ?_
    refine Run.block ?_
    refine Rn.g ?_
    refine Ro.t 1 ?_
    obtain ⟨y7641, h7642, h⟩ := bind_some h
    refine Ro.p (idx_fz E_Block .i64 h7642) ?_
    refine Ro.t 1 ?_
    refine RunO.alloc hp (by kernel_rfl) ?_
    intro b7643 H hp
    have hp : HP H ((some (b7643, 0), [(V.fz (List.map E_Ins.e ([] : List T_Ins))), (V.int .u8 (0 : Int)), (i6 (0 : Int)), (i6 (0 : Int)), (i6 (0 : Int)), (V.int .u8 (0 : Int))]) :: L) := hp
    refine Ro.t 1 ?_
    refine RunO.st hp (by kernel_rfl) 0 (off := 0) (v := (E_Block.e y7641)) (cs' := [(Zl E_Ins y7641.fIns), (V.int .u8 y7641.fTerm.fKind), (i6 y7641.fTerm.fArg), (i6 y7641.fTerm.fTo.a0), (i6 y7641.fTerm.fTo.a1), (V.int .u8 y7641.fTerm.fTrap)]) rfl (by kernel_rfl) (by kernel_rfl) (by kernel_rfl) ?_
    intro H hp
    refine Ro.d (mkE [(0, (Zl E_Graph x0)), (2, (V.fp (E_Graph.e x1))), (1, (V.fz (List.map (EL (EI .i64)).e y7346))), (0, (i6 y7462)), (0, (V.ptr b7643 0 0)), (10, (Zl E_Block x1.fBlocks)), (0, (i6 (ln x1.fBlocks))), (0, (i6 y7462))] 55) ?_
    refine Run.seq ?_
    refine Rn.g ?_
    refine Ro.t 2 ?_
    refine Ro.p (hp.ld 0 (off := 1) (n := (some 5)) (v := (E_Term.e y7641.fTerm)) rfl (by kernel_rfl)) ?_
    obtain ⟨y7701, h7702, h⟩ := bind_some h
    rcases tf y7701 with h7703 | h7703
    · subst h7703; rw [if_pos rfl] at h
      refine RunO.c1 (by kernel_rfl) (by kernel_rfl) (c60 h7702 _) ?_
      refine Ro.t 2 ?_
      refine Ro.p (hp.ld 0 (off := 0) (n := (some 6)) (v := (E_Block.e y7641)) rfl (by kernel_rfl)) ?_
      refine Ro.t 2 ?_
      obtain ⟨y7704, h7705, h⟩ := bind_some h
      refine Ro.p (idx_fz (EL (EI .i64)) .i64 h7705) ?_
      refine Ro.t 1 ?_
      refine Ro.p (len_fz (EI .i64) y7704) ?_
      obtain ⟨y7706, h7707, h⟩ := bind_some h
      rcases tf y7706 with h7708 | h7708
      · subst h7708; rw [if_pos rfl] at h
        refine RunO.c1 (by kernel_rfl) (by kernel_rfl) (c61 h7707 _) ?_
        refine Ro.t 4 ?_
        rcases tf (y7462 == (0 : Int)) with h7709 | h7709
        · rw [ite_t h7709] at h; refine Ro.p (bool_of h7709) ?_
          refine Ro.t 2 ?_
          refine Ro.p (hp.ld 0 (off := 0) (n := none) (v := (Zl E_Ins y7641.fIns)) rfl (by kernel_rfl)) ?_
          refine Ro.p (len_fz E_Ins y7641.fIns) ?_
          rcases tf (decide ((ln y7641.fIns) > (0 : Int))) with h7710 | h7710
          · rw [ite_t h7710] at h; refine Ro.p (bool_of h7710) ?_
            refine Ro.t 3 ?_
            refine Ro.p (hp.ld 0 (off := 0) (n := none) (v := (Zl E_Ins y7641.fIns)) rfl (by kernel_rfl)) ?_
            obtain ⟨y7711, h7712, h⟩ := bind_some h
            refine Ro.p (idx_fz E_Ins .i64 h7712) ?_
            refine Ro.t 5 ?_
            refine Ro.d (mkE [(0, (Zl E_Graph x0)), (2, (V.fp (E_Graph.e x1))), (1, (V.fz (List.map (EL (EI .i64)).e y7346))), (1, (V.ptr b7643 0 0)), (10, (Zl E_Block x1.fBlocks)), (0, (i6 (ln x1.fBlocks))), (0, (i6 y7462)), (36, (V.bool (y7711.fKind == (1 : Int))))] 18) ?_
            rcases tf (y7711.fKind == (1 : Int)) with h7713 | h7713
            · rw [ite_t h7713] at h; refine Rn.t h7713 ?_
              refine Rn.g ?_
              refine Ro.t 1 ?_
              refine Ro.d (mkE [(4, (V.bool false))] 71) ?_
              refine Run.ret ?_
              have h := Option.some.inj h; subst h
              show RR32 L _ _ _
              have hp := hp.del 0
              exact ⟨(V.bool false), (by kernel_rfl), (by kernel_rfl), hp⟩
            · rw [ite_f h7713] at h; refine Rn.f h7713 ?_
              refine Run.skip ?_
              refine Rn.c (mkE [(0, (Zl E_Graph x0)), (2, (V.fp (E_Graph.e x1))), (1, (V.fz (List.map (EL (EI .i64)).e y7346))), (1, (V.ptr b7643 0 0)), (10, (Zl E_Block x1.fBlocks)), (0, (i6 (ln x1.fBlocks))), (0, (i6 y7462))] 55) ?_
              exact w32_j1 h hp
          · rw [ite_f h7710] at h; refine Ro.p (bool_of h7710) ?_
            refine Ro.t 10 ?_
            refine Ro.d (mkE [(0, (Zl E_Graph x0)), (2, (V.fp (E_Graph.e x1))), (1, (V.fz (List.map (EL (EI .i64)).e y7346))), (1, (V.ptr b7643 0 0)), (10, (Zl E_Block x1.fBlocks)), (0, (i6 (ln x1.fBlocks))), (0, (i6 y7462)), (36, (V.bool false))] 18) ?_
            refine Run.condF (by kernel_rfl) ?_
            refine Run.skip ?_
            refine Rn.c (mkE [(0, (Zl E_Graph x0)), (2, (V.fp (E_Graph.e x1))), (1, (V.fz (List.map (EL (EI .i64)).e y7346))), (1, (V.ptr b7643 0 0)), (10, (Zl E_Block x1.fBlocks)), (0, (i6 (ln x1.fBlocks))), (0, (i6 y7462))] 55) ?_
            exact w32_j1 h hp
        · rw [ite_f h7709] at h; refine Ro.p (bool_of h7709) ?_
          refine Ro.t 15 ?_
          refine Ro.d (mkE [(0, (Zl E_Graph x0)), (2, (V.fp (E_Graph.e x1))), (1, (V.fz (List.map (EL (EI .i64)).e y7346))), (1, (V.ptr b7643 0 0)), (10, (Zl E_Block x1.fBlocks)), (0, (i6 (ln x1.fBlocks))), (0, (i6 y7462)), (36, (V.bool false))] 18) ?_
          refine Run.condF (by kernel_rfl) ?_
          refine Run.skip ?_
          refine Rn.c (mkE [(0, (Zl E_Graph x0)), (2, (V.fp (E_Graph.e x1))), (1, (V.fz (List.map (EL (EI .i64)).e y7346))), (1, (V.ptr b7643 0 0)), (10, (Zl E_Block x1.fBlocks)), (0, (i6 (ln x1.fBlocks))), (0, (i6 y7462))] 55) ?_
          exact w32_j1 h hp
      · subst h7708; rw [if_neg (by decide)] at h
        refine RunO.c1 (by kernel_rfl) (by kernel_rfl) (c61 h7707 _) ?_
        refine Ro.t 20 ?_
        refine Ro.d (mkE [(0, (Zl E_Graph x0)), (2, (V.fp (E_Graph.e x1))), (1, (V.fz (List.map (EL (EI .i64)).e y7346))), (1, (V.ptr b7643 0 0)), (10, (Zl E_Block x1.fBlocks)), (0, (i6 (ln x1.fBlocks))), (0, (i6 y7462)), (36, (V.bool true))] 18) ?_
        refine Run.condT (by kernel_rfl) ?_
        refine Rn.g ?_
        refine Ro.t 1 ?_
        refine Ro.d (mkE [(4, (V.bool false))] 71) ?_
        refine Run.ret ?_
        have h := Option.some.inj h; subst h
        show RR32 L _ _ _
        have hp := hp.del 0
        exact ⟨(V.bool false), (by kernel_rfl), (by kernel_rfl), hp⟩
    · subst h7703; rw [if_neg (by decide)] at h
      refine RunO.c1 (by kernel_rfl) (by kernel_rfl) (c60 h7702 _) ?_
      refine Ro.t 29 ?_
      refine Ro.d (mkE [(0, (Zl E_Graph x0)), (2, (V.fp (E_Graph.e x1))), (1, (V.fz (List.map (EL (EI .i64)).e y7346))), (1, (V.ptr b7643 0 0)), (10, (Zl E_Block x1.fBlocks)), (0, (i6 (ln x1.fBlocks))), (0, (i6 y7462)), (36, (V.bool true))] 18) ?_
      refine Run.condT (by kernel_rfl) ?_
      refine Rn.g ?_
      refine Ro.t 1 ?_
      refine Ro.d (mkE [(4, (V.bool false))] 71) ?_
      refine Run.ret ?_
      have h := Option.some.inj h; subst h
      show RR32 L _ _ _
      have hp := hp.del 0
      exact ⟨(V.bool false), (by kernel_rfl), (by kernel_rfl), hp⟩
  · rw [ite_f h7582] at h; refine Rn.f h7582 ?_
    refine Run.exit ?_
    have h := Option.some.inj h; subst h
    show J32_1 x0 x1 y7346 L () _ _ _
    exact ⟨rfl, (by kernel_rfl), hp⟩

def F32 (x0 : (List T_Graph)) (x1 : T_Graph) : Option Bool :=
  (F59 x1).bind fun y7343 =>
  if (!y7343) then
    some false
  else
    (F13 x1).bind fun y7346 =>
    (iter (fun s : (Int) => F32_1_b x0 x1 y7346 s) FUEL ((0 : Int))).bind fun o => match o with
    | .ret r => some r
    | .go () =>
      some true

theorem w32 {x0 : (List T_Graph)} {x1 : T_Graph} {r : Bool} (h : F32 x0 x1 = some r) {H : Heap} {L : List Ob} (hp : HP H (L)) : Fn T 32 [(Zl E_Graph x0), (E_Graph.e x1)] H (Q32 L r) := by
  refine Fn.enterE t32 (e0 := (mkE [(0, (Zl E_Graph x0)), (0, (E_Graph.e x1))] 74)) (by kernel_rfl) ?_
  show Run T (.clr [] i32n51) _ _ (finE none [4] (Q32 L r))
  refine Rn.k (mkE [(0, (Zl E_Graph x0)), (0, (E_Graph.e x1))] 74) ?_
  unfold F32 at h
  refine Rn.g ?_
  refine Ro.t 2 ?_
  refine Ro.d (mkE [(0, (Zl E_Graph x0)), (2, (V.fp (E_Graph.e x1)))] 72) ?_
  refine Run.seq ?_
  refine Rn.g ?_
  refine Ro.t 1 ?_
  obtain ⟨y7343, h7344, h⟩ := bind_some h
  refine RunO.c1 (by kernel_rfl) (by kernel_rfl) (c59 h7344 _) ?_
  refine Ro.t 1 ?_
  refine Ro.d (mkE [(0, (Zl E_Graph x0)), (2, (V.fp (E_Graph.e x1))), (10, (V.bool (!y7343)))] 61) ?_
  rcases tf (!y7343) with h7345 | h7345
  · rw [ite_t h7345] at h; refine Rn.t h7345 ?_
    refine Rn.g ?_
    refine Ro.t 1 ?_
    refine Ro.d (mkE [(4, (V.bool false))] 71) ?_
    refine Run.ret ?_
    have h := Option.some.inj h; subst h
    exact ⟨(V.bool false), (by kernel_rfl), (by kernel_rfl), hp⟩
  · rw [ite_f h7345] at h; refine Rn.f h7345 ?_
    refine Run.skip ?_
    refine Rn.c (mkE [(0, (Zl E_Graph x0)), (2, (V.fp (E_Graph.e x1)))] 72) ?_
    refine Rn.g ?_
    refine Ro.t 1 ?_
    obtain ⟨y7346, h7347, h⟩ := bind_some h
    refine RunO.c2 (by kernel_rfl) (by kernel_rfl) (by kernel_rfl) (c13 h7347) ?_
    refine Ro.t 1 ?_
    refine Ro.d (mkE [(0, (Zl E_Graph x0)), (2, (V.fp (E_Graph.e x1))), (1, (V.fz (List.map (EL (EI .i64)).e y7346)))] 70) ?_
    refine Run.seq ?_
    refine Rn.g ?_
    refine Ro.t 2 ?_
    refine Ro.p (len_fz E_Block x1.fBlocks) ?_
    refine Ro.t 1 ?_
    refine Ro.d (mkE [(0, (Zl E_Graph x0)), (2, (V.fp (E_Graph.e x1))), (1, (V.fz (List.map (EL (EI .i64)).e y7346))), (12, (Zl E_Block x1.fBlocks)), (0, (i6 (ln x1.fBlocks))), (0, (i6 (0 : Int)))] 55) ?_
    refine Run.block ?_
    obtain ⟨o, h7714, h⟩ := bind_some h
    refine (Run.iter (I := I32_1 x0 x1 y7346 L) (RR := RR32 L) (J := J32_1 x0 x1 y7346 L) (fun s e h' t hI hf => ?_) FUEL h7714 (by exact ⟨(by kernel_rfl), hp⟩)).mono ?_
    · obtain ⟨rfl, hp⟩ := hI; exact w32_1_b hf hp
    · rintro X e' H hq
      cases o with
      | ret r => cases X <;> first | exact hq.elim | (cases h; exact hq)
      | go a => 
        cases X with | nrm => exact hq.elim | ret => exact hq.elim | ext i => ?_
        obtain ⟨rfl, he, hp⟩ := hq
        dsimp only at h
        refine Run.clrE (ts := [0, 3, 4, 5, 6, 7, 9, 10, 11, 17, 18, 19, 20, 21, 22, 23, 24, 25, 26, 27, 28, 29, 30, 31, 32, 33, 34, 35, 36, 37, 38, 39, 40, 41, 42, 43, 44, 45, 46, 47, 48, 49, 50, 51, 52, 53, 54, 55, 56, 57, 58, 59, 60, 61, 62, 63, 64, 65, 66, 67, 68, 69, 70, 71, 72, 73, 74, 75]) (b := i32n47) (Q := (finE none [4] (Q32 L r))) he ?_
        refine Rn.g ?_
        refine Ro.t 1 ?_
        refine Ro.d (mkE [(4, (V.bool true))] 71) ?_
        refine Run.ret ?_
        have h := Option.some.inj h; subst h
        exact ⟨(V.bool true), (by kernel_rfl), (by kernel_rfl), hp⟩

theorem c32 {x0 : (List T_Graph)} {x1 : T_Graph} {r : Bool} (h : F32 x0 x1 = some r) (s : Bool) : Fn T 32 [(Zl E_Graph x0), (E_Graph.e x1)] [] (fun v hh => deep s hh deepN v = some (EB.e r)) := by
  refine (w32 h HP.nil).mono ?_
  rintro v hh ⟨rfl, hp⟩
  exact EB.hd s hh 38 _ (.inr rfl)

/- smithy/graph.Check -/
abbrev Q10 (L : List Ob) (r : (Int × Int)) : V → Heap → Prop := fun v h => v = .tup [(EI .i64).e r.1, (EI .i64).e r.2] ∧ HP h (L)
abbrev RR10 (L : List Ob) (r : (Int × Int)) : List V → Heap → Prop := fun e h => endR none [2, 3] (Q10 L r) e h

abbrev I10_1 (x0 : (List T_Graph)) (L : List Ob) : (Int) → List V → Heap → Prop := fun s e h => e = (mkE [(0, (Zl E_Graph x0)), (8, (Zl E_Graph x0)), (0, (i6 (ln x0))), (0, (i6 s))] 10) ∧ HP h (L)

abbrev J10_1 (x0 : (List T_Graph)) (L : List Ob) : Unit → Nat → List V → Heap → Prop := fun a i e h => i = 0 ∧ clrEnv [0, 2, 3, 4, 5, 9, 10, 11, 12, 13, 14, 15, 16, 17, 18, 19, 20, 21] e = (mkE [] 22) ∧ HP h (L)

def F10_1_b (x0 : (List T_Graph)) (y7755 : Int) : Option (Stp (Int) (Int × Int) Unit) :=
  if (decide (y7755 < ((List.length x0 : Nat) : Int))) then
    (idx x0 y7755).bind fun y7778 =>
    (F32 x0 y7778).bind fun y7781 =>
    if (!y7781) then
      some (.ret ((4 : Int), y7755))
    else
      some (.next ((IntKind.i64.wrap (y7755 + (1 : Int)))))
  else
    some (.go ())

theorem w10_1_b {x0 : (List T_Graph)} {y7755 : Int} {t : (Stp (Int) (Int × Int) Unit)} (h : F10_1_b x0 y7755 = some t) {H : Heap} {L : List Ob} (hp : HP H (L)) :
    Run T i10n20 (mkE [(0, (Zl E_Graph x0)), (8, (Zl E_Graph x0)), (0, (i6 (ln x0))), (0, (i6 y7755))] 10) H (stp [2, 3, 4, 5, 12, 13, 14, 15, 16, 17, 18, 19, 20, 21] (I10_1 x0 L) (RR10 L) (J10_1 x0 L) t) := by
  unfold F10_1_b at h
  refine Rn.g ?_
  refine Ro.t 1 ?_
  refine Ro.d (mkE [(0, (Zl E_Graph x0)), (8, (Zl E_Graph x0)), (0, (i6 (ln x0))), (0, (i6 y7755)), (0, (V.bool (decide (y7755 < (ln x0)))))] 9) ?_
  refine Run.seq ?_
  rcases tf (decide (y7755 < (ln x0))) with h7771 | h7771
  · rw [ite_t h7771] at h; refine Rn.t h7771 ?_
    refine Run.skip ?_
    refine Rn.c (mkE [(0, (Zl E_Graph x0)), (8, (Zl E_Graph x0)), (0, (i6 (ln x0))), (0, (i6 y7755))] 10) ?_
    refine Run.seq ?_
    refine Run.block ?_
    refine Rn.g ?_
    refine Ro.t 1 ?_
    obtain ⟨y7778, h7779, h⟩ := bind_some h
    refine Ro.p (idx_fz E_Graph .i64 h7779) ?_
    refine Ro.t 1 ?_
    refine RunO.alloc hp (by kernel_rfl) ?_
    intro b7780 H hp
    have hp : HP H ((some (b7780, 0), [(ES.e ([] : List UInt8)), (V.fz (List.map (EI .i64).e ([] : List Int))), (V.int .u8 (0 : Int)), (V.fz (List.map (EI .u8).e ([] : List Int))), (V.fz (List.map E_Array.e ([] : List T_Array))), (V.fz (List.map E_Block.e ([] : List T_Block)))]) :: L) := hp
    refine Ro.t 1 ?_
    refine RunO.st hp (by kernel_rfl) 0 (off := 0) (v := (E_Graph.e y7778)) (cs' := [(ES.e y7778.fName), (Zl (EI .i64) y7778.fParams), (V.int .u8 y7778.fResult), (Zl (EI .u8) y7778.fVars), (Zl E_Array y7778.fArrays), (Zl E_Block y7778.fBlocks)]) rfl (by kernel_rfl) (by kernel_rfl) (by kernel_rfl) ?_
    intro H hp
    refine Ro.d (mkE [(0, (Zl E_Graph x0)), (3, (i6 y7755)), (0, (V.ptr b7780 0 0)), (3, (Zl E_Graph x0)), (0, (i6 (ln x0))), (0, (i6 y7755))] 10) ?_
    refine Rn.g ?_
    refine Ro.t 1 ?_
    refine Ro.p (hp.ld 0 (off := 0) (n := (some 6)) (v := (E_Graph.e y7778)) rfl (by kernel_rfl)) ?_
    obtain ⟨y7781, h7782, h⟩ := bind_some h
    refine RunO.c1 (by kernel_rfl) (by kernel_rfl) (c32 h7782 _) ?_
    refine Ro.t 1 ?_
    refine Ro.d (mkE [(0, (Zl E_Graph x0)), (3, (i6 y7755)), (4, (Zl E_Graph x0)), (0, (i6 (ln x0))), (0, (i6 y7755)), (7, (V.bool (!y7781)))] 2) ?_
    rcases tf (!y7781) with h7783 | h7783
    · rw [ite_t h7783] at h; refine Rn.t h7783 ?_
      refine Rn.g ?_
      refine Ro.t 3 ?_
      refine Ro.d (mkE [(2, (i6 (4 : Int))), (0, (i6 y7755))] 18) ?_
      refine Run.ret ?_
      have h := Option.some.inj h; subst h
      show RR10 L _ _ _
      have hp := hp.del 0
      exact ⟨(V.tup [(i6 (4 : Int)), (i6 y7755)]), (by kernel_rfl), (by kernel_rfl), hp⟩
    · rw [ite_f h7783] at h; refine Rn.f h7783 ?_
      refine Run.skip ?_
      refine Run.clrE (ts := [2, 3, 4, 5, 13, 14, 15, 16, 17, 18, 19, 20]) (b := (.rgn i10r17)) (Q := (stp [2, 3, 4, 5, 12, 13, 14, 15, 16, 17, 18, 19, 20, 21] (I10_1 x0 L) (RR10 L) (J10_1 x0 L) t)) (e' := (mkE [(0, (Zl E_Graph x0)), (8, (Zl E_Graph x0)), (0, (i6 (ln x0))), (0, (i6 y7755))] 10)) (by kernel_rfl) ?_
      refine Run.rgn ?_
      refine Ro.t 2 ?_
      refine RunO.nil ?_
      have h := Option.some.inj h; subst h
      have hp := hp.del 0
      show I10_1 x0 L _ _ _
      exact ⟨(by kernel_rfl), hp⟩
  · rw [ite_f h7771] at h; refine Rn.f h7771 ?_
    refine Run.exit ?_
    have h := Option.some.inj h; subst h
    show J10_1 x0 L () _ _ _
    exact ⟨rfl, (by kernel_rfl), hp⟩

def F10 (x0 : (List T_Graph)) : Option (Int × Int) :=
  if (decide (((List.length x0 : Nat) : Int) > (64 : Int))) then
    some ((3 : Int), (0 : Int))
  else
    (iter (fun s : (Int) => F10_1_b x0 s) FUEL ((0 : Int))).bind fun o => match o with
    | .ret r => some r
    | .go () =>
      some ((0 : Int), (0 : Int))

theorem w10 {x0 : (List T_Graph)} {r : (Int × Int)} (h : F10 x0 = some r) {H : Heap} {L : List Ob} (hp : HP H (L)) : Fn T 10 [(Zl E_Graph x0)] H (Q10 L r) := by
  refine Fn.enterE t10 (e0 := (mkE [(0, (Zl E_Graph x0))] 21)) (by kernel_rfl) ?_
  show Run T (.clr [] i10n28) _ _ (finE none [2, 3] (Q10 L r))
  refine Rn.k (mkE [(0, (Zl E_Graph x0))] 21) ?_
  unfold F10 at h
  refine Rn.g ?_
  refine Ro.t 2 ?_
  refine Ro.d (mkE [(0, (Zl E_Graph x0))] 21) ?_
  refine Run.seq ?_
  refine Rn.g ?_
  refine Ro.t 1 ?_
  refine Ro.p (len_fz E_Graph x0) ?_
  refine Ro.t 1 ?_
  refine Ro.d (mkE [(0, (Zl E_Graph x0)), (7, (V.bool (decide ((ln x0) > (64 : Int)))))] 13) ?_
  rcases tf (decide ((ln x0) > (64 : Int))) with h7740 | h7740
  · rw [ite_t h7740] at h; refine Rn.t h7740 ?_
    refine Rn.g ?_
    refine Ro.t 2 ?_
    refine Ro.d (mkE [(2, (i6 (3 : Int))), (0, (i6 (0 : Int)))] 18) ?_
    refine Run.ret ?_
    have h := Option.some.inj h; subst h
    exact ⟨(V.tup [(i6 (3 : Int)), (i6 (0 : Int))]), (by kernel_rfl), (by kernel_rfl), hp⟩
  · rw [ite_f h7740] at h; refine Rn.f h7740 ?_
    refine Run.skip ?_
    refine Rn.c (mkE [(0, (Zl E_Graph x0))] 21) ?_
    refine Run.seq ?_
    refine Rn.g ?_
    refine Ro.t 1 ?_
    refine Ro.p (len_fz E_Graph x0) ?_
    refine Ro.t 1 ?_
    refine Ro.d (mkE [(0, (Zl E_Graph x0)), (8, (Zl E_Graph x0)), (0, (i6 (ln x0))), (0, (i6 (0 : Int)))] 10) ?_
    refine Run.block ?_
    obtain ⟨o, h7784, h⟩ := bind_some h
    refine (Run.iter (I := I10_1 x0 L) (RR := RR10 L) (J := J10_1 x0 L) (fun s e h' t hI hf => ?_) FUEL h7784 (by exact ⟨(by kernel_rfl), hp⟩)).mono ?_
    · obtain ⟨rfl, hp⟩ := hI; exact w10_1_b hf hp
    · rintro X e' H hq
      cases o with
      | ret r => cases X <;> first | exact hq.elim | (cases h; exact hq)
      | go a => 
        cases X with | nrm => exact hq.elim | ret => exact hq.elim | ext i => ?_
        obtain ⟨rfl, he, hp⟩ := hq
        dsimp only at h
        refine Run.clrE (ts := [0, 2, 3, 4, 5, 9, 10, 11, 12, 13, 14, 15, 16, 17, 18, 19, 20, 21]) (b := i10n25) (Q := (finE none [2, 3] (Q10 L r))) he ?_
        refine Rn.g ?_
        refine Ro.t 2 ?_
        refine Ro.d (mkE [(2, (i6 (0 : Int))), (0, (i6 (0 : Int)))] 18) ?_
        refine Run.ret ?_
        have h := Option.some.inj h; subst h
        exact ⟨(V.tup [(i6 (0 : Int)), (i6 (0 : Int))]), (by kernel_rfl), (by kernel_rfl), hp⟩

theorem c10 {x0 : (List T_Graph)} {r : (Int × Int)} (h : F10 x0 = some r) (s : Bool) : Fn T 10 [(Zl E_Graph x0)] [] (fun v hh => deep s hh deepN v = some (.tup [(EI .i64).e r.1, (EI .i64).e r.2])) := by
  refine (w10 h HP.nil).mono ?_
  rintro v hh ⟨rfl, hp⟩
  exact congrArg (Option.map V.tup) (omapc ((EI .i64).hd s hh 37 _ (.inr rfl)) (omapc ((EI .i64).hd s hh 37 _ (.inr rfl)) omapn))

/- smithy/smithykit.SameInts -/
abbrev Q17 (L : List Ob) (r : Bool) : V → Heap → Prop := fun v h => v = EB.e r ∧ HP h (L)
abbrev RR17 (L : List Ob) (r : Bool) : List V → Heap → Prop := fun e h => endR none [4] (Q17 L r) e h

abbrev I17_1 (x0 : (List Int)) (x1 : (List Int)) (L : List Ob) : (Int) → List V → Heap → Prop := fun s e h => e = (mkE [(0, (Zl (EI .i64) x0)), (0, (Zl (EI .i64) x1)), (3, (i6 s))] 20) ∧ HP h (L)

abbrev J17_1 (x0 : (List Int)) (x1 : (List Int)) (L : List Ob) : Unit → Nat → List V → Heap → Prop := fun a i e h => i = 0 ∧ clrEnv [0, 1, 4, 5, 11, 12, 13, 14, 15, 16, 17, 18, 19, 20, 21, 22, 23, 24, 25] e = (mkE [] 26) ∧ HP h (L)

def F17_1_b (x0 : (List Int)) (x1 : (List Int)) (y7846 : Int) : Option (Stp (Int) Bool Unit) :=
  if (decide (y7846 < ((List.length x0 : Nat) : Int))) then
    (idx x0 y7846).bind fun y7866 =>
    (idx x1 y7846).bind fun y7868 =>
    if (y7866 != y7868) then
      some (.ret false)
    else
      some (.next ((IntKind.i64.wrap (y7846 + (1 : Int)))))
  else
    some (.go ())

theorem w17_1_b {x0 : (List Int)} {x1 : (List Int)} {y7846 : Int} {t : (Stp (Int) Bool Unit)} (h : F17_1_b x0 x1 y7846 = some t) {H : Heap} {L : List Ob} (hp : HP H (L)) :
    Run T i17n18 (mkE [(0, (Zl (EI .i64) x0)), (0, (Zl (EI .i64) x1)), (3, (i6 y7846))] 20) H (stp [4, 11, 12, 13, 14, 15, 16, 17, 18, 19, 20, 21, 22, 23, 24, 25] (I17_1 x0 x1 L) (RR17 L) (J17_1 x0 x1 L) t) := by
  unfold F17_1_b at h
  refine Run.seq ?_
  refine Rn.g ?_
  refine Ro.t 2 ?_
  refine Ro.p (len_fz (EI .i64) x0) ?_
  refine Ro.t 1 ?_
  refine Ro.d (mkE [(0, (Zl (EI .i64) x0)), (0, (Zl (EI .i64) x1)), (3, (i6 y7846)), (8, (V.bool (decide (y7846 < (ln x0)))))] 11) ?_
  rcases tf (decide (y7846 < (ln x0))) with h7860 | h7860
  · rw [ite_t h7860] at h; refine Rn.t h7860 ?_
    refine Run.skip ?_
    refine Rn.c (mkE [(0, (Zl (EI .i64) x0)), (0, (Zl (EI .i64) x1)), (3, (i6 y7846))] 20) ?_
    refine Run.seq ?_
    refine Run.block ?_
    refine Rn.g ?_
    refine Ro.t 2 ?_
    obtain ⟨y7866, h7867, h⟩ := bind_some h
    refine Ro.p (idx_fz (EI .i64) .i64 h7867) ?_
    refine Ro.t 3 ?_
    obtain ⟨y7868, h7869, h⟩ := bind_some h
    refine Ro.p (idx_fz (EI .i64) .i64 h7869) ?_
    refine Ro.t 2 ?_
    refine Ro.d (mkE [(0, (Zl (EI .i64) x0)), (0, (Zl (EI .i64) x1)), (3, (i6 y7846)), (19, (V.bool (y7866 != y7868)))] 0) ?_
    rcases tf (y7866 != y7868) with h7870 | h7870
    · rw [ite_t h7870] at h; refine Rn.t h7870 ?_
      refine Rn.g ?_
      refine Ro.t 1 ?_
      refine Ro.d (mkE [(4, (V.bool false))] 21) ?_
      refine Run.ret ?_
      have h := Option.some.inj h; subst h
      show RR17 L _ _ _
      exact ⟨(V.bool false), (by kernel_rfl), (by kernel_rfl), hp⟩
    · rw [ite_f h7870] at h; refine Rn.f h7870 ?_
      refine Run.skip ?_
      refine Run.clrE (ts := [4, 17, 18, 19, 20, 21, 22, 23, 24, 25]) (b := (.rgn i17r16)) (Q := (stp [4, 11, 12, 13, 14, 15, 16, 17, 18, 19, 20, 21, 22, 23, 24, 25] (I17_1 x0 x1 L) (RR17 L) (J17_1 x0 x1 L) t)) (e' := (mkE [(0, (Zl (EI .i64) x0)), (0, (Zl (EI .i64) x1)), (3, (i6 y7846))] 20)) (by kernel_rfl) ?_
      refine Run.rgn ?_
      refine Ro.t 3 ?_
      refine RunO.nil ?_
      have h := Option.some.inj h; subst h
      show I17_1 x0 x1 L _ _ _
      exact ⟨(by kernel_rfl), hp⟩
  · rw [ite_f h7860] at h; refine Rn.f h7860 ?_
    refine Run.exit ?_
    have h := Option.some.inj h; subst h
    show J17_1 x0 x1 L () _ _ _
    exact ⟨rfl, (by kernel_rfl), hp⟩

def F17 (x0 : (List Int)) (x1 : (List Int)) : Option Bool :=
  if (((List.length x0 : Nat) : Int) != ((List.length x1 : Nat) : Int)) then
    some false
  else
    (iter (fun s : (Int) => F17_1_b x0 x1 s) FUEL ((0 : Int))).bind fun o => match o with
    | .ret r => some r
    | .go () =>
      some true

theorem w17 {x0 : (List Int)} {x1 : (List Int)} {r : Bool} (h : F17 x0 x1 = some r) {H : Heap} {L : List Ob} (hp : HP H (L)) : Fn T 17 [(Zl (EI .i64) x0), (Zl (EI .i64) x1)] H (Q17 L r) := by
  refine Fn.enterE t17 (e0 := (mkE [(0, (Zl (EI .i64) x0)), (0, (Zl (EI .i64) x1))] 24)) (by kernel_rfl) ?_
  show Run T (.clr [] i17n26) _ _ (finE none [4] (Q17 L r))
  refine Rn.k (mkE [(0, (Zl (EI .i64) x0)), (0, (Zl (EI .i64) x1))] 24) ?_
  unfold F17 at h
  refine Rn.g ?_
  refine Ro.t 1 ?_
  refine Ro.d (mkE [(0, (Zl (EI .i64) x0)), (0, (Zl (EI .i64) x1))] 24) ?_
  refine Run.seq ?_
  refine Rn.g ?_
  refine Ro.t 1 ?_
  refine Ro.p (len_fz (EI .i64) x0) ?_
  refine Ro.t 1 ?_
  refine Ro.p (len_fz (EI .i64) x1) ?_
  refine Ro.t 1 ?_
  refine Ro.d (mkE [(0, (Zl (EI .i64) x0)), (0, (Zl (EI .i64) x1)), (8, (V.bool ((ln x0) != (ln x1))))] 15) ?_
  rcases tf ((ln x0) != (ln x1)) with h7833 | h7833
  · rw [ite_t h7833] at h; refine Rn.t h7833 ?_
    refine Rn.g ?_
    refine Ro.t 1 ?_
    refine Ro.d (mkE [(4, (V.bool false))] 21) ?_
    refine Run.ret ?_
    have h := Option.some.inj h; subst h
    exact ⟨(V.bool false), (by kernel_rfl), (by kernel_rfl), hp⟩
  · rw [ite_f h7833] at h; refine Rn.f h7833 ?_
    refine Run.skip ?_
    refine Rn.c (mkE [(0, (Zl (EI .i64) x0)), (0, (Zl (EI .i64) x1))] 24) ?_
    refine Run.seq ?_
    refine Rn.g ?_
    refine Ro.t 1 ?_
    refine Ro.d (mkE [(0, (Zl (EI .i64) x0)), (0, (Zl (EI .i64) x1)), (3, (i6 (0 : Int)))] 20) ?_
    refine Run.block ?_
    obtain ⟨o, h7871, h⟩ := bind_some h
    refine (Run.iter (I := I17_1 x0 x1 L) (RR := RR17 L) (J := J17_1 x0 x1 L) (fun s e h' t hI hf => ?_) FUEL h7871 (by exact ⟨(by kernel_rfl), hp⟩)).mono ?_
    · obtain ⟨rfl, hp⟩ := hI; exact w17_1_b hf hp
    · rintro X e' H hq
      cases o with
      | ret r => cases X <;> first | exact hq.elim | (cases h; exact hq)
      | go a => 
        cases X with | nrm => exact hq.elim | ret => exact hq.elim | ext i => ?_
        obtain ⟨rfl, he, hp⟩ := hq
        dsimp only at h
        refine Run.clrE (ts := [0, 1, 4, 5, 11, 12, 13, 14, 15, 16, 17, 18, 19, 20, 21, 22, 23, 24, 25]) (b := i17n23) (Q := (finE none [4] (Q17 L r))) he ?_
        refine Rn.g ?_
        refine Ro.t 1 ?_
        refine Ro.d (mkE [(4, (V.bool true))] 21) ?_
        refine Run.ret ?_
        have h := Option.some.inj h; subst h
        exact ⟨(V.bool true), (by kernel_rfl), (by kernel_rfl), hp⟩

theorem c17 {x0 : (List Int)} {x1 : (List Int)} {r : Bool} (h : F17 x0 x1 = some r) (s : Bool) : Fn T 17 [(Zl (EI .i64) x0), (Zl (EI .i64) x1)] [] (fun v hh => deep s hh deepN v = some (EB.e r)) := by
  refine (w17 h HP.nil).mono ?_
  rintro v hh ⟨rfl, hp⟩
  exact EB.hd s hh 38 _ (.inr rfl)

/- smithy/graph.Count -/
abbrev Q22 (L : List Ob) (r : Int) : V → Heap → Prop := fun v h => v = (EI .i64).e r ∧ HP h (L)
abbrev RR22 (L : List Ob) (r : Int) : List V → Heap → Prop := fun e h => endR none [2] (Q22 L r) e h

abbrev I22_1 (x0 : T_Graph) (L : List Ob) : (Int × Int) → List V → Heap → Prop := fun s e h => e = (mkE [(3, (i6 s.1)), (6, (Zl E_Block x0.fBlocks)), (0, (i6 (ln x0.fBlocks))), (0, (i6 s.2))] 10) ∧ HP h (L)

abbrev J22_1 (x0 : T_Graph) (L : List Ob) : (Int) → Nat → List V → Heap → Prop := fun a i e h => i = 0 ∧ clrEnv [1, 5, 9, 10, 11, 12, 13, 14, 15, 16, 17, 18, 19, 20, 21] e = (mkE [(3, (i6 a))] 19) ∧ HP h (L)

def F22_1_b (x0 : T_Graph) (y7895 : Int) (y7896 : Int) : Option (Stp (Int × Int) Int (Int)) :=
  if (decide (y7896 < ((List.length x0.fBlocks : Nat) : Int))) then
    (idx x0.fBlocks y7896).bind fun y7905 =>
    some (.next ((IntKind.i64.wrap (y7895 + ((List.length y7905.fIns : Nat) : Int))), (IntKind.i64.wrap (y7896 + (1 : Int)))))
  else
    some (.go (y7895))

theorem w22_1_b {x0 : T_Graph} {y7895 : Int} {y7896 : Int} {t : (Stp (Int × Int) Int (Int))} (h : F22_1_b x0 y7895 y7896 = some t) {H : Heap} {L : List Ob} (hp : HP H (L)) :
    Run T i22n12 (mkE [(3, (i6 y7895)), (6, (Zl E_Block x0.fBlocks)), (0, (i6 (ln x0.fBlocks))), (0, (i6 y7896))] 10) H (stp [5, 13, 14, 15, 16, 17, 18, 19, 20, 21] (I22_1 x0 L) (RR22 L) (J22_1 x0 L) t) := by
  unfold F22_1_b at h
  refine Rn.g ?_
  refine Ro.t 1 ?_
  refine Ro.d (mkE [(3, (i6 y7895)), (6, (Zl E_Block x0.fBlocks)), (0, (i6 (ln x0.fBlocks))), (0, (i6 y7896)), (0, (V.bool (decide (y7896 < (ln x0.fBlocks)))))] 9) ?_
  refine Run.seq ?_
  rcases tf (decide (y7896 < (ln x0.fBlocks))) with h7904 | h7904
  · rw [ite_t h7904] at h; refine Rn.t h7904 ?_
    refine Run.skip ?_
    refine Rn.c (mkE [(3, (i6 y7895)), (6, (Zl E_Block x0.fBlocks)), (0, (i6 (ln x0.fBlocks))), (0, (i6 y7896))] 10) ?_
    refine Run.seq ?_
    refine Run.block ?_
    refine Rn.g ?_
    obtain ⟨y7905, h7906, h⟩ := bind_some h
    refine Ro.p (idx_fz E_Block .i64 h7906) ?_
    refine Ro.t 1 ?_
    refine RunO.alloc hp (by kernel_rfl) ?_
    intro b7907 H hp
    have hp : HP H ((some (b7907, 0), [(V.fz (List.map E_Ins.e ([] : List T_Ins))), (V.int .u8 (0 : Int)), (i6 (0 : Int)), (i6 (0 : Int)), (i6 (0 : Int)), (V.int .u8 (0 : Int))]) :: L) := hp
    refine RunO.st hp (by kernel_rfl) 0 (off := 0) (v := (E_Block.e y7905)) (cs' := [(Zl E_Ins y7905.fIns), (V.int .u8 y7905.fTerm.fKind), (i6 y7905.fTerm.fArg), (i6 y7905.fTerm.fTo.a0), (i6 y7905.fTerm.fTo.a1), (V.int .u8 y7905.fTerm.fTrap)]) rfl (by kernel_rfl) (by kernel_rfl) (by kernel_rfl) ?_
    intro H hp
    refine Ro.d (mkE [(3, (i6 y7895)), (1, (V.ptr b7907 0 0)), (4, (Zl E_Block x0.fBlocks)), (0, (i6 (ln x0.fBlocks))), (0, (i6 y7896))] 10) ?_
    refine Run.rgn ?_
    refine Ro.t 2 ?_
    refine Ro.p (hp.ld 0 (off := 0) (n := none) (v := (Zl E_Ins y7905.fIns)) rfl (by kernel_rfl)) ?_
    refine Ro.p (len_fz E_Ins y7905.fIns) ?_
    refine Ro.t 2 ?_
    refine RunO.nil ?_
    refine Run.clrE (ts := [5, 14, 15, 16, 17, 18, 19, 20]) (b := (.rgn i22r9)) (Q := (stp [5, 13, 14, 15, 16, 17, 18, 19, 20, 21] (I22_1 x0 L) (RR22 L) (J22_1 x0 L) t)) (e' := (mkE [(3, (i6 (IntKind.i64.wrap (y7895 + (ln y7905.fIns))))), (6, (Zl E_Block x0.fBlocks)), (0, (i6 (ln x0.fBlocks))), (0, (i6 y7896))] 10)) (by kernel_rfl) ?_
    refine Run.rgn ?_
    refine Ro.t 2 ?_
    refine RunO.nil ?_
    have h := Option.some.inj h; subst h
    have hp := hp.del 0
    show I22_1 x0 L _ _ _
    exact ⟨(by kernel_rfl), hp⟩
  · rw [ite_f h7904] at h; refine Rn.f h7904 ?_
    refine Run.exit ?_
    have h := Option.some.inj h; subst h
    show J22_1 x0 L _ _ _ _
    exact ⟨rfl, (by kernel_rfl), hp⟩

def F22 (x0 : T_Graph) : Option Int :=
  (iter (fun s : (Int × Int) => F22_1_b x0 s.1 s.2) FUEL (((List.length x0.fBlocks : Nat) : Int), (0 : Int))).bind fun o => match o with
  | .ret r => some r
  | .go (y7902) =>
    some y7902

theorem w22 {x0 : T_Graph} {r : Int} (h : F22 x0 = some r) {H : Heap} {L : List Ob} (hp : HP H (L)) : Fn T 22 [(E_Graph.e x0)] H (Q22 L r) := by
  refine Fn.enterE t22 (e0 := (mkE [(0, (E_Graph.e x0))] 22)) (by kernel_rfl) ?_
  show Run T (.clr [] i22n20) _ _ (finE none [2] (Q22 L r))
  refine Rn.k (mkE [(0, (E_Graph.e x0))] 22) ?_
  unfold F22 at h
  refine Rn.g ?_
  refine Ro.t 2 ?_
  refine Ro.d (mkE [(1, (V.fp (E_Graph.e x0)))] 21) ?_
  refine Rn.g ?_
  refine Ro.t 2 ?_
  refine Ro.p (len_fz E_Block x0.fBlocks) ?_
  refine Ro.t 1 ?_
  refine Ro.d (mkE [(1, (V.fp (E_Graph.e x0))), (1, (i6 (ln x0.fBlocks)))] 19) ?_
  refine Run.seq ?_
  refine Rn.g ?_
  refine Ro.t 2 ?_
  refine Ro.p (len_fz E_Block x0.fBlocks) ?_
  refine Ro.t 1 ?_
  refine Ro.d (mkE [(3, (i6 (ln x0.fBlocks))), (6, (Zl E_Block x0.fBlocks)), (0, (i6 (ln x0.fBlocks))), (0, (i6 (0 : Int)))] 10) ?_
  refine Run.block ?_
  obtain ⟨o, h7908, h⟩ := bind_some h
  refine (Run.iter (I := I22_1 x0 L) (RR := RR22 L) (J := J22_1 x0 L) (fun s e h' t hI hf => ?_) FUEL h7908 (by exact ⟨(by kernel_rfl), hp⟩)).mono ?_
  · obtain ⟨rfl, hp⟩ := hI; exact w22_1_b hf hp
  · rintro X e' H hq
    cases o with
    | ret r => cases X <;> first | exact hq.elim | (cases h; exact hq)
    | go y7902 => 
      cases X with | nrm => exact hq.elim | ret => exact hq.elim | ext i => ?_
      obtain ⟨rfl, he, hp⟩ := hq
      dsimp only at h
      refine Run.clrE (ts := [1, 5, 9, 10, 11, 12, 13, 14, 15, 16, 17, 18, 19, 20, 21]) (b := i22n17) (Q := (finE none [2] (Q22 L r))) he ?_
      refine Rn.g ?_
      refine Ro.t 2 ?_
      refine Ro.d (mkE [(2, (i6 y7902))] 20) ?_
      refine Run.ret ?_
      have h := Option.some.inj h; subst h
      exact ⟨(i6 y7902), (by kernel_rfl), (by kernel_rfl), hp⟩

theorem c22 {x0 : T_Graph} {r : Int} (h : F22 x0 = some r) (s : Bool) : Fn T 22 [(E_Graph.e x0)] [] (fun v hh => deep s hh deepN v = some ((EI .i64).e r)) := by
  refine (w22 h HP.nil).mono ?_
  rintro v hh ⟨rfl, hp⟩
  exact (EI .i64).hd s hh 38 _ (.inr rfl)

/- smithy/smithylaw07.awake -/
abbrev Q9 (L : List Ob) (r : Bool) : V → Heap → Prop := fun v h => v = EB.e r ∧ HP h (L)
abbrev RR9 (L : List Ob) (r : Bool) : List V → Heap → Prop := fun e h => endR none [0] (Q9 L r) e h

def F9 : Option Bool :=
  (F28 true).bind fun y7911 =>
  (F28 false).bind fun y7913 =>
  (F10 ([y7911, y7913] : List T_Graph)).bind fun y7915 =>
  (F28 true).bind fun y7917 =>
  (F10 ([y7917] : List T_Graph)).bind fun y7919 =>
  (F28 true).bind fun y7921 =>
  (F31 [] y7921 (⟨(4 : Int), (13 : Int), (1 : Int), ([(0 : Int), (2 : Int)] : List Int), (0 : Int), (0 : Int)⟩ : T_Ins)).bind fun y7923 =>
  if (y7915.1 == (4 : Int)) then
    if (y7915.2 == (1 : Int)) then
      if (y7919.1 == (0 : Int)) then
        if (y7919.2 == (0 : Int)) then
          if (y7923.1 == (1 : Int)) then
            if y7923.2 then
              (F28 false).bind fun y7931 =>
              (F14 y7931).bind fun y7933 =>
              (F17 y7933 ([(0 : Int), (1 : Int), (2 : Int), (3 : Int)] : List Int)).bind fun y7935 =>
              if y7935 then
                (F28 false).bind fun y7938 =>
                (F22 y7938).bind fun y7940 =>
                some (y7940 == (9 : Int))
              else
                some false
            else
              some false
          else
            some false
        else
          some false
      else
        some false
    else
      some false
  else
    some false

theorem w9 {r : Bool} (h : F9 = some r) {H : Heap} {L : List Ob} (hp : HP H (L)) : Fn T 9 [] H (Q9 L r) := by
  refine Fn.enterE t9 (e0 := (mkE [] 59)) (by kernel_rfl) ?_
  show Run T (.clr [] i9n9) _ _ (finE none [0] (Q9 L r))
  refine Rn.k (mkE [] 59) ?_
  unfold F9 at h
  refine Rn.g ?_
  refine Ro.t 1 ?_
  refine Ro.d (mkE [] 59) ?_
  refine Rn.g ?_
  obtain ⟨y7911, h7912, h⟩ := bind_some h
  refine RunO.c2 (by kernel_rfl) (by kernel_rfl) (by kernel_rfl) (c28 h7912) ?_
  obtain ⟨y7913, h7914, h⟩ := bind_some h
  refine RunO.c2 (by kernel_rfl) (by kernel_rfl) (by kernel_rfl) (c28 h7914) ?_
  refine Ro.t 1 ?_
  obtain ⟨y7915, h7916, h⟩ := bind_some h
  refine RunO.c1 (by kernel_rfl) (by kernel_rfl) (c10 h7916 _) ?_
  refine Ro.t 5 ?_
  refine Ro.d (mkE [(1, (i6 y7915.1)), (0, (i6 y7915.2))] 56) ?_
  refine Rn.g ?_
  obtain ⟨y7917, h7918, h⟩ := bind_some h
  refine RunO.c2 (by kernel_rfl) (by kernel_rfl) (by kernel_rfl) (c28 h7918) ?_
  refine Ro.t 1 ?_
  obtain ⟨y7919, h7920, h⟩ := bind_some h
  refine RunO.c1 (by kernel_rfl) (by kernel_rfl) (c10 h7920 _) ?_
  refine Ro.t 5 ?_
  refine Ro.d (mkE [(1, (i6 y7915.1)), (0, (i6 y7915.2)), (0, (i6 y7919.1)), (0, (i6 y7919.2))] 54) ?_
  refine Rn.g ?_
  obtain ⟨y7921, h7922, h⟩ := bind_some h
  refine RunO.c2 (by kernel_rfl) (by kernel_rfl) (by kernel_rfl) (c28 h7922) ?_
  refine Ro.t 2 ?_
  obtain ⟨y7923, h7924, h⟩ := bind_some h
  refine RunO.c1 (by kernel_rfl) (by kernel_rfl) (c31 h7924 _) ?_
  refine Ro.t 5 ?_
  refine Ro.d (mkE [(1, (i6 y7915.1)), (0, (i6 y7915.2)), (0, (i6 y7919.1)), (0, (i6 y7919.2)), (0, (V.int .u8 y7923.1)), (0, (V.bool y7923.2))] 52) ?_
  refine Rn.g ?_
  refine Ro.t 1 ?_
  rcases tf (y7915.1 == (4 : Int)) with h7925 | h7925
  · rw [ite_t h7925] at h; refine Ro.p (bool_of h7925) ?_
    refine Ro.t 2 ?_
    rcases tf (y7915.2 == (1 : Int)) with h7926 | h7926
    · rw [ite_t h7926] at h; refine Ro.p (bool_of h7926) ?_
      refine Ro.t 3 ?_
      rcases tf (y7919.1 == (0 : Int)) with h7927 | h7927
      · rw [ite_t h7927] at h; refine Ro.p (bool_of h7927) ?_
        refine Ro.t 3 ?_
        rcases tf (y7919.2 == (0 : Int)) with h7928 | h7928
        · rw [ite_t h7928] at h; refine Ro.p (bool_of h7928) ?_
          refine Ro.t 3 ?_
          rcases tf (y7923.1 == (1 : Int)) with h7929 | h7929
          · rw [ite_t h7929] at h; refine Ro.p (bool_of h7929) ?_
            refine Ro.t 2 ?_
            rcases tf y7923.2 with h7930 | h7930
            · rw [ite_t h7930] at h; refine Ro.p (bool_of h7930) ?_
              refine Ro.t 2 ?_
              obtain ⟨y7931, h7932, h⟩ := bind_some h
              refine RunO.c2 (by kernel_rfl) (by kernel_rfl) (by kernel_rfl) (c28 h7932) ?_
              obtain ⟨y7933, h7934, h⟩ := bind_some h
              refine RunO.c2 (by kernel_rfl) (by kernel_rfl) (by kernel_rfl) (c14 h7934) ?_
              refine Ro.t 1 ?_
              obtain ⟨y7935, h7936, h⟩ := bind_some h
              rcases tf y7935 with h7937 | h7937
              · subst h7937; rw [if_pos rfl] at h
                refine RunO.c1 (by kernel_rfl) (by kernel_rfl) (c17 h7936 _) ?_
                refine Ro.t 2 ?_
                obtain ⟨y7938, h7939, h⟩ := bind_some h
                refine RunO.c2 (by kernel_rfl) (by kernel_rfl) (by kernel_rfl) (c28 h7939) ?_
                obtain ⟨y7940, h7941, h⟩ := bind_some h
                refine RunO.c1 (by kernel_rfl) (by kernel_rfl) (c22 h7941 _) ?_
                refine Ro.t 3 ?_
                refine Ro.d (mkE [(0, (V.bool (y7940 == (9 : Int))))] 58) ?_
                refine Run.ret ?_
                have h := Option.some.inj h; subst h
                exact ⟨(V.bool (y7940 == (9 : Int))), (by kernel_rfl), (by kernel_rfl), hp⟩
              · subst h7937; rw [if_neg (by decide)] at h
                refine RunO.c1 (by kernel_rfl) (by kernel_rfl) (c17 h7936 _) ?_
                refine Ro.t 7 ?_
                refine Ro.d (mkE [(0, (V.bool false))] 58) ?_
                refine Run.ret ?_
                have h := Option.some.inj h; subst h
                exact ⟨(V.bool false), (by kernel_rfl), (by kernel_rfl), hp⟩
            · rw [ite_f h7930] at h; refine Ro.p (bool_of h7930) ?_
              refine Ro.t 13 ?_
              refine Ro.d (mkE [(0, (V.bool false))] 58) ?_
              refine Run.ret ?_
              have h := Option.some.inj h; subst h
              exact ⟨(V.bool false), (by kernel_rfl), (by kernel_rfl), hp⟩
          · rw [ite_f h7929] at h; refine Ro.p (bool_of h7929) ?_
            refine Ro.t 16 ?_
            refine Ro.d (mkE [(0, (V.bool false))] 58) ?_
            refine Run.ret ?_
            have h := Option.some.inj h; subst h
            exact ⟨(V.bool false), (by kernel_rfl), (by kernel_rfl), hp⟩
        · rw [ite_f h7928] at h; refine Ro.p (bool_of h7928) ?_
          refine Ro.t 20 ?_
          refine Ro.d (mkE [(0, (V.bool false))] 58) ?_
          refine Run.ret ?_
          have h := Option.some.inj h; subst h
          exact ⟨(V.bool false), (by kernel_rfl), (by kernel_rfl), hp⟩
      · rw [ite_f h7927] at h; refine Ro.p (bool_of h7927) ?_
        refine Ro.t 24 ?_
        refine Ro.d (mkE [(0, (V.bool false))] 58) ?_
        refine Run.ret ?_
        have h := Option.some.inj h; subst h
        exact ⟨(V.bool false), (by kernel_rfl), (by kernel_rfl), hp⟩
    · rw [ite_f h7926] at h; refine Ro.p (bool_of h7926) ?_
      refine Ro.t 28 ?_
      refine Ro.d (mkE [(0, (V.bool false))] 58) ?_
      refine Run.ret ?_
      have h := Option.some.inj h; subst h
      exact ⟨(V.bool false), (by kernel_rfl), (by kernel_rfl), hp⟩
  · rw [ite_f h7925] at h; refine Ro.p (bool_of h7925) ?_
    refine Ro.t 31 ?_
    refine Ro.d (mkE [(0, (V.bool false))] 58) ?_
    refine Run.ret ?_
    have h := Option.some.inj h; subst h
    exact ⟨(V.bool false), (by kernel_rfl), (by kernel_rfl), hp⟩

theorem c9 {r : Bool} (h : F9 = some r) (s : Bool) : Fn T 9 [] [] (fun v hh => deep s hh deepN v = some (EB.e r)) := by
  refine (w9 h HP.nil).mono ?_
  rintro v hh ⟨rfl, hp⟩
  exact EB.hd s hh 38 _ (.inr rfl)

/- smithy/smithylaw07.great -/
abbrev Q12 (L : List Ob) (r : Bool) : V → Heap → Prop := fun v h => v = EB.e r ∧ HP h (L)
abbrev RR12 (L : List Ob) (r : Bool) : List V → Heap → Prop := fun e h => endR none [2] (Q12 L r) e h

abbrev I12_1 (x0 : T_Graph) (L : List Ob) : (Int × Int) → List V → Heap → Prop := fun s e h => e = (mkE [(1, (V.fp (E_Graph.e x0))), (1, (i6 s.1)), (0, (i6 s.2))] 69) ∧ HP h (L)

abbrev J12_1 (x0 : T_Graph) (L : List Ob) : Unit → Nat → List V → Heap → Prop := fun a i e h => i = 0 ∧ clrEnv [1, 2, 3, 4, 5, 28, 29, 30, 31, 32, 33, 34, 35, 36, 37, 38, 39, 40, 41, 42, 43, 44, 45, 46, 47, 48, 49, 50, 51, 52, 53, 54, 55, 56, 57, 58, 59, 60, 61, 62, 63, 64, 65, 66, 67, 68, 69, 70, 71, 72, 73] e = (mkE [] 74) ∧ HP h (L)

abbrev I12_2 (x0 : T_Graph) (y8153 : Int) (L : List Ob) : (Int × Int) → List V → Heap → Prop := fun s e h => e = (mkE [(1, (V.fp (E_Graph.e x0))), (1, (i6 s.1)), (0, (i6 y8153)), (0, (i6 s.2))] 68) ∧ HP h (L)

abbrev J12_2 (x0 : T_Graph) (y8153 : Int) (L : List Ob) : (Int) → Nat → List V → Heap → Prop := fun a i e h => i = 2 ∧ clrEnv [5, 44, 45, 46, 47, 48, 49, 50, 51, 52, 53, 54, 55, 56, 57, 58, 59, 60, 61, 62, 63, 64, 65, 66, 67, 68, 69, 70, 71] e = (mkE [(1, (V.fp (E_Graph.e x0))), (1, (i6 a)), (0, (i6 y8153))] 69) ∧ HP h (L)

def F12_2_b (x0 : T_Graph) (y8153 : Int) (y8262 : Int) (y8263 : Int) : Option (Stp (Int × Int) Bool (Int)) :=
  (idx x0.fBlocks y8153).bind fun y8281 =>
  if (decide (y8263 < ((List.length y8281.fIns : Nat) : Int))) then
    if (decide (y8262 ≤ (2000 : Int))) then
      (idx x0.fBlocks y8153).bind fun y8285 =>
      (idx y8285.fIns y8263).bind fun y8287 =>
      some (.next ((IntKind.i64.wrap (y8262 + ((List.length y8287.fArgs : Nat) : Int))), (IntKind.i64.wrap (y8263 + (1 : Int)))))
    else
      some (.go (y8262))
  else
    some (.go (y8262))

theorem w12_2_b {x0 : T_Graph} {y8153 : Int} {y8262 : Int} {y8263 : Int} {t : (Stp (Int × Int) Bool (Int))} (h : F12_2_b x0 y8153 y8262 y8263 = some t) {H : Heap} {L : List Ob} (hp : HP H (L)) :
    Run T i12n20 (mkE [(1, (V.fp (E_Graph.e x0))), (1, (i6 y8262)), (0, (i6 y8153)), (0, (i6 y8263))] 68) H (stp [44, 45, 46, 47, 48, 49, 50, 51, 52, 53, 54, 55, 56, 57, 58, 59, 60, 61, 62, 63, 64, 65, 66, 67, 68, 69, 70, 71] (I12_2 x0 y8153 L) (RR12 L) (J12_2 x0 y8153 L) t) := by
  unfold F12_2_b at h
  refine Run.seq ?_
  refine Rn.g ?_
  refine Ro.t 4 ?_
  obtain ⟨y8281, h8282, h⟩ := bind_some h
  refine Ro.p (idx_fz E_Block .i64 h8282) ?_
  refine Ro.t 2 ?_
  refine Ro.p (len_fz E_Ins y8281.fIns) ?_
  rcases tf (decide (y8263 < (ln y8281.fIns))) with h8283 | h8283
  · rw [ite_t h8283] at h; refine Ro.p (bool_of h8283) ?_
    refine Ro.t 4 ?_
    refine Ro.d (mkE [(1, (V.fp (E_Graph.e x0))), (1, (i6 y8262)), (0, (i6 y8153)), (0, (i6 y8263)), (50, (V.bool (decide (y8262 ≤ (2000 : Int)))))] 17) ?_
    rcases tf (decide (y8262 ≤ (2000 : Int))) with h8284 | h8284
    · rw [ite_t h8284] at h; refine Rn.t h8284 ?_
      refine Run.skip ?_
      refine Rn.c (mkE [(1, (V.fp (E_Graph.e x0))), (1, (i6 y8262)), (0, (i6 y8153)), (0, (i6 y8263))] 68) ?_
      refine Run.seq ?_
      refine Run.block ?_
      refine Run.rgn ?_
      refine Ro.t 4 ?_
      obtain ⟨y8285, h8286, h⟩ := bind_some h
      refine Ro.p (idx_fz E_Block .i64 h8286) ?_
      refine Ro.t 3 ?_
      obtain ⟨y8287, h8288, h⟩ := bind_some h
      refine Ro.p (idx_fz E_Ins .i64 h8288) ?_
      refine Ro.t 2 ?_
      refine Ro.p (len_fz (EI .i64) y8287.fArgs) ?_
      refine Ro.t 2 ?_
      refine RunO.nil ?_
      refine Run.clrE (ts := [59, 60, 61, 62, 63, 64, 65, 66, 67, 68, 69, 70, 71]) (b := (.rgn i12r18)) (Q := (stp [44, 45, 46, 47, 48, 49, 50, 51, 52, 53, 54, 55, 56, 57, 58, 59, 60, 61, 62, 63, 64, 65, 66, 67, 68, 69, 70, 71] (I12_2 x0 y8153 L) (RR12 L) (J12_2 x0 y8153 L) t)) (e' := (mkE [(1, (V.fp (E_Graph.e x0))), (1, (i6 (IntKind.i64.wrap (y8262 + (ln y8287.fArgs))))), (0, (i6 y8153)), (0, (i6 y8263))] 68)) (by kernel_rfl) ?_
      refine Run.rgn ?_
      refine Ro.t 3 ?_
      refine RunO.nil ?_
      have h := Option.some.inj h; subst h
      show I12_2 x0 y8153 L _ _ _
      exact ⟨(by kernel_rfl), hp⟩
    · rw [ite_f h8284] at h; refine Rn.f h8284 ?_
      refine Run.exit ?_
      have h := Option.some.inj h; subst h
      show J12_2 x0 y8153 L _ _ _ _
      exact ⟨rfl, (by kernel_rfl), hp⟩
  · rw [ite_f h8283] at h; refine Ro.p (bool_of h8283) ?_
    refine Ro.t 4 ?_
    refine Ro.d (mkE [(1, (V.fp (E_Graph.e x0))), (1, (i6 y8262)), (0, (i6 y8153)), (0, (i6 y8263)), (50, (V.bool false))] 17) ?_
    refine Run.condF (by kernel_rfl) ?_
    refine Run.exit ?_
    have h := Option.some.inj h; subst h
    show J12_2 x0 y8153 L _ _ _ _
    exact ⟨rfl, (by kernel_rfl), hp⟩

def F12_1_b (x0 : T_Graph) (y8152 : Int) (y8153 : Int) : Option (Stp (Int × Int) Bool Unit) :=
  if (decide (y8153 < ((List.length x0.fBlocks : Nat) : Int))) then
    (idx x0.fBlocks y8153).bind fun y8248 =>
    (iter (fun s : (Int × Int) => F12_2_b x0 y8153 s.1 s.2) FUEL ((IntKind.i64.wrap (y8152 + ((List.length y8248.fIns : Nat) : Int))), (0 : Int))).bind fun o => match o with
    | .ret r => some (.ret r)
    | .go (y8276) =>
      if (decide (y8276 > (2000 : Int))) then
        some (.ret true)
      else
        some (.next (y8276, (IntKind.i64.wrap (y8153 + (1 : Int)))))
  else
    some (.go ())

theorem w12_1_b {x0 : T_Graph} {y8152 : Int} {y8153 : Int} {t : (Stp (Int × Int) Bool Unit)} (h : F12_1_b x0 y8152 y8153 = some t) {H : Heap} {L : List Ob} (hp : HP H (L)) :
    Run T i12n34 (mkE [(1, (V.fp (E_Graph.e x0))), (1, (i6 y8152)), (0, (i6 y8153))] 69) H (stp [2, 5, 28, 29, 30, 31, 32, 33, 34, 35, 36, 37, 38, 39, 40, 41, 42, 43, 44, 45, 46, 47, 48, 49, 50, 51, 52, 53, 54, 55, 56, 57, 58, 59, 60, 61, 62, 63, 64, 65, 66, 67, 68, 69, 70, 71, 72, 73] (I12_1 x0 L) (RR12 L) (J12_1 x0 L) t) := by
  unfold F12_1_b at h
  refine Run.seq ?_
  refine Rn.g ?_
  refine Ro.t 3 ?_
  refine Ro.p (len_fz E_Block x0.fBlocks) ?_
  refine Ro.t 1 ?_
  refine Ro.d (mkE [(1, (V.fp (E_Graph.e x0))), (1, (i6 y8152)), (0, (i6 y8153)), (27, (V.bool (decide (y8153 < (ln x0.fBlocks)))))] 41) ?_
  rcases tf (decide (y8153 < (ln x0.fBlocks))) with h8217 | h8217
  · rw [ite_t h8217] at h; refine Rn.t h8217 ?_
    refine Run.skip ?_
    refine Rn.c (mkE [(1, (V.fp (E_Graph.e x0))), (1, (i6 y8152)), (0, (i6 y8153))] 69) ?_
    refine Run.seq ?_
    refine Run.block ?_
    refine Rn.g ?_
    refine Ro.t 4 ?_
    obtain ⟨y8248, h8249, h⟩ := bind_some h
    refine Ro.p (idx_fz E_Block .i64 h8249) ?_
    refine Ro.t 2 ?_
    refine Ro.p (len_fz E_Ins y8248.fIns) ?_
    refine Ro.t 2 ?_
    refine Ro.d (mkE [(1, (V.fp (E_Graph.e x0))), (1, (i6 (IntKind.i64.wrap (y8152 + (ln y8248.fIns))))), (0, (i6 y8153))] 69) ?_
    refine Run.seq ?_
    refine Rn.g ?_
    refine Ro.t 1 ?_
    refine Ro.d (mkE [(1, (V.fp (E_Graph.e x0))), (1, (i6 (IntKind.i64.wrap (y8152 + (ln y8248.fIns))))), (0, (i6 y8153)), (0, (i6 (0 : Int)))] 68) ?_
    refine Run.block ?_
    obtain ⟨o, h8289, h⟩ := bind_some h
    refine (Run.iter (I := I12_2 x0 y8153 L) (RR := RR12 L) (J := J12_2 x0 y8153 L) (fun s e h' t hI hf => ?_) FUEL h8289 (by exact ⟨(by kernel_rfl), hp⟩)).mono ?_
    · obtain ⟨rfl, hp⟩ := hI; exact w12_2_b hf hp
    · rintro X e' H hq
      cases o with
      | ret r => cases X <;> first | exact hq.elim | (cases h; exact hq)
      | go y8276 => 
        cases X with | nrm => exact hq.elim | ret => exact hq.elim | ext i => ?_
        obtain ⟨rfl, he, hp⟩ := hq
        dsimp only at h
        refine Run.clrE (ts := [5, 44, 45, 46, 47, 48, 49, 50, 51, 52, 53, 54, 55, 56, 57, 58, 59, 60, 61, 62, 63, 64, 65, 66, 67, 68, 69, 70, 71]) (b := i12n28) (Q := (blk 1 (thn T (.clr [2, 5, 35, 36, 37, 38, 39, 40, 41, 42, 43, 44, 45, 46, 47, 48, 49, 50, 51, 52, 53, 54, 55, 56, 57, 58, 59, 60, 61, 62, 63, 64, 65, 66, 67, 68, 69, 70, 71, 72, 73] (.rgn i12r32)) (stp [2, 5, 28, 29, 30, 31, 32, 33, 34, 35, 36, 37, 38, 39, 40, 41, 42, 43, 44, 45, 46, 47, 48, 49, 50, 51, 52, 53, 54, 55, 56, 57, 58, 59, 60, 61, 62, 63, 64, 65, 66, 67, 68, 69, 70, 71, 72, 73] (I12_1 x0 L) (RR12 L) (J12_1 x0 L) t)))) he ?_
        refine Rn.g ?_
        refine Ro.t 2 ?_
        refine Ro.d (mkE [(1, (V.fp (E_Graph.e x0))), (1, (i6 y8276)), (0, (i6 y8153)), (68, (V.bool (decide (y8276 > (2000 : Int)))))] 0) ?_
        rcases tf (decide (y8276 > (2000 : Int))) with h8290 | h8290
        · rw [ite_t h8290] at h; refine Rn.t h8290 ?_
          refine Rn.g ?_
          refine Ro.t 1 ?_
          refine Ro.d (mkE [(2, (V.bool true))] 71) ?_
          refine Run.ret ?_
          have h := Option.some.inj h; subst h
          show RR12 L _ _ _
          exact ⟨(V.bool true), (by kernel_rfl), (by kernel_rfl), hp⟩
        · rw [ite_f h8290] at h; refine Rn.f h8290 ?_
          refine Run.skip ?_
          refine Run.clrE (ts := [2, 5, 35, 36, 37, 38, 39, 40, 41, 42, 43, 44, 45, 46, 47, 48, 49, 50, 51, 52, 53, 54, 55, 56, 57, 58, 59, 60, 61, 62, 63, 64, 65, 66, 67, 68, 69, 70, 71, 72, 73]) (b := (.rgn i12r32)) (Q := (stp [2, 5, 28, 29, 30, 31, 32, 33, 34, 35, 36, 37, 38, 39, 40, 41, 42, 43, 44, 45, 46, 47, 48, 49, 50, 51, 52, 53, 54, 55, 56, 57, 58, 59, 60, 61, 62, 63, 64, 65, 66, 67, 68, 69, 70, 71, 72, 73] (I12_1 x0 L) (RR12 L) (J12_1 x0 L) t)) (e' := (mkE [(1, (V.fp (E_Graph.e x0))), (1, (i6 y8276)), (0, (i6 y8153))] 69)) (by kernel_rfl) ?_
          refine Run.rgn ?_
          refine Ro.t 3 ?_
          refine RunO.nil ?_
          have h := Option.some.inj h; subst h
          show I12_1 x0 L _ _ _
          exact ⟨(by kernel_rfl), hp⟩
  · rw [ite_f h8217] at h; refine Rn.f h8217 ?_
    refine Run.exit ?_
    have h := Option.some.inj h; subst h
    show J12_1 x0 L () _ _ _
    exact ⟨rfl, (by kernel_rfl), hp⟩

def F12 (x0 : T_Graph) : Option Bool :=
  if (decide (((List.length x0.fBlocks : Nat) : Int) > (400 : Int))) then
    some true
  else
    if (decide (((List.length x0.fVars : Nat) : Int) > (2000 : Int))) then
      some true
    else
      if (decide (((List.length x0.fArrays : Nat) : Int) > (2000 : Int))) then
        some true
      else
        if (decide (((List.length x0.fParams : Nat) : Int) > (2000 : Int))) then
          some true
        else
          (iter (fun s : (Int × Int) => F12_1_b x0 s.1 s.2) FUEL ((0 : Int), (0 : Int))).bind fun o => match o with
          | .ret r => some r
          | .go () =>
            some false

theorem w12 {x0 : T_Graph} {r : Bool} (h : F12 x0 = some r) {H : Heap} {L : List Ob} (hp : HP H (L)) : Fn T 12 [(E_Graph.e x0)] H (Q12 L r) := by
  refine Fn.enterE t12 (e0 := (mkE [(0, (E_Graph.e x0))] 73)) (by kernel_rfl) ?_
  show Run T (.clr [] i12n43) _ _ (finE none [2] (Q12 L r))
  refine Rn.k (mkE [(0, (E_Graph.e x0))] 73) ?_
  unfold F12 at h
  refine Rn.g ?_
  refine Ro.t 2 ?_
  refine Ro.d (mkE [(1, (V.fp (E_Graph.e x0)))] 72) ?_
  refine Run.seq ?_
  refine Rn.g ?_
  refine Ro.t 2 ?_
  refine Ro.p (len_fz E_Block x0.fBlocks) ?_
  rcases tf (decide ((ln x0.fBlocks) > (400 : Int))) with h8086 | h8086
  · rw [ite_t h8086] at h; refine Ro.p (bool_of h8086) ?_
    refine Ro.t 18 ?_
    refine Ro.d (mkE [(1, (V.fp (E_Graph.e x0))), (25, (V.bool true))] 46) ?_
    refine Run.condT (by kernel_rfl) ?_
    refine Rn.g ?_
    refine Ro.t 1 ?_
    refine Ro.d (mkE [(2, (V.bool true))] 71) ?_
    refine Run.ret ?_
    have h := Option.some.inj h; subst h
    exact ⟨(V.bool true), (by kernel_rfl), (by kernel_rfl), hp⟩
  · rw [ite_f h8086] at h; refine Ro.p (bool_of h8086) ?_
    refine Ro.t 3 ?_
    refine Ro.p (len_fz (EI .u8) x0.fVars) ?_
    rcases tf (decide ((ln x0.fVars) > (2000 : Int))) with h8087 | h8087
    · rw [ite_t h8087] at h; refine Ro.p (bool_of h8087) ?_
      refine Ro.t 13 ?_
      refine Ro.d (mkE [(1, (V.fp (E_Graph.e x0))), (25, (V.bool true))] 46) ?_
      refine Run.condT (by kernel_rfl) ?_
      refine Rn.g ?_
      refine Ro.t 1 ?_
      refine Ro.d (mkE [(2, (V.bool true))] 71) ?_
      refine Run.ret ?_
      have h := Option.some.inj h; subst h
      exact ⟨(V.bool true), (by kernel_rfl), (by kernel_rfl), hp⟩
    · rw [ite_f h8087] at h; refine Ro.p (bool_of h8087) ?_
      refine Ro.t 4 ?_
      refine Ro.p (len_fz E_Array x0.fArrays) ?_
      rcases tf (decide ((ln x0.fArrays) > (2000 : Int))) with h8088 | h8088
      · rw [ite_t h8088] at h; refine Ro.p (bool_of h8088) ?_
        refine Ro.t 7 ?_
        refine Ro.d (mkE [(1, (V.fp (E_Graph.e x0))), (25, (V.bool true))] 46) ?_
        refine Run.condT (by kernel_rfl) ?_
        refine Rn.g ?_
        refine Ro.t 1 ?_
        refine Ro.d (mkE [(2, (V.bool true))] 71) ?_
        refine Run.ret ?_
        have h := Option.some.inj h; subst h
        exact ⟨(V.bool true), (by kernel_rfl), (by kernel_rfl), hp⟩
      · rw [ite_f h8088] at h; refine Ro.p (bool_of h8088) ?_
        refine Ro.t 4 ?_
        refine Ro.p (len_fz (EI .i64) x0.fParams) ?_
        refine Ro.t 2 ?_
        refine Ro.d (mkE [(1, (V.fp (E_Graph.e x0))), (25, (V.bool (decide ((ln x0.fParams) > (2000 : Int)))))] 46) ?_
        rcases tf (decide ((ln x0.fParams) > (2000 : Int))) with h8089 | h8089
        · rw [ite_t h8089] at h; refine Rn.t h8089 ?_
          refine Rn.g ?_
          refine Ro.t 1 ?_
          refine Ro.d (mkE [(2, (V.bool true))] 71) ?_
          refine Run.ret ?_
          have h := Option.some.inj h; subst h
          exact ⟨(V.bool true), (by kernel_rfl), (by kernel_rfl), hp⟩
        · rw [ite_f h8089] at h; refine Rn.f h8089 ?_
          refine Run.skip ?_
          refine Rn.c (mkE [(1, (V.fp (E_Graph.e x0)))] 72) ?_
          refine Rn.g ?_
          refine Ro.t 1 ?_
          refine Ro.d (mkE [(1, (V.fp (E_Graph.e x0))), (1, (i6 (0 : Int)))] 70) ?_
          refine Run.seq ?_
          refine Rn.g ?_
          refine Ro.t 1 ?_
          refine Ro.d (mkE [(1, (V.fp (E_Graph.e x0))), (1, (i6 (0 : Int))), (0, (i6 (0 : Int)))] 69) ?_
          refine Run.block ?_
          obtain ⟨o, h8291, h⟩ := bind_some h
          refine (Run.iter (I := I12_1 x0 L) (RR := RR12 L) (J := J12_1 x0 L) (fun s e h' t hI hf => ?_) FUEL h8291 (by exact ⟨(by kernel_rfl), hp⟩)).mono ?_
          · obtain ⟨rfl, hp⟩ := hI; exact w12_1_b hf hp
          · rintro X e' H hq
            cases o with
            | ret r => cases X <;> first | exact hq.elim | (cases h; exact hq)
            | go a => 
              cases X with | nrm => exact hq.elim | ret => exact hq.elim | ext i => ?_
              obtain ⟨rfl, he, hp⟩ := hq
              dsimp only at h
              refine Run.clrE (ts := [1, 2, 3, 4, 5, 28, 29, 30, 31, 32, 33, 34, 35, 36, 37, 38, 39, 40, 41, 42, 43, 44, 45, 46, 47, 48, 49, 50, 51, 52, 53, 54, 55, 56, 57, 58, 59, 60, 61, 62, 63, 64, 65, 66, 67, 68, 69, 70, 71, 72, 73]) (b := i12n39) (Q := (finE none [2] (Q12 L r))) he ?_
              refine Rn.g ?_
              refine Ro.t 1 ?_
              refine Ro.d (mkE [(2, (V.bool false))] 71) ?_
              refine Run.ret ?_
              have h := Option.some.inj h; subst h
              exact ⟨(V.bool false), (by kernel_rfl), (by kernel_rfl), hp⟩

theorem c12 {x0 : T_Graph} {r : Bool} (h : F12 x0 = some r) (s : Bool) : Fn T 12 [(E_Graph.e x0)] [] (fun v hh => deep s hh deepN v = some (EB.e r)) := by
  refine (w12 h HP.nil).mono ?_
  rintro v hh ⟨rfl, hp⟩
  exact EB.hd s hh 38 _ (.inr rfl)

/- smithy/smithylaw07.among -/
abbrev Q16 (L : List Ob) (r : Bool) : V → Heap → Prop := fun v h => v = EB.e r ∧ HP h (L)
abbrev RR16 (L : List Ob) (r : Bool) : List V → Heap → Prop := fun e h => endR none [4] (Q16 L r) e h

abbrev I16_1 (x0 : (List Int)) (x1 : Int) (L : List Ob) : (Int) → List V → Heap → Prop := fun s e h => e = (mkE [(0, (Zl (EI .i64) x0)), (0, (i6 x1)), (3, (i6 s))] 12) ∧ HP h (L)

abbrev J16_1 (x0 : (List Int)) (x1 : Int) (L : List Ob) : Unit → Nat → List V → Heap → Prop := fun a i e h => i = 0 ∧ clrEnv [0, 1, 4, 5, 6, 7, 8, 9, 10, 11, 12, 13, 14, 15, 16, 17] e = (mkE [] 18) ∧ HP h (L)

def F16_1_b (x0 : (List Int)) (x1 : Int) (y8353 : Int) : Option (Stp (Int) Bool Unit) :=
  if (decide (y8353 < ((List.length x0 : Nat) : Int))) then
    (idx x0 y8353).bind fun y8367 =>
    if (y8367 == x1) then
      some (.ret true)
    else
      some (.next ((IntKind.i64.wrap (y8353 + (1 : Int)))))
  else
    some (.go ())

theorem w16_1_b {x0 : (List Int)} {x1 : Int} {y8353 : Int} {t : (Stp (Int) Bool Unit)} (h : F16_1_b x0 x1 y8353 = some t) {H : Heap} {L : List Ob} (hp : HP H (L)) :
    Run T i16n13 (mkE [(0, (Zl (EI .i64) x0)), (0, (i6 x1)), (3, (i6 y8353))] 12) H (stp [4, 6, 7, 8, 9, 10, 11, 12, 13, 14, 15, 16, 17] (I16_1 x0 x1 L) (RR16 L) (J16_1 x0 x1 L) t) := by
  unfold F16_1_b at h
  refine Run.seq ?_
  refine Rn.g ?_
  refine Ro.t 2 ?_
  refine Ro.p (len_fz (EI .i64) x0) ?_
  refine Ro.t 1 ?_
  refine Ro.d (mkE [(0, (Zl (EI .i64) x0)), (0, (i6 x1)), (3, (i6 y8353)), (3, (V.bool (decide (y8353 < (ln x0)))))] 8) ?_
  rcases tf (decide (y8353 < (ln x0))) with h8363 | h8363
  · rw [ite_t h8363] at h; refine Rn.t h8363 ?_
    refine Run.skip ?_
    refine Rn.c (mkE [(0, (Zl (EI .i64) x0)), (0, (i6 x1)), (3, (i6 y8353))] 12) ?_
    refine Run.seq ?_
    refine Run.block ?_
    refine Rn.g ?_
    refine Ro.t 2 ?_
    obtain ⟨y8367, h8368, h⟩ := bind_some h
    refine Ro.p (idx_fz (EI .i64) .i64 h8368) ?_
    refine Ro.t 3 ?_
    refine Ro.d (mkE [(0, (Zl (EI .i64) x0)), (0, (i6 x1)), (3, (i6 y8353)), (11, (V.bool (y8367 == x1)))] 0) ?_
    rcases tf (y8367 == x1) with h8369 | h8369
    · rw [ite_t h8369] at h; refine Rn.t h8369 ?_
      refine Rn.g ?_
      refine Ro.t 1 ?_
      refine Ro.d (mkE [(4, (V.bool true))] 13) ?_
      refine Run.ret ?_
      have h := Option.some.inj h; subst h
      show RR16 L _ _ _
      exact ⟨(V.bool true), (by kernel_rfl), (by kernel_rfl), hp⟩
    · rw [ite_f h8369] at h; refine Rn.f h8369 ?_
      refine Run.skip ?_
      refine Run.clrE (ts := [4, 12, 13, 14, 15, 16, 17]) (b := (.rgn i16r11)) (Q := (stp [4, 6, 7, 8, 9, 10, 11, 12, 13, 14, 15, 16, 17] (I16_1 x0 x1 L) (RR16 L) (J16_1 x0 x1 L) t)) (e' := (mkE [(0, (Zl (EI .i64) x0)), (0, (i6 x1)), (3, (i6 y8353))] 12)) (by kernel_rfl) ?_
      refine Run.rgn ?_
      refine Ro.t 3 ?_
      refine RunO.nil ?_
      have h := Option.some.inj h; subst h
      show I16_1 x0 x1 L _ _ _
      exact ⟨(by kernel_rfl), hp⟩
  · rw [ite_f h8363] at h; refine Rn.f h8363 ?_
    refine Run.exit ?_
    have h := Option.some.inj h; subst h
    show J16_1 x0 x1 L () _ _ _
    exact ⟨rfl, (by kernel_rfl), hp⟩

def F16 (x0 : (List Int)) (x1 : Int) : Option Bool :=
  (iter (fun s : (Int) => F16_1_b x0 x1 s) FUEL ((0 : Int))).bind fun o => match o with
  | .ret r => some r
  | .go () =>
    some false

theorem w16 {x0 : (List Int)} {x1 : Int} {r : Bool} (h : F16 x0 x1 = some r) {H : Heap} {L : List Ob} (hp : HP H (L)) : Fn T 16 [(Zl (EI .i64) x0), (i6 x1)] H (Q16 L r) := by
  refine Fn.enterE t16 (e0 := (mkE [(0, (Zl (EI .i64) x0)), (0, (i6 x1))] 16)) (by kernel_rfl) ?_
  show Run T (.clr [] i16n20) _ _ (finE none [4] (Q16 L r))
  refine Rn.k (mkE [(0, (Zl (EI .i64) x0)), (0, (i6 x1))] 16) ?_
  unfold F16 at h
  refine Rn.g ?_
  refine Ro.t 1 ?_
  refine Ro.d (mkE [(0, (Zl (EI .i64) x0)), (0, (i6 x1))] 16) ?_
  refine Run.seq ?_
  refine Rn.g ?_
  refine Ro.t 1 ?_
  refine Ro.d (mkE [(0, (Zl (EI .i64) x0)), (0, (i6 x1)), (3, (i6 (0 : Int)))] 12) ?_
  refine Run.block ?_
  obtain ⟨o, h8370, h⟩ := bind_some h
  refine (Run.iter (I := I16_1 x0 x1 L) (RR := RR16 L) (J := J16_1 x0 x1 L) (fun s e h' t hI hf => ?_) FUEL h8370 (by exact ⟨(by kernel_rfl), hp⟩)).mono ?_
  · obtain ⟨rfl, hp⟩ := hI; exact w16_1_b hf hp
  · rintro X e' H hq
    cases o with
    | ret r => cases X <;> first | exact hq.elim | (cases h; exact hq)
    | go a => 
      cases X with | nrm => exact hq.elim | ret => exact hq.elim | ext i => ?_
      obtain ⟨rfl, he, hp⟩ := hq
      dsimp only at h
      refine Run.clrE (ts := [0, 1, 4, 5, 6, 7, 8, 9, 10, 11, 12, 13, 14, 15, 16, 17]) (b := i16n18) (Q := (finE none [4] (Q16 L r))) he ?_
      refine Rn.g ?_
      refine Ro.t 1 ?_
      refine Ro.d (mkE [(4, (V.bool false))] 13) ?_
      refine Run.ret ?_
      have h := Option.some.inj h; subst h
      exact ⟨(V.bool false), (by kernel_rfl), (by kernel_rfl), hp⟩

theorem c16 {x0 : (List Int)} {x1 : Int} {r : Bool} (h : F16 x0 x1 = some r) (s : Bool) : Fn T 16 [(Zl (EI .i64) x0), (i6 x1)] [] (fun v hh => deep s hh deepN v = some (EB.e r)) := by
  refine (w16 h HP.nil).mono ?_
  rintro v hh ⟨rfl, hp⟩
  exact EB.hd s hh 38 _ (.inr rfl)

/- smithy/smithylaw07.GraphEdges -/
abbrev Q4 (L : List Ob) (r : Bool) : V → Heap → Prop := fun v h => v = EB.e r ∧ HP h (L)
abbrev RR4 (L : List Ob) (r : Bool) : List V → Heap → Prop := fun e h => endR none [2] (Q4 L r) e h

abbrev I4_1 (x0 : T_Graph) (y9030 : (List (List Int))) (y9032 : (List Int)) (L : List Ob) : (Int × Int) → List V → Heap → Prop := fun s e h => e = (mkE [(1, (V.fp (E_Graph.e x0))), (1, (V.fz (List.map (EL (EI .i64)).e y9030))), (0, (Zl (EI .i64) y9032)), (0, (i6 s.1)), (0, (i6 s.2))] 151) ∧ HP h (L)

abbrev J4_1 (x0 : T_Graph) (y9030 : (List (List Int))) (y9032 : (List Int)) (L : List Ob) : (Int) → Nat → List V → Heap → Prop := fun a i e h => i = 0 ∧ clrEnv [2, 6, 7, 8, 26, 27, 28, 29, 30, 31, 32, 33, 34, 35, 36, 37, 38, 39, 40, 41, 42, 43, 44, 45, 46, 47, 48, 49, 50, 51, 52, 53, 54, 55, 56, 57, 58, 59, 60, 61, 62, 63, 64, 65, 66, 67, 68, 69, 70, 71, 72, 73, 74, 75, 76, 77, 78, 79, 80, 81, 82, 83, 84] e = (mkE [(1, (V.fp (E_Graph.e x0))), (1, (V.fz (List.map (EL (EI .i64)).e y9030))), (0, (Zl (EI .i64) y9032)), (0, (i6 a))] 152) ∧ HP h (L)

abbrev I4_2 (x0 : T_Graph) (y9030 : (List (List Int))) (y9032 : (List Int)) (y9220 : Int) (y9409 : (List Int)) (L : List Ob) : (Int × Int) → List V → Heap → Prop := fun s e h => e = (mkE [(1, (V.fp (E_Graph.e x0))), (1, (V.fz (List.map (EL (EI .i64)).e y9030))), (0, (Zl (EI .i64) y9032)), (0, (i6 s.1)), (0, (i6 y9220)), (0, (Zl (EI .i64) y9409)), (0, (i6 s.2))] 149) ∧ HP h (L)

abbrev J4_2 (x0 : T_Graph) (y9030 : (List (List Int))) (y9032 : (List Int)) (y9220 : Int) (y9409 : (List Int)) (L : List Ob) : (Int) → Nat → List V → Heap → Prop := fun a i e h => i = 2 ∧ clrEnv [2, 7, 8, 33, 34, 35, 36, 37, 38, 39, 40, 41, 42, 43, 44, 45, 46, 47, 48, 49, 50, 51, 52, 53, 54, 55, 56, 57, 58, 59, 60, 61, 62, 63, 64, 65, 66, 67, 68, 69, 70, 71, 72, 73, 74, 75, 76, 77, 78, 79, 80, 81, 82, 83, 84] e = (mkE [(1, (V.fp (E_Graph.e x0))), (1, (V.fz (List.map (EL (EI .i64)).e y9030))), (0, (Zl (EI .i64) y9032)), (0, (i6 a)), (0, (i6 y9220))] 151) ∧ HP h (L)

def F4_j1 (x0 : T_Graph) (y9030 : (List (List Int))) (y9032 : (List Int)) (y9220 : Int) (y9409 : (List Int)) (y9499 : Int) (y9632 : Int) : Option (Stp (Int × Int) Bool (Int)) :=
  some (.next (y9632, (IntKind.i64.wrap (y9499 + (1 : Int)))))

theorem w4_j1 {x0 : T_Graph} {y9030 : (List (List Int))} {y9032 : (List Int)} {y9220 : Int} {y9409 : (List Int)} {y9499 : Int} {y9632 : Int} {t : (Stp (Int × Int) Bool (Int))} (h : F4_j1 x0 y9030 y9032 y9220 y9409 y9499 y9632 = some t) {H : Heap} {L : List Ob} (hp : HP H (L)) :
    Run T (.rgn i4r40) (mkE [(1, (V.fp (E_Graph.e x0))), (1, (V.fz (List.map (EL (EI .i64)).e y9030))), (0, (Zl (EI .i64) y9032)), (0, (i6 y9632)), (0, (i6 y9220)), (0, (Zl (EI .i64) y9409)), (0, (i6 y9499))] 149) H (stp [2, 39, 40, 41, 42, 43, 44, 45, 46, 47, 48, 49, 50, 51, 52, 53, 54, 55, 56, 57, 58, 59, 60, 61, 62, 63, 64, 65, 66, 67, 68, 69, 70, 71, 72, 73, 74, 75, 76, 77, 78, 79, 80, 81, 82, 83, 84] (I4_2 x0 y9030 y9032 y9220 y9409 L) (RR4 L) (J4_2 x0 y9030 y9032 y9220 y9409 L) t) := by
  unfold F4_j1 at h
  refine Run.rgn ?_
  refine Ro.t 3 ?_
  refine RunO.nil ?_
  have h := Option.some.inj h; subst h
  show I4_2 x0 y9030 y9032 y9220 y9409 L _ _ _
  exact ⟨(by kernel_rfl), hp⟩

def F4_j2 (x0 : T_Graph) (y9030 : (List (List Int))) (y9032 : (List Int)) (y9220 : Int) (y9409 : (List Int)) (y9498 : Int) (y9499 : Int) : Option (Stp (Int × Int) Bool (Int)) :=
  F4_j1 x0 y9030 y9032 y9220 y9409 y9499 ((IntKind.i64.wrap (y9498 + (1 : Int))))

theorem w4_j2 {x0 : T_Graph} {y9030 : (List (List Int))} {y9032 : (List Int)} {y9220 : Int} {y9409 : (List Int)} {y9498 : Int} {y9499 : Int} {t : (Stp (Int × Int) Bool (Int))} (h : F4_j2 x0 y9030 y9032 y9220 y9409 y9498 y9499 = some t) {H : Heap} {L : List Ob} (hp : HP H (L)) :
    Run T (.rgn i4r36) (mkE [(1, (V.fp (E_Graph.e x0))), (1, (V.fz (List.map (EL (EI .i64)).e y9030))), (0, (Zl (EI .i64) y9032)), (0, (i6 y9498)), (0, (i6 y9220)), (0, (Zl (EI .i64) y9409)), (0, (i6 y9499))] 149) H (blk 3 (thn T (.clr [2, 45, 46, 47, 48, 49, 50, 51, 52, 53, 54, 55, 56, 57, 58, 59, 60, 61, 62, 63, 64, 65, 66, 67, 68, 69, 70, 71, 72, 73, 74, 75, 76, 77, 78, 79, 80, 81, 82, 83, 84] (.rgn i4r40)) (stp [2, 39, 40, 41, 42, 43, 44, 45, 46, 47, 48, 49, 50, 51, 52, 53, 54, 55, 56, 57, 58, 59, 60, 61, 62, 63, 64, 65, 66, 67, 68, 69, 70, 71, 72, 73, 74, 75, 76, 77, 78, 79, 80, 81, 82, 83, 84] (I4_2 x0 y9030 y9032 y9220 y9409 L) (RR4 L) (J4_2 x0 y9030 y9032 y9220 y9409 L) t))) := by
  unfold F4_j2 at h
  refine Run.rgn ?_
  refine Ro.t 3 ?_
  refine RunO.nil ?_
  refine Run.clrE (ts := [2, 45, 46, 47, 48, 49, 50, 51, 52, 53, 54, 55, 56, 57, 58, 59, 60, 61, 62, 63, 64, 65, 66, 67, 68, 69, 70, 71, 72, 73, 74, 75, 76, 77, 78, 79, 80, 81, 82, 83, 84]) (b := (.rgn i4r40)) (Q := (stp [2, 39, 40, 41, 42, 43, 44, 45, 46, 47, 48, 49, 50, 51, 52, 53, 54, 55, 56, 57, 58, 59, 60, 61, 62, 63, 64, 65, 66, 67, 68, 69, 70, 71, 72, 73, 74, 75, 76, 77, 78, 79, 80, 81, 82, 83, 84] (I4_2 x0 y9030 y9032 y9220 y9409 L) (RR4 L) (J4_2 x0 y9030 y9032 y9220 y9409 L) t)) (e' := (mkE [(1, (V.fp (E_Graph.e x0))), (1, (V.fz (List.map (EL (EI .i64)).e y9030))), (0, (Zl (EI .i64) y9032)), (0, (i6 (IntKind.i64.wrap (y9498 + (1 : Int))))), (0, (i6 y9220)), (0, (Zl (EI .i64) y9409)), (0, (i6 y9499))] 149)) (by kernel_rfl) ?_
  exact w4_j1 h hp

def F4_2_b (x0 : T_Graph) (y9030 : (List (List Int))) (y9032 : (List Int)) (y9220 : Int) (y9409 : (List Int)) (y9498 : Int) (y9499 : Int) : Option (Stp (Int × Int) Bool (Int)) :=
  if (decide (y9499 < ((List.length y9409 : Nat) : Int))) then
    (idx y9409 y9499).bind fun y9639 =>
    if (decide (y9639 < (0 : Int))) then
      F4_j1 x0 y9030 y9032 y9220 y9409 y9499 (y9498)
    else
      (idx y9409 y9499).bind fun y9642 =>
      if (decide (y9642 ≥ ((List.length y9030 : Nat) : Int))) then
        F4_j1 x0 y9030 y9032 y9220 y9409 y9499 (y9498)
      else
        (idx y9409 y9499).bind fun y9660 =>
        (idx y9030 y9660).bind fun y9662 =>
        (F16 y9662 y9220).bind fun y9664 =>
        if y9664 then
          (F16 y9032 y9220).bind fun y9667 =>
          if y9667 then
            (idx y9409 y9499).bind fun y9670 =>
            (F16 y9032 y9670).bind fun y9672 =>
            if (!y9672) then
              some (.ret false)
            else
              F4_j2 x0 y9030 y9032 y9220 y9409 y9498 y9499
          else
            F4_j2 x0 y9030 y9032 y9220 y9409 y9498 y9499
        else
          some (.ret false)
  else
    some (.go (y9498))

theorem w4_2_b {x0 : T_Graph} {y9030 : (List (List Int))} {y9032 : (List Int)} {y9220 : Int} {y9409 : (List Int)} {y9498 : Int} {y9499 : Int} {t : (Stp (Int × Int) Bool (Int))} (h : F4_2_b x0 y9030 y9032 y9220 y9409 y9498 y9499 = some t) {H : Heap} {L : List Ob} (hp : HP H (L)) :
    Run T i4n42 (mkE [(1, (V.fp (E_Graph.e x0))), (1, (V.fz (List.map (EL (EI .i64)).e y9030))), (0, (Zl (EI .i64) y9032)), (0, (i6 y9498)), (0, (i6 y9220)), (0, (Zl (EI .i64) y9409)), (0, (i6 y9499))] 149) H (stp [2, 39, 40, 41, 42, 43, 44, 45, 46, 47, 48, 49, 50, 51, 52, 53, 54, 55, 56, 57, 58, 59, 60, 61, 62, 63, 64, 65, 66, 67, 68, 69, 70, 71, 72, 73, 74, 75, 76, 77, 78, 79, 80, 81, 82, 83, 84] (I4_2 x0 y9030 y9032 y9220 y9409 L) (RR4 L) (J4_2 x0 y9030 y9032 y9220 y9409 L) t) := by
  unfold F4_2_b at h
  refine Run.seq ?_
  refine Rn.g ?_
  refine Ro.t 2 ?_
  refine Ro.p (len_fz (EI .i64) y9409) ?_
  refine Ro.t 1 ?_
  refine Ro.d (mkE [(1, (V.fp (E_Graph.e x0))), (1, (V.fz (List.map (EL (EI .i64)).e y9030))), (0, (Zl (EI .i64) y9032)), (0, (i6 y9498)), (0, (i6 y9220)), (0, (Zl (EI .i64) y9409)), (0, (i6 y9499)), (33, (V.bool (decide (y9499 < (ln y9409)))))] 115) ?_
  rcases tf (decide (y9499 < (ln y9409))) with h9589 | h9589
  · rw [ite_t h9589] at h; refine Rn.t h9589 ?_
    refine Run.skip ?_
    refine Rn.c (mkE [(1, (V.fp (E_Graph.e x0))), (1, (V.fz (List.map (EL (EI .i64)).e y9030))), (0, (Zl (EI .i64) y9032)), (0, (i6 y9498)), (0, (i6 y9220)), (0, (Zl (EI .i64) y9409)), (0, (i6 y9499))] 149) ?_
    refine Run.seq ?_
    refine Run.block ?_
    refine Run.seq ?_
    refine Rn.g ?_
    refine Ro.t 2 ?_
    obtain ⟨y9639, h9640, h⟩ := bind_some h
    refine Ro.p (idx_fz (EI .i64) .i64 h9640) ?_
    refine Ro.t 1 ?_
    rcases tf (decide (y9639 < (0 : Int))) with h9641 | h9641
    · rw [ite_t h9641] at h; refine Ro.p (bool_of h9641) ?_
      refine Ro.t 9 ?_
      refine Ro.d (mkE [(1, (V.fp (E_Graph.e x0))), (1, (V.fz (List.map (EL (EI .i64)).e y9030))), (0, (Zl (EI .i64) y9032)), (0, (i6 y9498)), (0, (i6 y9220)), (0, (Zl (EI .i64) y9409)), (0, (i6 y9499)), (49, (V.bool true))] 99) ?_
      refine Run.condT (by kernel_rfl) ?_
      refine Run.exit ?_
      refine Run.clrE (ts := [2, 45, 46, 47, 48, 49, 50, 51, 52, 53, 54, 55, 56, 57, 58, 59, 60, 61, 62, 63, 64, 65, 66, 67, 68, 69, 70, 71, 72, 73, 74, 75, 76, 77, 78, 79, 80, 81, 82, 83, 84]) (b := (.rgn i4r40)) (Q := (stp [2, 39, 40, 41, 42, 43, 44, 45, 46, 47, 48, 49, 50, 51, 52, 53, 54, 55, 56, 57, 58, 59, 60, 61, 62, 63, 64, 65, 66, 67, 68, 69, 70, 71, 72, 73, 74, 75, 76, 77, 78, 79, 80, 81, 82, 83, 84] (I4_2 x0 y9030 y9032 y9220 y9409 L) (RR4 L) (J4_2 x0 y9030 y9032 y9220 y9409 L) t)) (e' := (mkE [(1, (V.fp (E_Graph.e x0))), (1, (V.fz (List.map (EL (EI .i64)).e y9030))), (0, (Zl (EI .i64) y9032)), (0, (i6 y9498)), (0, (i6 y9220)), (0, (Zl (EI .i64) y9409)), (0, (i6 y9499))] 149)) (by kernel_rfl) ?_
      exact w4_j1 h hp
    · rw [ite_f h9641] at h; refine Ro.p (bool_of h9641) ?_
      refine Ro.t 3 ?_
      obtain ⟨y9642, h9643, h⟩ := bind_some h
      refine Ro.p (idx_fz (EI .i64) .i64 h9643) ?_
      refine Ro.t 2 ?_
      refine Ro.p (len_fz (EL (EI .i64)) y9030) ?_
      refine Ro.t 2 ?_
      refine Ro.d (mkE [(1, (V.fp (E_Graph.e x0))), (1, (V.fz (List.map (EL (EI .i64)).e y9030))), (0, (Zl (EI .i64) y9032)), (0, (i6 y9498)), (0, (i6 y9220)), (0, (Zl (EI .i64) y9409)), (0, (i6 y9499)), (49, (V.bool (decide (y9642 ≥ (ln y9030)))))] 99) ?_
      rcases tf (decide (y9642 ≥ (ln y9030))) with h9644 | h9644
      · rw [ite_t h9644] at h; refine Rn.t h9644 ?_
        refine Run.exit ?_
        refine Run.clrE (ts := [2, 45, 46, 47, 48, 49, 50, 51, 52, 53, 54, 55, 56, 57, 58, 59, 60, 61, 62, 63, 64, 65, 66, 67, 68, 69, 70, 71, 72, 73, 74, 75, 76, 77, 78, 79, 80, 81, 82, 83, 84]) (b := (.rgn i4r40)) (Q := (stp [2, 39, 40, 41, 42, 43, 44, 45, 46, 47, 48, 49, 50, 51, 52, 53, 54, 55, 56, 57, 58, 59, 60, 61, 62, 63, 64, 65, 66, 67, 68, 69, 70, 71, 72, 73, 74, 75, 76, 77, 78, 79, 80, 81, 82, 83, 84] (I4_2 x0 y9030 y9032 y9220 y9409 L) (RR4 L) (J4_2 x0 y9030 y9032 y9220 y9409 L) t)) (e' := (mkE [(1, (V.fp (E_Graph.e x0))), (1, (V.fz (List.map (EL (EI .i64)).e y9030))), (0, (Zl (EI .i64) y9032)), (0, (i6 y9498)), (0, (i6 y9220)), (0, (Zl (EI .i64) y9409)), (0, (i6 y9499))] 149)) (by kernel_rfl) ?_
        exact w4_j1 h hp
      · rw [ite_f h9644] at h; refine Rn.f h9644 ?_
        refine Run.skip ?_
        refine Rn.c (mkE [(1, (V.fp (E_Graph.e x0))), (1, (V.fz (List.map (EL (EI .i64)).e y9030))), (0, (Zl (EI .i64) y9032)), (0, (i6 y9498)), (0, (i6 y9220)), (0, (Zl (EI .i64) y9409)), (0, (i6 y9499))] 149) ?_
        refine Run.seq ?_
        refine Rn.g ?_
        refine Ro.t 3 ?_
        obtain ⟨y9660, h9661, h⟩ := bind_some h
        refine Ro.p (idx_fz (EI .i64) .i64 h9661) ?_
        refine Ro.t 1 ?_
        obtain ⟨y9662, h9663, h⟩ := bind_some h
        refine Ro.p (idx_fz (EL (EI .i64)) .i64 h9663) ?_
        refine Ro.t 2 ?_
        obtain ⟨y9664, h9665, h⟩ := bind_some h
        rcases tf y9664 with h9666 | h9666
        · subst h9666; rw [if_pos rfl] at h
          refine RunO.c1 (by kernel_rfl) (by kernel_rfl) (c16 h9665 _) ?_
          refine Ro.t 4 ?_
          obtain ⟨y9667, h9668, h⟩ := bind_some h
          rcases tf y9667 with h9669 | h9669
          · subst h9669; rw [if_pos rfl] at h
            refine RunO.c1 (by kernel_rfl) (by kernel_rfl) (c16 h9668 _) ?_
            refine Ro.t 4 ?_
            obtain ⟨y9670, h9671, h⟩ := bind_some h
            refine Ro.p (idx_fz (EI .i64) .i64 h9671) ?_
            refine Ro.t 1 ?_
            obtain ⟨y9672, h9673, h⟩ := bind_some h
            refine RunO.c1 (by kernel_rfl) (by kernel_rfl) (c16 h9673 _) ?_
            refine Ro.t 3 ?_
            refine Ro.d (mkE [(1, (V.fp (E_Graph.e x0))), (1, (V.fz (List.map (EL (EI .i64)).e y9030))), (0, (Zl (EI .i64) y9032)), (0, (i6 y9498)), (0, (i6 y9220)), (0, (Zl (EI .i64) y9409)), (0, (i6 y9499)), (73, (V.bool (!y9672)))] 75) ?_
            rcases tf (!y9672) with h9674 | h9674
            · rw [ite_t h9674] at h; refine Rn.t h9674 ?_
              refine Rn.g ?_
              refine Ro.t 1 ?_
              refine Ro.d (mkE [(2, (V.bool false))] 155) ?_
              refine Run.ret ?_
              have h := Option.some.inj h; subst h
              show RR4 L _ _ _
              exact ⟨(V.bool false), (by kernel_rfl), (by kernel_rfl), hp⟩
            · rw [ite_f h9674] at h; refine Rn.f h9674 ?_
              refine Run.skip ?_
              refine Run.clrE (ts := [2, 59, 60, 61, 62, 63, 64, 65, 66, 67, 68, 69, 70, 71, 72, 73, 74, 75, 76, 77, 78, 79, 80, 81, 82]) (b := (.rgn i4r36)) (Q := (blk 3 (thn T (.clr [2, 45, 46, 47, 48, 49, 50, 51, 52, 53, 54, 55, 56, 57, 58, 59, 60, 61, 62, 63, 64, 65, 66, 67, 68, 69, 70, 71, 72, 73, 74, 75, 76, 77, 78, 79, 80, 81, 82, 83, 84] (.rgn i4r40)) (stp [2, 39, 40, 41, 42, 43, 44, 45, 46, 47, 48, 49, 50, 51, 52, 53, 54, 55, 56, 57, 58, 59, 60, 61, 62, 63, 64, 65, 66, 67, 68, 69, 70, 71, 72, 73, 74, 75, 76, 77, 78, 79, 80, 81, 82, 83, 84] (I4_2 x0 y9030 y9032 y9220 y9409 L) (RR4 L) (J4_2 x0 y9030 y9032 y9220 y9409 L) t)))) (e' := (mkE [(1, (V.fp (E_Graph.e x0))), (1, (V.fz (List.map (EL (EI .i64)).e y9030))), (0, (Zl (EI .i64) y9032)), (0, (i6 y9498)), (0, (i6 y9220)), (0, (Zl (EI .i64) y9409)), (0, (i6 y9499))] 149)) (by kernel_rfl) ?_
              exact w4_j2 h hp
          · subst h9669; rw [if_neg (by decide)] at h
            refine RunO.c1 (by kernel_rfl) (by kernel_rfl) (c16 h9668 _) ?_
            refine Ro.t 10 ?_
            refine Ro.d (mkE [(1, (V.fp (E_Graph.e x0))), (1, (V.fz (List.map (EL (EI .i64)).e y9030))), (0, (Zl (EI .i64) y9032)), (0, (i6 y9498)), (0, (i6 y9220)), (0, (Zl (EI .i64) y9409)), (0, (i6 y9499)), (73, (V.bool false))] 75) ?_
            refine Run.condF (by kernel_rfl) ?_
            refine Run.skip ?_
            refine Run.clrE (ts := [2, 59, 60, 61, 62, 63, 64, 65, 66, 67, 68, 69, 70, 71, 72, 73, 74, 75, 76, 77, 78, 79, 80, 81, 82]) (b := (.rgn i4r36)) (Q := (blk 3 (thn T (.clr [2, 45, 46, 47, 48, 49, 50, 51, 52, 53, 54, 55, 56, 57, 58, 59, 60, 61, 62, 63, 64, 65, 66, 67, 68, 69, 70, 71, 72, 73, 74, 75, 76, 77, 78, 79, 80, 81, 82, 83, 84] (.rgn i4r40)) (stp [2, 39, 40, 41, 42, 43, 44, 45, 46, 47, 48, 49, 50, 51, 52, 53, 54, 55, 56, 57, 58, 59, 60, 61, 62, 63, 64, 65, 66, 67, 68, 69, 70, 71, 72, 73, 74, 75, 76, 77, 78, 79, 80, 81, 82, 83, 84] (I4_2 x0 y9030 y9032 y9220 y9409 L) (RR4 L) (J4_2 x0 y9030 y9032 y9220 y9409 L) t)))) (e' := (mkE [(1, (V.fp (E_Graph.e x0))), (1, (V.fz (List.map (EL (EI .i64)).e y9030))), (0, (Zl (EI .i64) y9032)), (0, (i6 y9498)), (0, (i6 y9220)), (0, (Zl (EI .i64) y9409)), (0, (i6 y9499))] 149)) (by kernel_rfl) ?_
            exact w4_j2 h hp
        · subst h9666; rw [if_neg (by decide)] at h
          refine RunO.c1 (by kernel_rfl) (by kernel_rfl) (c16 h9665 _) ?_
          refine Ro.t 15 ?_
          refine Ro.d (mkE [(1, (V.fp (E_Graph.e x0))), (1, (V.fz (List.map (EL (EI .i64)).e y9030))), (0, (Zl (EI .i64) y9032)), (0, (i6 y9498)), (0, (i6 y9220)), (0, (Zl (EI .i64) y9409)), (0, (i6 y9499)), (73, (V.bool true))] 75) ?_
          refine Run.condT (by kernel_rfl) ?_
          refine Rn.g ?_
          refine Ro.t 1 ?_
          refine Ro.d (mkE [(2, (V.bool false))] 155) ?_
          refine Run.ret ?_
          have h := Option.some.inj h; subst h
          show RR4 L _ _ _
          exact ⟨(V.bool false), (by kernel_rfl), (by kernel_rfl), hp⟩
  · rw [ite_f h9589] at h; refine Rn.f h9589 ?_
    refine Run.exit ?_
    have h := Option.some.inj h; subst h
    show J4_2 x0 y9030 y9032 y9220 y9409 L _ _ _ _
    exact ⟨rfl, (by kernel_rfl), hp⟩

def F4_1_b (x0 : T_Graph) (y9030 : (List (List Int))) (y9032 : (List Int)) (y9219 : Int) (y9220 : Int) : Option (Stp (Int × Int) Bool (Int)) :=
  if (decide (y9220 < ((List.length x0.fBlocks : Nat) : Int))) then
    (idx x0.fBlocks y9220).bind fun y9407 =>
    (F15 y9407).bind fun y9409 =>
    (iter (fun s : (Int × Int) => F4_2_b x0 y9030 y9032 y9220 y9409 s.1 s.2) FUEL (y9219, (0 : Int))).bind fun o => match o with
    | .ret r => some (.ret r)
    | .go (y9587) =>
      some (.next (y9587, (IntKind.i64.wrap (y9220 + (1 : Int)))))
  else
    some (.go (y9219))

theorem w4_1_b {x0 : T_Graph} {y9030 : (List (List Int))} {y9032 : (List Int)} {y9219 : Int} {y9220 : Int} {t : (Stp (Int × Int) Bool (Int))} (h : F4_1_b x0 y9030 y9032 y9219 y9220 = some t) {H : Heap} {L : List Ob} (hp : HP H (L)) :
    Run T i4n50 (mkE [(1, (V.fp (E_Graph.e x0))), (1, (V.fz (List.map (EL (EI .i64)).e y9030))), (0, (Zl (EI .i64) y9032)), (0, (i6 y9219)), (0, (i6 y9220))] 151) H (stp [2, 7, 8, 26, 27, 28, 29, 30, 31, 32, 33, 34, 35, 36, 37, 38, 39, 40, 41, 42, 43, 44, 45, 46, 47, 48, 49, 50, 51, 52, 53, 54, 55, 56, 57, 58, 59, 60, 61, 62, 63, 64, 65, 66, 67, 68, 69, 70, 71, 72, 73, 74, 75, 76, 77, 78, 79, 80, 81, 82, 83, 84] (I4_1 x0 y9030 y9032 L) (RR4 L) (J4_1 x0 y9030 y9032 L) t) := by
  unfold F4_1_b at h
  refine Run.seq ?_
  refine Rn.g ?_
  refine Ro.t 3 ?_
  refine Ro.p (len_fz E_Block x0.fBlocks) ?_
  refine Ro.t 1 ?_
  refine Ro.d (mkE [(1, (V.fp (E_Graph.e x0))), (1, (V.fz (List.map (EL (EI .i64)).e y9030))), (0, (Zl (EI .i64) y9032)), (0, (i6 y9219)), (0, (i6 y9220)), (23, (V.bool (decide (y9220 < (ln x0.fBlocks)))))] 127) ?_
  rcases tf (decide (y9220 < (ln x0.fBlocks))) with h9406 | h9406
  · rw [ite_t h9406] at h; refine Rn.t h9406 ?_
    refine Run.skip ?_
    refine Rn.c (mkE [(1, (V.fp (E_Graph.e x0))), (1, (V.fz (List.map (EL (EI .i64)).e y9030))), (0, (Zl (EI .i64) y9032)), (0, (i6 y9219)), (0, (i6 y9220))] 151) ?_
    refine Run.seq ?_
    refine Run.block ?_
    refine Rn.g ?_
    refine Ro.t 3 ?_
    obtain ⟨y9407, h9408, h⟩ := bind_some h
    refine Ro.p (idx_fz E_Block .i64 h9408) ?_
    refine Ro.t 1 ?_
    obtain ⟨y9409, h9410, h⟩ := bind_some h
    refine RunO.c2 (by kernel_rfl) (by kernel_rfl) (by kernel_rfl) (c15 h9410) ?_
    refine Ro.t 1 ?_
    refine Ro.d (mkE [(1, (V.fp (E_Graph.e x0))), (1, (V.fz (List.map (EL (EI .i64)).e y9030))), (0, (Zl (EI .i64) y9032)), (0, (i6 y9219)), (0, (i6 y9220)), (0, (Zl (EI .i64) y9409))] 150) ?_
    refine Rn.g ?_
    refine Ro.t 1 ?_
    refine Ro.d (mkE [(1, (V.fp (E_Graph.e x0))), (1, (V.fz (List.map (EL (EI .i64)).e y9030))), (0, (Zl (EI .i64) y9032)), (0, (i6 y9219)), (0, (i6 y9220)), (0, (Zl (EI .i64) y9409)), (0, (i6 (0 : Int)))] 149) ?_
    refine Run.block ?_
    obtain ⟨o, h9675, h⟩ := bind_some h
    refine (Run.iter (I := I4_2 x0 y9030 y9032 y9220 y9409 L) (RR := RR4 L) (J := J4_2 x0 y9030 y9032 y9220 y9409 L) (fun s e h' t hI hf => ?_) FUEL h9675 (by exact ⟨(by kernel_rfl), hp⟩)).mono ?_
    · obtain ⟨rfl, hp⟩ := hI; exact w4_2_b hf hp
    · rintro X e' H hq
      cases o with
      | ret r => cases X <;> first | exact hq.elim | (cases h; exact hq)
      | go y9587 => 
        cases X with | nrm => exact hq.elim | ret => exact hq.elim | ext i => ?_
        obtain ⟨rfl, he, hp⟩ := hq
        dsimp only at h
        refine Run.clrE (ts := [2, 7, 8, 33, 34, 35, 36, 37, 38, 39, 40, 41, 42, 43, 44, 45, 46, 47, 48, 49, 50, 51, 52, 53, 54, 55, 56, 57, 58, 59, 60, 61, 62, 63, 64, 65, 66, 67, 68, 69, 70, 71, 72, 73, 74, 75, 76, 77, 78, 79, 80, 81, 82, 83, 84]) (b := (.rgn i4r48)) (Q := (stp [2, 7, 8, 26, 27, 28, 29, 30, 31, 32, 33, 34, 35, 36, 37, 38, 39, 40, 41, 42, 43, 44, 45, 46, 47, 48, 49, 50, 51, 52, 53, 54, 55, 56, 57, 58, 59, 60, 61, 62, 63, 64, 65, 66, 67, 68, 69, 70, 71, 72, 73, 74, 75, 76, 77, 78, 79, 80, 81, 82, 83, 84] (I4_1 x0 y9030 y9032 L) (RR4 L) (J4_1 x0 y9030 y9032 L) t)) he ?_
        refine Run.rgn ?_
        refine Ro.t 3 ?_
        refine RunO.nil ?_
        have h := Option.some.inj h; subst h
        show I4_1 x0 y9030 y9032 L _ _ _
        exact ⟨(by kernel_rfl), hp⟩
  · rw [ite_f h9406] at h; refine Rn.f h9406 ?_
    refine Run.exit ?_
    have h := Option.some.inj h; subst h
    show J4_1 x0 y9030 y9032 L _ _ _ _
    exact ⟨rfl, (by kernel_rfl), hp⟩

abbrev I4_3 (x0 : T_Graph) (y9030 : (List (List Int))) (y9032 : (List Int)) (L : List Ob) : (Int × Int) → List V → Heap → Prop := fun s e h => e = (mkE [(1, (V.fp (E_Graph.e x0))), (1, (V.fz (List.map (EL (EI .i64)).e y9030))), (0, (Zl (EI .i64) y9032)), (0, (i6 s.1)), (3, (i6 s.2))] 148) ∧ HP h (L)

abbrev J4_3 (x0 : T_Graph) (y9030 : (List (List Int))) (y9032 : (List Int)) (L : List Ob) : (Int) → Nat → List V → Heap → Prop := fun a i e h => i = 4 ∧ clrEnv [2, 3, 9, 10, 11, 85, 86, 87, 88, 89, 90, 91, 92, 93, 94, 95, 96, 97, 98, 99, 100, 101, 102, 103, 104, 105, 106, 107, 108, 109, 110, 111, 112, 113, 114, 115, 116, 117, 118, 119, 120, 121, 122, 123, 124, 125, 126, 127, 128, 129, 130, 131, 132, 133, 134, 135, 136, 137, 138, 139, 140, 141, 142, 143, 144, 145] e = (mkE [(1, (V.fp (E_Graph.e x0))), (2, (Zl (EI .i64) y9032)), (0, (i6 a))] 152) ∧ HP h (L)

abbrev I4_4 (x0 : T_Graph) (y9030 : (List (List Int))) (y9032 : (List Int)) (y9755 : Int) (y9756 : Int) (y10089 : (List Int)) (L : List Ob) : (Bool × Int) → List V → Heap → Prop := fun s e h => e = (mkE [(1, (V.fp (E_Graph.e x0))), (1, (V.fz (List.map (EL (EI .i64)).e y9030))), (0, (Zl (EI .i64) y9032)), (0, (i6 (IntKind.i64.wrap (y9755 - (ln y10089))))), (3, (i6 y9756)), (0, (V.bool s.1)), (0, (i6 s.2))] 146) ∧ HP h (L)

abbrev J4_4 (x0 : T_Graph) (y9030 : (List (List Int))) (y9032 : (List Int)) (y9755 : Int) (y9756 : Int) (y10089 : (List Int)) (L : List Ob) : (Bool) → Nat → List V → Heap → Prop := fun a i e h => i = 6 ∧ clrEnv [2, 11, 100, 101, 102, 103, 104, 105, 106, 107, 108, 109, 110, 111, 112, 113, 114, 115, 116, 117, 118, 119, 120, 121, 122, 123, 124, 125, 126, 127, 128, 129, 130, 131, 132, 133, 134, 135, 136, 137, 138, 139, 140] e = (mkE [(1, (V.fp (E_Graph.e x0))), (1, (V.fz (List.map (EL (EI .i64)).e y9030))), (0, (Zl (EI .i64) y9032)), (0, (i6 (IntKind.i64.wrap (y9755 - (ln y10089))))), (3, (i6 y9756)), (0, (V.bool a))] 147) ∧ HP h (L)

def F4_j3 (x0 : T_Graph) (y9030 : (List (List Int))) (y9032 : (List Int)) (y9755 : Int) (y9756 : Int) (y10089 : (List Int)) (y10132 : Int) (y10228 : Bool) : Option (Stp (Bool × Int) Bool (Bool)) :=
  some (.next (y10228, (IntKind.i64.wrap (y10132 + (1 : Int)))))

theorem w4_j3 {x0 : T_Graph} {y9030 : (List (List Int))} {y9032 : (List Int)} {y9755 : Int} {y9756 : Int} {y10089 : (List Int)} {y10132 : Int} {y10228 : Bool} {t : (Stp (Bool × Int) Bool (Bool))} (h : F4_j3 x0 y9030 y9032 y9755 y9756 y10089 y10132 y10228 = some t) {H : Heap} {L : List Ob} (hp : HP H (L)) :
    Run T (.rgn i4r72) (mkE [(1, (V.fp (E_Graph.e x0))), (1, (V.fz (List.map (EL (EI .i64)).e y9030))), (0, (Zl (EI .i64) y9032)), (0, (i6 (IntKind.i64.wrap (y9755 - (ln y10089))))), (3, (i6 y9756)), (0, (V.bool y10228)), (0, (i6 y10132))] 146) H (stp [2, 100, 101, 102, 103, 104, 105, 106, 107, 108, 109, 110, 111, 112, 113, 114, 115, 116, 117, 118, 119, 120, 121, 122, 123, 124, 125, 126, 127, 128, 129, 130, 131, 132, 133, 134, 135, 136, 137, 138, 139, 140] (I4_4 x0 y9030 y9032 y9755 y9756 y10089 L) (RR4 L) (J4_4 x0 y9030 y9032 y9755 y9756 y10089 L) t) := by
  unfold F4_j3 at h
  refine Run.rgn ?_
  refine Ro.t 3 ?_
  refine RunO.nil ?_
  have h := Option.some.inj h; subst h
  show I4_4 x0 y9030 y9032 y9755 y9756 y10089 L _ _ _
  exact ⟨(by kernel_rfl), hp⟩

def F4_j4 (x0 : T_Graph) (y9030 : (List (List Int))) (y9032 : (List Int)) (y9755 : Int) (y9756 : Int) (y10089 : (List Int)) (y10132 : Int) (y10237 : Bool) : Option (Stp (Bool × Int) Bool (Bool)) :=
  if (decide (y10132 > (0 : Int))) then
    (idx y9030 y9756).bind fun y10239 =>
    (idx y10239 y10132).bind fun y10241 =>
    (idx y9030 y9756).bind fun y10243 =>
    (idx y10243 (IntKind.i64.wrap (y10132 - (1 : Int)))).bind fun y10245 =>
    if (decide (y10241 ≤ y10245)) then
      some (.ret false)
    else
      F4_j3 x0 y9030 y9032 y9755 y9756 y10089 y10132 (y10237)
  else
    F4_j3 x0 y9030 y9032 y9755 y9756 y10089 y10132 (y10237)

theorem w4_j4 {x0 : T_Graph} {y9030 : (List (List Int))} {y9032 : (List Int)} {y9755 : Int} {y9756 : Int} {y10089 : (List Int)} {y10132 : Int} {y10237 : Bool} {t : (Stp (Bool × Int) Bool (Bool))} (h : F4_j4 x0 y9030 y9032 y9755 y9756 y10089 y10132 y10237 = some t) {H : Heap} {L : List Ob} (hp : HP H (L)) :
    Run T i4n69 (mkE [(1, (V.fp (E_Graph.e x0))), (1, (V.fz (List.map (EL (EI .i64)).e y9030))), (0, (Zl (EI .i64) y9032)), (0, (i6 (IntKind.i64.wrap (y9755 - (ln y10089))))), (3, (i6 y9756)), (0, (V.bool y10237)), (0, (i6 y10132))] 146) H (blk 7 (thn T (.clr [2, 109, 110, 111, 112, 113, 114, 115, 116, 117, 118, 119, 120, 121, 122, 123, 124, 125, 126, 127, 128, 129, 130, 131, 132, 133, 134, 135, 136, 137, 138, 139, 140] (.rgn i4r72)) (stp [2, 100, 101, 102, 103, 104, 105, 106, 107, 108, 109, 110, 111, 112, 113, 114, 115, 116, 117, 118, 119, 120, 121, 122, 123, 124, 125, 126, 127, 128, 129, 130, 131, 132, 133, 134, 135, 136, 137, 138, 139, 140] (I4_4 x0 y9030 y9032 y9755 y9756 y10089 L) (RR4 L) (J4_4 x0 y9030 y9032 y9755 y9756 y10089 L) t))) := by
  unfold F4_j4 at h
  refine Rn.g ?_
  refine Ro.t 1 ?_
  rcases tf (decide (y10132 > (0 : Int))) with h10238 | h10238
  · rw [ite_t h10238] at h; refine Ro.p (bool_of h10238) ?_
    refine Ro.t 3 ?_
    obtain ⟨y10239, h10240, h⟩ := bind_some h
    refine Ro.p (idx_fz (EL (EI .i64)) .i64 h10240) ?_
    refine Ro.t 2 ?_
    obtain ⟨y10241, h10242, h⟩ := bind_some h
    refine Ro.p (idx_fz (EI .i64) .i64 h10242) ?_
    refine Ro.t 3 ?_
    obtain ⟨y10243, h10244, h⟩ := bind_some h
    refine Ro.p (idx_fz (EL (EI .i64)) .i64 h10244) ?_
    refine Ro.t 3 ?_
    obtain ⟨y10245, h10246, h⟩ := bind_some h
    refine Ro.p (idx_fz (EI .i64) .i64 h10246) ?_
    refine Ro.t 3 ?_
    refine Ro.d (mkE [(1, (V.fp (E_Graph.e x0))), (1, (V.fz (List.map (EL (EI .i64)).e y9030))), (0, (Zl (EI .i64) y9032)), (0, (i6 (IntKind.i64.wrap (y9755 - (ln y10089))))), (3, (i6 y9756)), (0, (V.bool y10237)), (0, (i6 y10132)), (128, (V.bool (decide (y10241 ≤ y10245))))] 17) ?_
    rcases tf (decide (y10241 ≤ y10245)) with h10247 | h10247
    · rw [ite_t h10247] at h; refine Rn.t h10247 ?_
      refine Rn.g ?_
      refine Ro.t 1 ?_
      refine Ro.d (mkE [(2, (V.bool false))] 155) ?_
      refine Run.ret ?_
      have h := Option.some.inj h; subst h
      show RR4 L _ _ _
      exact ⟨(V.bool false), (by kernel_rfl), (by kernel_rfl), hp⟩
    · rw [ite_f h10247] at h; refine Rn.f h10247 ?_
      refine Run.skip ?_
      refine Run.clrE (ts := [2, 109, 110, 111, 112, 113, 114, 115, 116, 117, 118, 119, 120, 121, 122, 123, 124, 125, 126, 127, 128, 129, 130, 131, 132, 133, 134, 135, 136, 137, 138, 139, 140]) (b := (.rgn i4r72)) (Q := (stp [2, 100, 101, 102, 103, 104, 105, 106, 107, 108, 109, 110, 111, 112, 113, 114, 115, 116, 117, 118, 119, 120, 121, 122, 123, 124, 125, 126, 127, 128, 129, 130, 131, 132, 133, 134, 135, 136, 137, 138, 139, 140] (I4_4 x0 y9030 y9032 y9755 y9756 y10089 L) (RR4 L) (J4_4 x0 y9030 y9032 y9755 y9756 y10089 L) t)) (e' := (mkE [(1, (V.fp (E_Graph.e x0))), (1, (V.fz (List.map (EL (EI .i64)).e y9030))), (0, (Zl (EI .i64) y9032)), (0, (i6 (IntKind.i64.wrap (y9755 - (ln y10089))))), (3, (i6 y9756)), (0, (V.bool y10237)), (0, (i6 y10132))] 146)) (by kernel_rfl) ?_
      exact w4_j3 h hp
  · rw [ite_f h10238] at h; refine Ro.p (bool_of h10238) ?_
    refine Ro.t 18 ?_
    refine Ro.d (mkE [(1, (V.fp (E_Graph.e x0))), (1, (V.fz (List.map (EL (EI .i64)).e y9030))), (0, (Zl (EI .i64) y9032)), (0, (i6 (IntKind.i64.wrap (y9755 - (ln y10089))))), (3, (i6 y9756)), (0, (V.bool y10237)), (0, (i6 y10132)), (128, (V.bool false))] 17) ?_
    refine Run.condF (by kernel_rfl) ?_
    refine Run.skip ?_
    refine Run.clrE (ts := [2, 109, 110, 111, 112, 113, 114, 115, 116, 117, 118, 119, 120, 121, 122, 123, 124, 125, 126, 127, 128, 129, 130, 131, 132, 133, 134, 135, 136, 137, 138, 139, 140]) (b := (.rgn i4r72)) (Q := (stp [2, 100, 101, 102, 103, 104, 105, 106, 107, 108, 109, 110, 111, 112, 113, 114, 115, 116, 117, 118, 119, 120, 121, 122, 123, 124, 125, 126, 127, 128, 129, 130, 131, 132, 133, 134, 135, 136, 137, 138, 139, 140] (I4_4 x0 y9030 y9032 y9755 y9756 y10089 L) (RR4 L) (J4_4 x0 y9030 y9032 y9755 y9756 y10089 L) t)) (e' := (mkE [(1, (V.fp (E_Graph.e x0))), (1, (V.fz (List.map (EL (EI .i64)).e y9030))), (0, (Zl (EI .i64) y9032)), (0, (i6 (IntKind.i64.wrap (y9755 - (ln y10089))))), (3, (i6 y9756)), (0, (V.bool y10237)), (0, (i6 y10132))] 146)) (by kernel_rfl) ?_
    exact w4_j3 h hp

def F4_4_b (x0 : T_Graph) (y9030 : (List (List Int))) (y9032 : (List Int)) (y9755 : Int) (y9756 : Int) (y10089 : (List Int)) (y10131 : Bool) (y10132 : Int) : Option (Stp (Bool × Int) Bool (Bool)) :=
  (idx y9030 y9756).bind fun y10198 =>
  if (decide (y10132 < ((List.length y10198 : Nat) : Int))) then
    if y10131 then
      F4_j4 x0 y9030 y9032 y9755 y9756 y10089 y10132 (true)
    else
      (idx y9030 y9756).bind fun y10249 =>
      (idx y10249 y10132).bind fun y10251 =>
      (F16 y9032 y10251).bind fun y10253 =>
      if y10253 then
        F4_j4 x0 y9030 y9032 y9755 y9756 y10089 y10132 (true)
      else
        F4_j4 x0 y9030 y9032 y9755 y9756 y10089 y10132 (false)
  else
    some (.go (y10131))

theorem w4_4_b {x0 : T_Graph} {y9030 : (List (List Int))} {y9032 : (List Int)} {y9755 : Int} {y9756 : Int} {y10089 : (List Int)} {y10131 : Bool} {y10132 : Int} {t : (Stp (Bool × Int) Bool (Bool))} (h : F4_4_b x0 y9030 y9032 y9755 y9756 y10089 y10131 y10132 = some t) {H : Heap} {L : List Ob} (hp : HP H (L)) :
    Run T i4n74 (mkE [(1, (V.fp (E_Graph.e x0))), (1, (V.fz (List.map (EL (EI .i64)).e y9030))), (0, (Zl (EI .i64) y9032)), (0, (i6 (IntKind.i64.wrap (y9755 - (ln y10089))))), (3, (i6 y9756)), (0, (V.bool y10131)), (0, (i6 y10132))] 146) H (stp [2, 100, 101, 102, 103, 104, 105, 106, 107, 108, 109, 110, 111, 112, 113, 114, 115, 116, 117, 118, 119, 120, 121, 122, 123, 124, 125, 126, 127, 128, 129, 130, 131, 132, 133, 134, 135, 136, 137, 138, 139, 140] (I4_4 x0 y9030 y9032 y9755 y9756 y10089 L) (RR4 L) (J4_4 x0 y9030 y9032 y9755 y9756 y10089 L) t) := by
  unfold F4_4_b at h
  refine Run.seq ?_
  refine Rn.g ?_
  refine Ro.t 3 ?_
  obtain ⟨y10198, h10199, h⟩ := bind_some h
  refine Ro.p (idx_fz (EL (EI .i64)) .i64 h10199) ?_
  refine Ro.t 1 ?_
  refine Ro.p (len_fz (EI .i64) y10198) ?_
  refine Ro.t 1 ?_
  refine Ro.d (mkE [(1, (V.fp (E_Graph.e x0))), (1, (V.fz (List.map (EL (EI .i64)).e y9030))), (0, (Zl (EI .i64) y9032)), (0, (i6 (IntKind.i64.wrap (y9755 - (ln y10089))))), (3, (i6 y9756)), (0, (V.bool y10131)), (0, (i6 y10132)), (94, (V.bool (decide (y10132 < (ln y10198)))))] 51) ?_
  rcases tf (decide (y10132 < (ln y10198))) with h10200 | h10200
  · rw [ite_t h10200] at h; refine Rn.t h10200 ?_
    refine Run.skip ?_
    refine Rn.c (mkE [(1, (V.fp (E_Graph.e x0))), (1, (V.fz (List.map (EL (EI .i64)).e y9030))), (0, (Zl (EI .i64) y9032)), (0, (i6 (IntKind.i64.wrap (y9755 - (ln y10089))))), (3, (i6 y9756)), (0, (V.bool y10131)), (0, (i6 y10132))] 146) ?_
    refine Run.seq ?_
    refine Run.block ?_
    refine Rn.g ?_
    rcases tf y10131 with h10248 | h10248
    · rw [ite_t h10248] at h; refine Ro.p (bool_of h10248) ?_
      refine Ro.t 12 ?_
      refine Ro.d (mkE [(1, (V.fp (E_Graph.e x0))), (1, (V.fz (List.map (EL (EI .i64)).e y9030))), (0, (Zl (EI .i64) y9032)), (0, (i6 (IntKind.i64.wrap (y9755 - (ln y10089))))), (3, (i6 y9756)), (0, (V.bool true)), (0, (i6 y10132))] 146) ?_
      exact w4_j4 h hp
    · rw [ite_f h10248] at h; refine Ro.p (bool_of h10248) ?_
      refine Ro.t 4 ?_
      obtain ⟨y10249, h10250, h⟩ := bind_some h
      refine Ro.p (idx_fz (EL (EI .i64)) .i64 h10250) ?_
      refine Ro.t 2 ?_
      obtain ⟨y10251, h10252, h⟩ := bind_some h
      refine Ro.p (idx_fz (EI .i64) .i64 h10252) ?_
      refine Ro.t 1 ?_
      obtain ⟨y10253, h10254, h⟩ := bind_some h
      rcases tf y10253 with h10255 | h10255
      · subst h10255; rw [if_pos rfl] at h
        refine RunO.c1 (by kernel_rfl) (by kernel_rfl) (c16 h10254 _) ?_
        refine Ro.t 2 ?_
        refine Ro.d (mkE [(1, (V.fp (E_Graph.e x0))), (1, (V.fz (List.map (EL (EI .i64)).e y9030))), (0, (Zl (EI .i64) y9032)), (0, (i6 (IntKind.i64.wrap (y9755 - (ln y10089))))), (3, (i6 y9756)), (0, (V.bool true)), (0, (i6 y10132))] 146) ?_
        exact w4_j4 h hp
      · subst h10255; rw [if_neg (by decide)] at h
        refine RunO.c1 (by kernel_rfl) (by kernel_rfl) (c16 h10254 _) ?_
        refine Ro.t 2 ?_
        refine Ro.d (mkE [(1, (V.fp (E_Graph.e x0))), (1, (V.fz (List.map (EL (EI .i64)).e y9030))), (0, (Zl (EI .i64) y9032)), (0, (i6 (IntKind.i64.wrap (y9755 - (ln y10089))))), (3, (i6 y9756)), (0, (V.bool false)), (0, (i6 y10132))] 146) ?_
        exact w4_j4 h hp
  · rw [ite_f h10200] at h; refine Rn.f h10200 ?_
    refine Run.exit ?_
    have h := Option.some.inj h; subst h
    show J4_4 x0 y9030 y9032 y9755 y9756 y10089 L _ _ _ _
    exact ⟨rfl, (by kernel_rfl), hp⟩

def F4_3_b (x0 : T_Graph) (y9030 : (List (List Int))) (y9032 : (List Int)) (y9755 : Int) (y9756 : Int) : Option (Stp (Int × Int) Bool (Int)) :=
  if (decide (y9756 < ((List.length y9030 : Nat) : Int))) then
    (idx y9030 y9756).bind fun y10089 =>
    (iter (fun s : (Bool × Int) => F4_4_b x0 y9030 y9032 y9755 y9756 y10089 s.1 s.2) FUEL ((y9756 == (0 : Int)), (0 : Int))).bind fun o => match o with
    | .ret r => some (.ret r)
    | .go (y10194) =>
      (F16 y9032 y9756).bind fun y10257 =>
      if (!(y10257 == y10194)) then
        some (.ret false)
      else
        some (.next ((IntKind.i64.wrap (y9755 - ((List.length y10089 : Nat) : Int))), (IntKind.i64.wrap (y9756 + (1 : Int)))))
  else
    some (.go (y9755))

theorem w4_3_b {x0 : T_Graph} {y9030 : (List (List Int))} {y9032 : (List Int)} {y9755 : Int} {y9756 : Int} {t : (Stp (Int × Int) Bool (Int))} (h : F4_3_b x0 y9030 y9032 y9755 y9756 = some t) {H : Heap} {L : List Ob} (hp : HP H (L)) :
    Run T i4n89 (mkE [(1, (V.fp (E_Graph.e x0))), (1, (V.fz (List.map (EL (EI .i64)).e y9030))), (0, (Zl (EI .i64) y9032)), (0, (i6 y9755)), (3, (i6 y9756))] 148) H (stp [2, 10, 11, 85, 86, 87, 88, 89, 90, 91, 92, 93, 94, 95, 96, 97, 98, 99, 100, 101, 102, 103, 104, 105, 106, 107, 108, 109, 110, 111, 112, 113, 114, 115, 116, 117, 118, 119, 120, 121, 122, 123, 124, 125, 126, 127, 128, 129, 130, 131, 132, 133, 134, 135, 136, 137, 138, 139, 140, 141, 142, 143, 144, 145] (I4_3 x0 y9030 y9032 L) (RR4 L) (J4_3 x0 y9030 y9032 L) t) := by
  unfold F4_3_b at h
  refine Run.seq ?_
  refine Rn.g ?_
  refine Ro.t 2 ?_
  refine Ro.p (len_fz (EL (EI .i64)) y9030) ?_
  refine Ro.t 1 ?_
  refine Ro.d (mkE [(1, (V.fp (E_Graph.e x0))), (1, (V.fz (List.map (EL (EI .i64)).e y9030))), (0, (Zl (EI .i64) y9032)), (0, (i6 y9755)), (3, (i6 y9756)), (78, (V.bool (decide (y9756 < (ln y9030)))))] 69) ?_
  rcases tf (decide (y9756 < (ln y9030))) with h9979 | h9979
  · rw [ite_t h9979] at h; refine Rn.t h9979 ?_
    refine Run.skip ?_
    refine Rn.c (mkE [(1, (V.fp (E_Graph.e x0))), (1, (V.fz (List.map (EL (EI .i64)).e y9030))), (0, (Zl (EI .i64) y9032)), (0, (i6 y9755)), (3, (i6 y9756))] 148) ?_
    refine Run.seq ?_
    refine Run.block ?_
    refine Rn.g ?_
    refine Ro.t 3 ?_
    obtain ⟨y10089, h10090, h⟩ := bind_some h
    refine Ro.p (idx_fz (EL (EI .i64)) .i64 h10090) ?_
    refine Ro.t 1 ?_
    refine Ro.p (len_fz (EI .i64) y10089) ?_
    refine Ro.t 2 ?_
    refine Ro.d (mkE [(1, (V.fp (E_Graph.e x0))), (1, (V.fz (List.map (EL (EI .i64)).e y9030))), (0, (Zl (EI .i64) y9032)), (0, (i6 (IntKind.i64.wrap (y9755 - (ln y10089))))), (3, (i6 y9756))] 148) ?_
    refine Rn.g ?_
    refine Ro.t 3 ?_
    refine Ro.d (mkE [(1, (V.fp (E_Graph.e x0))), (1, (V.fz (List.map (EL (EI .i64)).e y9030))), (0, (Zl (EI .i64) y9032)), (0, (i6 (IntKind.i64.wrap (y9755 - (ln y10089))))), (3, (i6 y9756)), (0, (V.bool (y9756 == (0 : Int))))] 147) ?_
    refine Run.seq ?_
    refine Rn.g ?_
    refine Ro.t 1 ?_
    refine Ro.d (mkE [(1, (V.fp (E_Graph.e x0))), (1, (V.fz (List.map (EL (EI .i64)).e y9030))), (0, (Zl (EI .i64) y9032)), (0, (i6 (IntKind.i64.wrap (y9755 - (ln y10089))))), (3, (i6 y9756)), (0, (V.bool (y9756 == (0 : Int)))), (0, (i6 (0 : Int)))] 146) ?_
    refine Run.block ?_
    obtain ⟨o, h10256, h⟩ := bind_some h
    refine (Run.iter (I := I4_4 x0 y9030 y9032 y9755 y9756 y10089 L) (RR := RR4 L) (J := J4_4 x0 y9030 y9032 y9755 y9756 y10089 L) (fun s e h' t hI hf => ?_) FUEL h10256 (by exact ⟨(by kernel_rfl), hp⟩)).mono ?_
    · obtain ⟨rfl, hp⟩ := hI; exact w4_4_b hf hp
    · rintro X e' H hq
      cases o with
      | ret r => cases X <;> first | exact hq.elim | (cases h; exact hq)
      | go y10194 => 
        cases X with | nrm => exact hq.elim | ret => exact hq.elim | ext i => ?_
        obtain ⟨rfl, he, hp⟩ := hq
        dsimp only at h
        refine Run.clrE (ts := [2, 11, 100, 101, 102, 103, 104, 105, 106, 107, 108, 109, 110, 111, 112, 113, 114, 115, 116, 117, 118, 119, 120, 121, 122, 123, 124, 125, 126, 127, 128, 129, 130, 131, 132, 133, 134, 135, 136, 137, 138, 139, 140]) (b := i4n82) (Q := (blk 5 (thn T (.clr [2, 10, 11, 91, 92, 93, 94, 95, 96, 97, 98, 99, 100, 101, 102, 103, 104, 105, 106, 107, 108, 109, 110, 111, 112, 113, 114, 115, 116, 117, 118, 119, 120, 121, 122, 123, 124, 125, 126, 127, 128, 129, 130, 131, 132, 133, 134, 135, 136, 137, 138, 139, 140, 141, 142, 143, 144, 145] (.rgn i4r87)) (stp [2, 10, 11, 85, 86, 87, 88, 89, 90, 91, 92, 93, 94, 95, 96, 97, 98, 99, 100, 101, 102, 103, 104, 105, 106, 107, 108, 109, 110, 111, 112, 113, 114, 115, 116, 117, 118, 119, 120, 121, 122, 123, 124, 125, 126, 127, 128, 129, 130, 131, 132, 133, 134, 135, 136, 137, 138, 139, 140, 141, 142, 143, 144, 145] (I4_3 x0 y9030 y9032 L) (RR4 L) (J4_3 x0 y9030 y9032 L) t)))) he ?_
        refine Rn.g ?_
        refine Ro.t 2 ?_
        obtain ⟨y10257, h10258, h⟩ := bind_some h
        refine RunO.c1 (by kernel_rfl) (by kernel_rfl) (c16 h10258 _) ?_
        refine Ro.t 2 ?_
        refine Ro.d (mkE [(1, (V.fp (E_Graph.e x0))), (1, (V.fz (List.map (EL (EI .i64)).e y9030))), (0, (Zl (EI .i64) y9032)), (0, (i6 (IntKind.i64.wrap (y9755 - (ln y10089))))), (3, (i6 y9756)), (135, (V.bool (!(y10257 == y10194))))] 12) ?_
        rcases tf (!(y10257 == y10194)) with h10259 | h10259
        · rw [ite_t h10259] at h; refine Rn.t h10259 ?_
          refine Rn.g ?_
          refine Ro.t 1 ?_
          refine Ro.d (mkE [(2, (V.bool false))] 155) ?_
          refine Run.ret ?_
          have h := Option.some.inj h; subst h
          show RR4 L _ _ _
          exact ⟨(V.bool false), (by kernel_rfl), (by kernel_rfl), hp⟩
        · rw [ite_f h10259] at h; refine Rn.f h10259 ?_
          refine Run.skip ?_
          refine Run.clrE (ts := [2, 10, 11, 91, 92, 93, 94, 95, 96, 97, 98, 99, 100, 101, 102, 103, 104, 105, 106, 107, 108, 109, 110, 111, 112, 113, 114, 115, 116, 117, 118, 119, 120, 121, 122, 123, 124, 125, 126, 127, 128, 129, 130, 131, 132, 133, 134, 135, 136, 137, 138, 139, 140, 141, 142, 143, 144, 145]) (b := (.rgn i4r87)) (Q := (stp [2, 10, 11, 85, 86, 87, 88, 89, 90, 91, 92, 93, 94, 95, 96, 97, 98, 99, 100, 101, 102, 103, 104, 105, 106, 107, 108, 109, 110, 111, 112, 113, 114, 115, 116, 117, 118, 119, 120, 121, 122, 123, 124, 125, 126, 127, 128, 129, 130, 131, 132, 133, 134, 135, 136, 137, 138, 139, 140, 141, 142, 143, 144, 145] (I4_3 x0 y9030 y9032 L) (RR4 L) (J4_3 x0 y9030 y9032 L) t)) (e' := (mkE [(1, (V.fp (E_Graph.e x0))), (1, (V.fz (List.map (EL (EI .i64)).e y9030))), (0, (Zl (EI .i64) y9032)), (0, (i6 (IntKind.i64.wrap (y9755 - (ln y10089))))), (3, (i6 y9756))] 148)) (by kernel_rfl) ?_
          refine Run.rgn ?_
          refine Ro.t 3 ?_
          refine RunO.nil ?_
          have h := Option.some.inj h; subst h
          show I4_3 x0 y9030 y9032 L _ _ _
          exact ⟨(by kernel_rfl), hp⟩
  · rw [ite_f h9979] at h; refine Rn.f h9979 ?_
    refine Run.exit ?_
    have h := Option.some.inj h; subst h
    show J4_3 x0 y9030 y9032 L _ _ _ _
    exact ⟨rfl, (by kernel_rfl), hp⟩

def F4 (x0 : T_Graph) : Option Bool :=
  (F9).bind fun y9021 =>
  if (!y9021) then
    some false
  else
    (F12 x0).bind fun y9027 =>
    if y9027 then
      some true
    else
      (F13 x0).bind fun y9030 =>
      (F14 x0).bind fun y9032 =>
      if (((List.length y9030 : Nat) : Int) != ((List.length x0.fBlocks : Nat) : Int)) then
        some false
      else
        (iter (fun s : (Int × Int) => F4_1_b x0 y9030 y9032 s.1 s.2) FUEL ((0 : Int), (0 : Int))).bind fun o => match o with
        | .ret r => some r
        | .go (y9404) =>
          (iter (fun s : (Int × Int) => F4_3_b x0 y9030 y9032 s.1 s.2) FUEL (y9404, (0 : Int))).bind fun o => match o with
          | .ret r => some r
          | .go (y9977) =>
            if (y9977 == (0 : Int)) then
              some ((((List.length y9032 : Nat) : Int) == (0 : Int)) == (((List.length x0.fBlocks : Nat) : Int) == (0 : Int)))
            else
              some false

theorem w4 {x0 : T_Graph} {r : Bool} (h : F4 x0 = some r) {H : Heap} {L : List Ob} (hp : HP H (L)) : Fn T 4 [(E_Graph.e x0)] H (Q4 L r) := by
  refine Fn.enterE t4 (e0 := (mkE [(0, (E_Graph.e x0))] 157)) (by kernel_rfl) ?_
  show Run T (.clr [] i4n103) _ _ (finE none [2] (Q4 L r))
  refine Rn.k (mkE [(0, (E_Graph.e x0))] 157) ?_
  unfold F4 at h
  refine Rn.g ?_
  refine Ro.t 2 ?_
  refine Ro.d (mkE [(1, (V.fp (E_Graph.e x0)))] 156) ?_
  refine Run.seq ?_
  refine Rn.g ?_
  obtain ⟨y9021, h9022, h⟩ := bind_some h
  refine RunO.c1 (by kernel_rfl) (by kernel_rfl) (c9 h9022 _) ?_
  refine Ro.t 1 ?_
  refine Ro.d (mkE [(1, (V.fp (E_Graph.e x0))), (11, (V.bool (!y9021)))] 144) ?_
  rcases tf (!y9021) with h9023 | h9023
  · rw [ite_t h9023] at h; refine Rn.t h9023 ?_
    refine Rn.g ?_
    refine Ro.t 1 ?_
    refine Ro.d (mkE [(2, (V.bool false))] 155) ?_
    refine Run.ret ?_
    have h := Option.some.inj h; subst h
    exact ⟨(V.bool false), (by kernel_rfl), (by kernel_rfl), hp⟩
  · rw [ite_f h9023] at h; refine Rn.f h9023 ?_
    refine Run.skip ?_
    refine Rn.c (mkE [(1, (V.fp (E_Graph.e x0)))] 156) ?_
    refine Run.seq ?_
    refine Rn.g ?_
    refine Ro.t 1 ?_
    obtain ⟨y9027, h9028, h⟩ := bind_some h
    refine RunO.c1 (by kernel_rfl) (by kernel_rfl) (c12 h9028 _) ?_
    refine Ro.d (mkE [(1, (V.fp (E_Graph.e x0))), (13, (V.bool y9027))] 142) ?_
    rcases tf y9027 with h9029 | h9029
    · rw [ite_t h9029] at h; refine Rn.t h9029 ?_
      refine Rn.g ?_
      refine Ro.t 1 ?_
      refine Ro.d (mkE [(2, (V.bool true))] 155) ?_
      refine Run.ret ?_
      have h := Option.some.inj h; subst h
      exact ⟨(V.bool true), (by kernel_rfl), (by kernel_rfl), hp⟩
    · rw [ite_f h9029] at h; refine Rn.f h9029 ?_
      refine Run.skip ?_
      refine Rn.c (mkE [(1, (V.fp (E_Graph.e x0)))] 156) ?_
      refine Rn.g ?_
      refine Ro.t 1 ?_
      obtain ⟨y9030, h9031, h⟩ := bind_some h
      refine RunO.c2 (by kernel_rfl) (by kernel_rfl) (by kernel_rfl) (c13 h9031) ?_
      refine Ro.t 1 ?_
      refine Ro.d (mkE [(1, (V.fp (E_Graph.e x0))), (1, (V.fz (List.map (EL (EI .i64)).e y9030)))] 154) ?_
      refine Rn.g ?_
      refine Ro.t 1 ?_
      obtain ⟨y9032, h9033, h⟩ := bind_some h
      refine RunO.c2 (by kernel_rfl) (by kernel_rfl) (by kernel_rfl) (c14 h9033) ?_
      refine Ro.t 1 ?_
      refine Ro.d (mkE [(1, (V.fp (E_Graph.e x0))), (1, (V.fz (List.map (EL (EI .i64)).e y9030))), (0, (Zl (EI .i64) y9032))] 153) ?_
      refine Run.seq ?_
      refine Rn.g ?_
      refine Ro.t 1 ?_
      refine Ro.p (len_fz (EL (EI .i64)) y9030) ?_
      refine Ro.t 2 ?_
      refine Ro.p (len_fz E_Block x0.fBlocks) ?_
      refine Ro.t 1 ?_
      refine Ro.d (mkE [(1, (V.fp (E_Graph.e x0))), (1, (V.fz (List.map (EL (EI .i64)).e y9030))), (0, (Zl (EI .i64) y9032)), (20, (V.bool ((ln y9030) != (ln x0.fBlocks))))] 132) ?_
      rcases tf ((ln y9030) != (ln x0.fBlocks)) with h9035 | h9035
      · rw [ite_t h9035] at h; refine Rn.t h9035 ?_
        refine Rn.g ?_
        refine Ro.t 1 ?_
        refine Ro.d (mkE [(2, (V.bool false))] 155) ?_
        refine Run.ret ?_
        have h := Option.some.inj h; subst h
        exact ⟨(V.bool false), (by kernel_rfl), (by kernel_rfl), hp⟩
      · rw [ite_f h9035] at h; refine Rn.f h9035 ?_
        refine Run.skip ?_
        refine Rn.c (mkE [(1, (V.fp (E_Graph.e x0))), (1, (V.fz (List.map (EL (EI .i64)).e y9030))), (0, (Zl (EI .i64) y9032))] 153) ?_
        refine Rn.g ?_
        refine Ro.t 1 ?_
        refine Ro.d (mkE [(1, (V.fp (E_Graph.e x0))), (1, (V.fz (List.map (EL (EI .i64)).e y9030))), (0, (Zl (EI .i64) y9032)), (0, (i6 (0 : Int)))] 152) ?_
        refine Run.seq ?_
        refine Rn.g ?_
        refine Ro.t 1 ?_
        refine Ro.d (mkE [(1, (V.fp (E_Graph.e x0))), (1, (V.fz (List.map (EL (EI .i64)).e y9030))), (0, (Zl (EI .i64) y9032)), (0, (i6 (0 : Int))), (0, (i6 (0 : Int)))] 151) ?_
        refine Run.block ?_
        obtain ⟨o, h9676, h⟩ := bind_some h
        refine (Run.iter (I := I4_1 x0 y9030 y9032 L) (RR := RR4 L) (J := J4_1 x0 y9030 y9032 L) (fun s e h' t hI hf => ?_) FUEL h9676 (by exact ⟨(by kernel_rfl), hp⟩)).mono ?_
        · obtain ⟨rfl, hp⟩ := hI; exact w4_1_b hf hp
        · rintro X e' H hq
          cases o with
          | ret r => cases X <;> first | exact hq.elim | (cases h; exact hq)
          | go y9404 => 
            cases X with | nrm => exact hq.elim | ret => exact hq.elim | ext i => ?_
            obtain ⟨rfl, he, hp⟩ := hq
            dsimp only at h
            refine Run.clrE (ts := [2, 6, 7, 8, 26, 27, 28, 29, 30, 31, 32, 33, 34, 35, 36, 37, 38, 39, 40, 41, 42, 43, 44, 45, 46, 47, 48, 49, 50, 51, 52, 53, 54, 55, 56, 57, 58, 59, 60, 61, 62, 63, 64, 65, 66, 67, 68, 69, 70, 71, 72, 73, 74, 75, 76, 77, 78, 79, 80, 81, 82, 83, 84]) (b := i4n95) (Q := (finE none [2] (Q4 L r))) he ?_
            refine Run.seq ?_
            refine Rn.g ?_
            refine Ro.t 1 ?_
            refine Ro.d (mkE [(1, (V.fp (E_Graph.e x0))), (1, (V.fz (List.map (EL (EI .i64)).e y9030))), (0, (Zl (EI .i64) y9032)), (0, (i6 y9404)), (3, (i6 (0 : Int)))] 148) ?_
            refine Run.block ?_
            obtain ⟨o, h10260, h⟩ := bind_some h
            refine (Run.iter (I := I4_3 x0 y9030 y9032 L) (RR := RR4 L) (J := J4_3 x0 y9030 y9032 L) (fun s e h' t hI hf => ?_) FUEL h10260 (by exact ⟨(by kernel_rfl), hp⟩)).mono ?_
            · obtain ⟨rfl, hp⟩ := hI; exact w4_3_b hf hp
            · rintro X e' H hq
              cases o with
              | ret r => cases X <;> first | exact hq.elim | (cases h; exact hq)
              | go y9977 => 
                cases X with | nrm => exact hq.elim | ret => exact hq.elim | ext i => ?_
                obtain ⟨rfl, he, hp⟩ := hq
                dsimp only at h
                refine Run.clrE (ts := [2, 3, 9, 10, 11, 85, 86, 87, 88, 89, 90, 91, 92, 93, 94, 95, 96, 97, 98, 99, 100, 101, 102, 103, 104, 105, 106, 107, 108, 109, 110, 111, 112, 113, 114, 115, 116, 117, 118, 119, 120, 121, 122, 123, 124, 125, 126, 127, 128, 129, 130, 131, 132, 133, 134, 135, 136, 137, 138, 139, 140, 141, 142, 143, 144, 145]) (b := i4n94) (Q := (finE none [2] (Q4 L r))) he ?_
                refine Rn.g ?_
                refine Ro.t 1 ?_
                rcases tf (y9977 == (0 : Int)) with h10261 | h10261
                · rw [ite_t h10261] at h; refine Ro.p (bool_of h10261) ?_
                  refine Ro.t 2 ?_
                  refine Ro.p (len_fz (EI .i64) y9032) ?_
                  refine Ro.t 3 ?_
                  refine Ro.p (len_fz E_Block x0.fBlocks) ?_
                  refine Ro.t 4 ?_
                  refine Ro.d (mkE [(2, (V.bool (((ln y9032) == (0 : Int)) == ((ln x0.fBlocks) == (0 : Int)))))] 155) ?_
                  refine Run.ret ?_
                  have h := Option.some.inj h; subst h
                  exact ⟨(V.bool (((ln y9032) == (0 : Int)) == ((ln x0.fBlocks) == (0 : Int)))), (by kernel_rfl), (by kernel_rfl), hp⟩
                · rw [ite_f h10261] at h; refine Ro.p (bool_of h10261) ?_
                  refine Ro.t 11 ?_
                  refine Ro.d (mkE [(2, (V.bool false))] 155) ?_
                  refine Run.ret ?_
                  have h := Option.some.inj h; subst h
                  exact ⟨(V.bool false), (by kernel_rfl), (by kernel_rfl), hp⟩

theorem c4 {x0 : T_Graph} {r : Bool} (h : F4 x0 = some r) (s : Bool) : Fn T 4 [(E_Graph.e x0)] [] (fun v hh => deep s hh deepN v = some (EB.e r)) := by
  refine (w4 h HP.nil).mono ?_
  rintro v hh ⟨rfl, hp⟩
  exact EB.hd s hh 38 _ (.inr rfl)
end Go.Eng.Gra
