/- Plain functions with the answers of the layer's functions, and the proofs (lines written by a program of this session's; no condition beyond those stated). -/
import Derived.Test.YtfkakbipedafiaaDoorGraIr
import Derived.Test.YtfkakbipedafiaaDoorGraTy
import Derived.Test.YtfkakbipedafiaaDoorEngZ
import Derived.Test.YtfkakbipedafiaaDoorGraX
namespace Go.Eng.Gra
open Go Go.Eng
set_option linter.unusedSectionVars false
set_option linter.unusedVariables false
set_option linter.unusedSimpArgs false
set_option maxRecDepth 20000
/- smithy/smithylaw07.great -/
abbrev Q12 (L : List Ob) (r : Bool) : V → Heap → Prop := fun v h => v = EB.e r ∧ HP h (L)
abbrev RR12 (L : List Ob) (r : Bool) : List V → Heap → Prop := fun e h => endR none [2] (Q12 L r) e h

abbrev I12_1 (x0 : T_Graph) (L : List Ob) : (Int × Int) → List V → Heap → Prop := fun s e h => e = (mkE [(1, (V.fp (E_Graph.e x0))), (1, (i6 s.1)), (0, (i6 s.2))] 69) ∧ HP h (L)

abbrev J12_1 (x0 : T_Graph) (L : List Ob) : Unit → Nat → List V → Heap → Prop := fun a i e h => i = 0 ∧ clrEnv [1, 2, 3, 4, 5, 28, 29, 30, 31, 32, 33, 34, 35, 36, 37, 38, 39, 40, 41, 42, 43, 44, 45, 46, 47, 48, 49, 50, 51, 52, 53, 54, 55, 56, 57, 58, 59, 60, 61, 62, 63, 64, 65, 66, 67, 68, 69, 70, 71, 72, 73] e = (mkE [] 74) ∧ HP h (L)

abbrev I12_2 (x0 : T_Graph) (y212 : Int) (L : List Ob) : (Int × Int) → List V → Heap → Prop := fun s e h => e = (mkE [(1, (V.fp (E_Graph.e x0))), (1, (i6 s.1)), (0, (i6 y212)), (0, (i6 s.2))] 68) ∧ HP h (L)

abbrev J12_2 (x0 : T_Graph) (y212 : Int) (L : List Ob) : (Int) → Nat → List V → Heap → Prop := fun a i e h => i = 2 ∧ clrEnv [5, 44, 45, 46, 47, 48, 49, 50, 51, 52, 53, 54, 55, 56, 57, 58, 59, 60, 61, 62, 63, 64, 65, 66, 67, 68, 69, 70, 71] e = (mkE [(1, (V.fp (E_Graph.e x0))), (1, (i6 a)), (0, (i6 y212))] 69) ∧ HP h (L)

def F12_2_b (x0 : T_Graph) (y212 : Int) (y321 : Int) (y322 : Int) : Option (Stp (Int × Int) Bool (Int)) :=
  (idx x0.fBlocks y212).bind fun y340 =>
  if (decide (y322 < ((List.length y340.fIns : Nat) : Int))) then
    if (decide (y321 ≤ (2000 : Int))) then
      (idx x0.fBlocks y212).bind fun y344 =>
      (idx y344.fIns y322).bind fun y346 =>
      some (.next ((IntKind.i64.wrap (y321 + ((List.length y346.fArgs : Nat) : Int))), (IntKind.i64.wrap (y322 + (1 : Int)))))
    else
      some (.go (y321))
  else
    some (.go (y321))

theorem w12_2_b {x0 : T_Graph} {y212 : Int} {y321 : Int} {y322 : Int} {t : (Stp (Int × Int) Bool (Int))} (h : F12_2_b x0 y212 y321 y322 = some t) {H : Heap} {L : List Ob} (hp : HP H (L)) :
    Run T i12n20 (mkE [(1, (V.fp (E_Graph.e x0))), (1, (i6 y321)), (0, (i6 y212)), (0, (i6 y322))] 68) H (stp [44, 45, 46, 47, 48, 49, 50, 51, 52, 53, 54, 55, 56, 57, 58, 59, 60, 61, 62, 63, 64, 65, 66, 67, 68, 69, 70, 71] (I12_2 x0 y212 L) (RR12 L) (J12_2 x0 y212 L) t) := by
  unfold F12_2_b at h
  refine Run.seq ?_
  refine Rn.g ?_
  refine Ro.t 4 ?_
  obtain ⟨y340, h341, h⟩ := bind_some h
  refine Ro.p (idx_fz E_Block .i64 h341) ?_
  refine Ro.t 2 ?_
  refine Ro.p (len_fz E_Ins y340.fIns) ?_
  rcases tf (decide (y322 < (ln y340.fIns))) with h342 | h342
  · rw [ite_t h342] at h; refine Ro.p (bool_of h342) ?_
    refine Ro.t 4 ?_
    refine Ro.d (mkE [(1, (V.fp (E_Graph.e x0))), (1, (i6 y321)), (0, (i6 y212)), (0, (i6 y322)), (50, (V.bool (decide (y321 ≤ (2000 : Int)))))] 17) ?_
    rcases tf (decide (y321 ≤ (2000 : Int))) with h343 | h343
    · rw [ite_t h343] at h; refine Rn.t h343 ?_
      refine Run.skip ?_
      refine Rn.c (mkE [(1, (V.fp (E_Graph.e x0))), (1, (i6 y321)), (0, (i6 y212)), (0, (i6 y322))] 68) ?_
      refine Run.seq ?_
      refine Run.block ?_
      refine Run.rgn ?_
      refine Ro.t 4 ?_
      obtain ⟨y344, h345, h⟩ := bind_some h
      refine Ro.p (idx_fz E_Block .i64 h345) ?_
      refine Ro.t 3 ?_
      obtain ⟨y346, h347, h⟩ := bind_some h
      refine Ro.p (idx_fz E_Ins .i64 h347) ?_
      refine Ro.t 2 ?_
      refine Ro.p (len_fz (EI .i64) y346.fArgs) ?_
      refine Ro.t 2 ?_
      refine RunO.nil ?_
      refine Run.clrE (ts := [59, 60, 61, 62, 63, 64, 65, 66, 67, 68, 69, 70, 71]) (b := (.rgn i12r18)) (Q := (stp [44, 45, 46, 47, 48, 49, 50, 51, 52, 53, 54, 55, 56, 57, 58, 59, 60, 61, 62, 63, 64, 65, 66, 67, 68, 69, 70, 71] (I12_2 x0 y212 L) (RR12 L) (J12_2 x0 y212 L) t)) (e' := (mkE [(1, (V.fp (E_Graph.e x0))), (1, (i6 (IntKind.i64.wrap (y321 + (ln y346.fArgs))))), (0, (i6 y212)), (0, (i6 y322))] 68)) (by kernel_rfl) ?_
      refine Run.rgn ?_
      refine Ro.t 3 ?_
      refine RunO.nil ?_
      have h := Option.some.inj h; subst h
      show I12_2 x0 y212 L _ _ _
      exact ⟨(by kernel_rfl), hp⟩
    · rw [ite_f h343] at h; refine Rn.f h343 ?_
      refine Run.exit ?_
      have h := Option.some.inj h; subst h
      show J12_2 x0 y212 L _ _ _ _
      exact ⟨rfl, (by kernel_rfl), hp⟩
  · rw [ite_f h342] at h; refine Ro.p (bool_of h342) ?_
    refine Ro.t 4 ?_
    refine Ro.d (mkE [(1, (V.fp (E_Graph.e x0))), (1, (i6 y321)), (0, (i6 y212)), (0, (i6 y322)), (50, (V.bool false))] 17) ?_
    refine Run.condF (by kernel_rfl) ?_
    refine Run.exit ?_
    have h := Option.some.inj h; subst h
    show J12_2 x0 y212 L _ _ _ _
    exact ⟨rfl, (by kernel_rfl), hp⟩

def F12_1_b (x0 : T_Graph) (y211 : Int) (y212 : Int) : Option (Stp (Int × Int) Bool Unit) :=
  if (decide (y212 < ((List.length x0.fBlocks : Nat) : Int))) then
    (idx x0.fBlocks y212).bind fun y307 =>
    (iter (fun s : (Int × Int) => F12_2_b x0 y212 s.1 s.2) FUEL ((IntKind.i64.wrap (y211 + ((List.length y307.fIns : Nat) : Int))), (0 : Int))).bind fun o => match o with
    | .ret r => some (.ret r)
    | .go (y335) =>
      if (decide (y335 > (2000 : Int))) then
        some (.ret true)
      else
        some (.next (y335, (IntKind.i64.wrap (y212 + (1 : Int)))))
  else
    some (.go ())

theorem w12_1_b {x0 : T_Graph} {y211 : Int} {y212 : Int} {t : (Stp (Int × Int) Bool Unit)} (h : F12_1_b x0 y211 y212 = some t) {H : Heap} {L : List Ob} (hp : HP H (L)) :
    Run T i12n34 (mkE [(1, (V.fp (E_Graph.e x0))), (1, (i6 y211)), (0, (i6 y212))] 69) H (stp [2, 5, 28, 29, 30, 31, 32, 33, 34, 35, 36, 37, 38, 39, 40, 41, 42, 43, 44, 45, 46, 47, 48, 49, 50, 51, 52, 53, 54, 55, 56, 57, 58, 59, 60, 61, 62, 63, 64, 65, 66, 67, 68, 69, 70, 71, 72, 73] (I12_1 x0 L) (RR12 L) (J12_1 x0 L) t) := by
  unfold F12_1_b at h
  refine Run.seq ?_
  refine Rn.g ?_
  refine Ro.t 3 ?_
  refine Ro.p (len_fz E_Block x0.fBlocks) ?_
  refine Ro.t 1 ?_
  refine Ro.d (mkE [(1, (V.fp (E_Graph.e x0))), (1, (i6 y211)), (0, (i6 y212)), (27, (V.bool (decide (y212 < (ln x0.fBlocks)))))] 41) ?_
  rcases tf (decide (y212 < (ln x0.fBlocks))) with h276 | h276
  · rw [ite_t h276] at h; refine Rn.t h276 ?_
    refine Run.skip ?_
    refine Rn.c (mkE [(1, (V.fp (E_Graph.e x0))), (1, (i6 y211)), (0, (i6 y212))] 69) ?_
    refine Run.seq ?_
    refine Run.block ?_
    refine Rn.g ?_
    refine Ro.t 4 ?_
    obtain ⟨y307, h308, h⟩ := bind_some h
    refine Ro.p (idx_fz E_Block .i64 h308) ?_
    refine Ro.t 2 ?_
    refine Ro.p (len_fz E_Ins y307.fIns) ?_
    refine Ro.t 2 ?_
    refine Ro.d (mkE [(1, (V.fp (E_Graph.e x0))), (1, (i6 (IntKind.i64.wrap (y211 + (ln y307.fIns))))), (0, (i6 y212))] 69) ?_
    refine Run.seq ?_
    refine Rn.g ?_
    refine Ro.t 1 ?_
    refine Ro.d (mkE [(1, (V.fp (E_Graph.e x0))), (1, (i6 (IntKind.i64.wrap (y211 + (ln y307.fIns))))), (0, (i6 y212)), (0, (i6 (0 : Int)))] 68) ?_
    refine Run.block ?_
    obtain ⟨o, h348, h⟩ := bind_some h
    refine (Run.iter (I := I12_2 x0 y212 L) (RR := RR12 L) (J := J12_2 x0 y212 L) (fun s e h' t hI hf => ?_) FUEL h348 (by exact ⟨(by kernel_rfl), hp⟩)).mono ?_
    · obtain ⟨rfl, hp⟩ := hI; exact w12_2_b hf hp
    · rintro X e' H hq
      cases o with
      | ret r => cases X <;> first | exact hq.elim | (cases h; exact hq)
      | go y335 => 
        cases X with | nrm => exact hq.elim | ret => exact hq.elim | ext i => ?_
        obtain ⟨rfl, he, hp⟩ := hq
        dsimp only at h
        refine Run.clrE (ts := [5, 44, 45, 46, 47, 48, 49, 50, 51, 52, 53, 54, 55, 56, 57, 58, 59, 60, 61, 62, 63, 64, 65, 66, 67, 68, 69, 70, 71]) (b := i12n28) (Q := (blk 1 (thn T (.clr [2, 5, 35, 36, 37, 38, 39, 40, 41, 42, 43, 44, 45, 46, 47, 48, 49, 50, 51, 52, 53, 54, 55, 56, 57, 58, 59, 60, 61, 62, 63, 64, 65, 66, 67, 68, 69, 70, 71, 72, 73] (.rgn i12r32)) (stp [2, 5, 28, 29, 30, 31, 32, 33, 34, 35, 36, 37, 38, 39, 40, 41, 42, 43, 44, 45, 46, 47, 48, 49, 50, 51, 52, 53, 54, 55, 56, 57, 58, 59, 60, 61, 62, 63, 64, 65, 66, 67, 68, 69, 70, 71, 72, 73] (I12_1 x0 L) (RR12 L) (J12_1 x0 L) t)))) he ?_
        refine Rn.g ?_
        refine Ro.t 2 ?_
        refine Ro.d (mkE [(1, (V.fp (E_Graph.e x0))), (1, (i6 y335)), (0, (i6 y212)), (68, (V.bool (decide (y335 > (2000 : Int)))))] 0) ?_
        rcases tf (decide (y335 > (2000 : Int))) with h349 | h349
        · rw [ite_t h349] at h; refine Rn.t h349 ?_
          refine Rn.g ?_
          refine Ro.t 1 ?_
          refine Ro.d (mkE [(2, (V.bool true))] 71) ?_
          refine Run.ret ?_
          have h := Option.some.inj h; subst h
          show RR12 L _ _ _
          exact ⟨(V.bool true), (by kernel_rfl), (by kernel_rfl), hp⟩
        · rw [ite_f h349] at h; refine Rn.f h349 ?_
          refine Run.skip ?_
          refine Run.clrE (ts := [2, 5, 35, 36, 37, 38, 39, 40, 41, 42, 43, 44, 45, 46, 47, 48, 49, 50, 51, 52, 53, 54, 55, 56, 57, 58, 59, 60, 61, 62, 63, 64, 65, 66, 67, 68, 69, 70, 71, 72, 73]) (b := (.rgn i12r32)) (Q := (stp [2, 5, 28, 29, 30, 31, 32, 33, 34, 35, 36, 37, 38, 39, 40, 41, 42, 43, 44, 45, 46, 47, 48, 49, 50, 51, 52, 53, 54, 55, 56, 57, 58, 59, 60, 61, 62, 63, 64, 65, 66, 67, 68, 69, 70, 71, 72, 73] (I12_1 x0 L) (RR12 L) (J12_1 x0 L) t)) (e' := (mkE [(1, (V.fp (E_Graph.e x0))), (1, (i6 y335)), (0, (i6 y212))] 69)) (by kernel_rfl) ?_
          refine Run.rgn ?_
          refine Ro.t 3 ?_
          refine RunO.nil ?_
          have h := Option.some.inj h; subst h
          show I12_1 x0 L _ _ _
          exact ⟨(by kernel_rfl), hp⟩
  · rw [ite_f h276] at h; refine Rn.f h276 ?_
    refine Run.exit ?_
    have h := Option.some.inj h; subst h
    show J12_1 x0 L () _ _ _
    exact ⟨rfl, (by kernel_rfl), hp⟩

def F12 (x0 : T_Graph) : Option Bool :=
  if (decide (((List.length x0.fBlocks : Nat) : Int) > (400 : Int))) then
    some true
  else
    if (decide (((List.length x0.fVars : Nat) : Int) > (2000 : Int))) then
      some true
    else
      if (decide (((List.length x0.fArrays : Nat) : Int) > (2000 : Int))) then
        some true
      else
        if (decide (((List.length x0.fParams : Nat) : Int) > (2000 : Int))) then
          some true
        else
          (iter (fun s : (Int × Int) => F12_1_b x0 s.1 s.2) FUEL ((0 : Int), (0 : Int))).bind fun o => match o with
          | .ret r => some r
          | .go () =>
            some false

theorem w12 {x0 : T_Graph} {r : Bool} (h : F12 x0 = some r) {H : Heap} {L : List Ob} (hp : HP H (L)) : Fn T 12 [(E_Graph.e x0)] H (Q12 L r) := by
  refine Fn.enterE t12 (e0 := (mkE [(0, (E_Graph.e x0))] 73)) (by kernel_rfl) ?_
  show Run T (.clr [] i12n43) _ _ (finE none [2] (Q12 L r))
  refine Rn.k (mkE [(0, (E_Graph.e x0))] 73) ?_
  unfold F12 at h
  refine Rn.g ?_
  refine Ro.t 2 ?_
  refine Ro.d (mkE [(1, (V.fp (E_Graph.e x0)))] 72) ?_
  refine Run.seq ?_
  refine Rn.g ?_
  refine Ro.t 2 ?_
  refine Ro.p (len_fz E_Block x0.fBlocks) ?_
  rcases tf (decide ((ln x0.fBlocks) > (400 : Int))) with h145 | h145
  · rw [ite_t h145] at h; refine Ro.p (bool_of h145) ?_
    refine Ro.t 18 ?_
    refine Ro.d (mkE [(1, (V.fp (E_Graph.e x0))), (25, (V.bool true))] 46) ?_
    refine Run.condT (by kernel_rfl) ?_
    refine Rn.g ?_
    refine Ro.t 1 ?_
    refine Ro.d (mkE [(2, (V.bool true))] 71) ?_
    refine Run.ret ?_
    have h := Option.some.inj h; subst h
    exact ⟨(V.bool true), (by kernel_rfl), (by kernel_rfl), hp⟩
  · rw [ite_f h145] at h; refine Ro.p (bool_of h145) ?_
    refine Ro.t 3 ?_
    refine Ro.p (len_fz (EI .u8) x0.fVars) ?_
    rcases tf (decide ((ln x0.fVars) > (2000 : Int))) with h146 | h146
    · rw [ite_t h146] at h; refine Ro.p (bool_of h146) ?_
      refine Ro.t 13 ?_
      refine Ro.d (mkE [(1, (V.fp (E_Graph.e x0))), (25, (V.bool true))] 46) ?_
      refine Run.condT (by kernel_rfl) ?_
      refine Rn.g ?_
      refine Ro.t 1 ?_
      refine Ro.d (mkE [(2, (V.bool true))] 71) ?_
      refine Run.ret ?_
      have h := Option.some.inj h; subst h
      exact ⟨(V.bool true), (by kernel_rfl), (by kernel_rfl), hp⟩
    · rw [ite_f h146] at h; refine Ro.p (bool_of h146) ?_
      refine Ro.t 4 ?_
      refine Ro.p (len_fz E_Array x0.fArrays) ?_
      rcases tf (decide ((ln x0.fArrays) > (2000 : Int))) with h147 | h147
      · rw [ite_t h147] at h; refine Ro.p (bool_of h147) ?_
        refine Ro.t 7 ?_
        refine Ro.d (mkE [(1, (V.fp (E_Graph.e x0))), (25, (V.bool true))] 46) ?_
        refine Run.condT (by kernel_rfl) ?_
        refine Rn.g ?_
        refine Ro.t 1 ?_
        refine Ro.d (mkE [(2, (V.bool true))] 71) ?_
        refine Run.ret ?_
        have h := Option.some.inj h; subst h
        exact ⟨(V.bool true), (by kernel_rfl), (by kernel_rfl), hp⟩
      · rw [ite_f h147] at h; refine Ro.p (bool_of h147) ?_
        refine Ro.t 4 ?_
        refine Ro.p (len_fz (EI .i64) x0.fParams) ?_
        refine Ro.t 2 ?_
        refine Ro.d (mkE [(1, (V.fp (E_Graph.e x0))), (25, (V.bool (decide ((ln x0.fParams) > (2000 : Int)))))] 46) ?_
        rcases tf (decide ((ln x0.fParams) > (2000 : Int))) with h148 | h148
        · rw [ite_t h148] at h; refine Rn.t h148 ?_
          refine Rn.g ?_
          refine Ro.t 1 ?_
          refine Ro.d (mkE [(2, (V.bool true))] 71) ?_
          refine Run.ret ?_
          have h := Option.some.inj h; subst h
          exact ⟨(V.bool true), (by kernel_rfl), (by kernel_rfl), hp⟩
        · rw [ite_f h148] at h; refine Rn.f h148 ?_
          refine Run.skip ?_
          refine Rn.c (mkE [(1, (V.fp (E_Graph.e x0)))] 72) ?_
          refine Rn.g ?_
          refine Ro.t 1 ?_
          refine Ro.d (mkE [(1, (V.fp (E_Graph.e x0))), (1, (i6 (0 : Int)))] 70) ?_
          refine Run.seq ?_
          refine Rn.g ?_
          refine Ro.t 1 ?_
          refine Ro.d (mkE [(1, (V.fp (E_Graph.e x0))), (1, (i6 (0 : Int))), (0, (i6 (0 : Int)))] 69) ?_
          refine Run.block ?_
          obtain ⟨o, h350, h⟩ := bind_some h
          refine (Run.iter (I := I12_1 x0 L) (RR := RR12 L) (J := J12_1 x0 L) (fun s e h' t hI hf => ?_) FUEL h350 (by exact ⟨(by kernel_rfl), hp⟩)).mono ?_
          · obtain ⟨rfl, hp⟩ := hI; exact w12_1_b hf hp
          · rintro X e' H hq
            cases o with
            | ret r => cases X <;> first | exact hq.elim | (cases h; exact hq)
            | go a => 
              cases X with | nrm => exact hq.elim | ret => exact hq.elim | ext i => ?_
              obtain ⟨rfl, he, hp⟩ := hq
              dsimp only at h
              refine Run.clrE (ts := [1, 2, 3, 4, 5, 28, 29, 30, 31, 32, 33, 34, 35, 36, 37, 38, 39, 40, 41, 42, 43, 44, 45, 46, 47, 48, 49, 50, 51, 52, 53, 54, 55, 56, 57, 58, 59, 60, 61, 62, 63, 64, 65, 66, 67, 68, 69, 70, 71, 72, 73]) (b := i12n39) (Q := (finE none [2] (Q12 L r))) he ?_
              refine Rn.g ?_
              refine Ro.t 1 ?_
              refine Ro.d (mkE [(2, (V.bool false))] 71) ?_
              refine Run.ret ?_
              have h := Option.some.inj h; subst h
              exact ⟨(V.bool false), (by kernel_rfl), (by kernel_rfl), hp⟩

theorem c12 {x0 : T_Graph} {r : Bool} (h : F12 x0 = some r) (s : Bool) : Fn T 12 [(E_Graph.e x0)] [] (fun v hh => deep s hh deepN v = some (EB.e r)) := by
  refine (w12 h HP.nil).mono ?_
  rintro v hh ⟨rfl, hp⟩
  exact EB.hd s hh 38 _ (.inr rfl)

/- smithy/smithylaw07.wide -/
abbrev Q8 (L : List Ob) (r : Bool) : V → Heap → Prop := fun v h => v = EB.e r ∧ HP h (L)
abbrev RR8 (L : List Ob) (r : Bool) : List V → Heap → Prop := fun e h => endR none [2] (Q8 L r) e h

abbrev I8_1 (x0 : (List T_Graph)) (L : List Ob) : (Int) → List V → Heap → Prop := fun s e h => e = (mkE [(0, (Zl E_Graph x0)), (2, (i6 s))] 14) ∧ HP h (L)

abbrev J8_1 (x0 : (List T_Graph)) (L : List Ob) : Unit → Nat → List V → Heap → Prop := fun a i e h => i = 0 ∧ clrEnv [0, 2, 3, 7, 8, 9, 10, 11, 12, 13, 14, 15, 16, 17] e = (mkE [] 18) ∧ HP h (L)

def F8_1_b (x0 : (List T_Graph)) (y386 : Int) : Option (Stp (Int) Bool Unit) :=
  if (decide (y386 < ((List.length x0 : Nat) : Int))) then
    (idx x0 y386).bind fun y406 =>
    (F12 y406).bind fun y408 =>
    if y408 then
      some (.ret true)
    else
      some (.next ((IntKind.i64.wrap (y386 + (1 : Int)))))
  else
    some (.go ())

theorem w8_1_b {x0 : (List T_Graph)} {y386 : Int} {t : (Stp (Int) Bool Unit)} (h : F8_1_b x0 y386 = some t) {H : Heap} {L : List Ob} (hp : HP H (L)) :
    Run T i8n18 (mkE [(0, (Zl E_Graph x0)), (2, (i6 y386))] 14) H (stp [2, 7, 8, 9, 10, 11, 12, 13, 14, 15, 16, 17] (I8_1 x0 L) (RR8 L) (J8_1 x0 L) t) := by
  unfold F8_1_b at h
  refine Run.seq ?_
  refine Rn.g ?_
  refine Ro.t 2 ?_
  refine Ro.p (len_fz E_Graph x0) ?_
  refine Ro.t 1 ?_
  refine Ro.d (mkE [(0, (Zl E_Graph x0)), (2, (i6 y386)), (6, (V.bool (decide (y386 < (ln x0)))))] 7) ?_
  rcases tf (decide (y386 < (ln x0))) with h400 | h400
  · rw [ite_t h400] at h; refine Rn.t h400 ?_
    refine Run.skip ?_
    refine Rn.c (mkE [(0, (Zl E_Graph x0)), (2, (i6 y386))] 14) ?_
    refine Run.seq ?_
    refine Run.block ?_
    refine Rn.g ?_
    refine Ro.t 2 ?_
    obtain ⟨y406, h407, h⟩ := bind_some h
    refine Ro.p (idx_fz E_Graph .i64 h407) ?_
    refine Ro.t 1 ?_
    obtain ⟨y408, h409, h⟩ := bind_some h
    refine RunO.c1 (by kernel_rfl) (by kernel_rfl) (c12 h409 _) ?_
    refine Ro.d (mkE [(0, (Zl E_Graph x0)), (2, (i6 y386)), (13, (V.bool y408))] 0) ?_
    rcases tf y408 with h410 | h410
    · rw [ite_t h410] at h; refine Rn.t h410 ?_
      refine Rn.g ?_
      refine Ro.t 1 ?_
      refine Ro.d (mkE [(2, (V.bool true))] 15) ?_
      refine Run.ret ?_
      have h := Option.some.inj h; subst h
      show RR8 L _ _ _
      exact ⟨(V.bool true), (by kernel_rfl), (by kernel_rfl), hp⟩
    · rw [ite_f h410] at h; refine Rn.f h410 ?_
      refine Run.skip ?_
      refine Run.clrE (ts := [2, 13, 14, 15, 16, 17]) (b := (.rgn i8r16)) (Q := (stp [2, 7, 8, 9, 10, 11, 12, 13, 14, 15, 16, 17] (I8_1 x0 L) (RR8 L) (J8_1 x0 L) t)) (e' := (mkE [(0, (Zl E_Graph x0)), (2, (i6 y386))] 14)) (by kernel_rfl) ?_
      refine Run.rgn ?_
      refine Ro.t 3 ?_
      refine RunO.nil ?_
      have h := Option.some.inj h; subst h
      show I8_1 x0 L _ _ _
      exact ⟨(by kernel_rfl), hp⟩
  · rw [ite_f h400] at h; refine Rn.f h400 ?_
    refine Run.exit ?_
    have h := Option.some.inj h; subst h
    show J8_1 x0 L () _ _ _
    exact ⟨rfl, (by kernel_rfl), hp⟩

def F8 (x0 : (List T_Graph)) : Option Bool :=
  if (decide (((List.length x0 : Nat) : Int) > (100 : Int))) then
    some true
  else
    (iter (fun s : (Int) => F8_1_b x0 s) FUEL ((0 : Int))).bind fun o => match o with
    | .ret r => some r
    | .go () =>
      some false

theorem w8 {x0 : (List T_Graph)} {r : Bool} (h : F8 x0 = some r) {H : Heap} {L : List Ob} (hp : HP H (L)) : Fn T 8 [(Zl E_Graph x0)] H (Q8 L r) := by
  refine Fn.enterE t8 (e0 := (mkE [(0, (Zl E_Graph x0))] 17)) (by kernel_rfl) ?_
  show Run T (.clr [] i8n26) _ _ (finE none [2] (Q8 L r))
  refine Rn.k (mkE [(0, (Zl E_Graph x0))] 17) ?_
  unfold F8 at h
  refine Rn.g ?_
  refine Ro.t 1 ?_
  refine Ro.d (mkE [(0, (Zl E_Graph x0))] 17) ?_
  refine Run.seq ?_
  refine Rn.g ?_
  refine Ro.t 1 ?_
  refine Ro.p (len_fz E_Graph x0) ?_
  refine Ro.t 1 ?_
  refine Ro.d (mkE [(0, (Zl E_Graph x0)), (5, (V.bool (decide ((ln x0) > (100 : Int)))))] 11) ?_
  rcases tf (decide ((ln x0) > (100 : Int))) with h373 | h373
  · rw [ite_t h373] at h; refine Rn.t h373 ?_
    refine Rn.g ?_
    refine Ro.t 1 ?_
    refine Ro.d (mkE [(2, (V.bool true))] 15) ?_
    refine Run.ret ?_
    have h := Option.some.inj h; subst h
    exact ⟨(V.bool true), (by kernel_rfl), (by kernel_rfl), hp⟩
  · rw [ite_f h373] at h; refine Rn.f h373 ?_
    refine Run.skip ?_
    refine Rn.c (mkE [(0, (Zl E_Graph x0))] 17) ?_
    refine Run.seq ?_
    refine Rn.g ?_
    refine Ro.t 1 ?_
    refine Ro.d (mkE [(0, (Zl E_Graph x0)), (2, (i6 (0 : Int)))] 14) ?_
    refine Run.block ?_
    obtain ⟨o, h411, h⟩ := bind_some h
    refine (Run.iter (I := I8_1 x0 L) (RR := RR8 L) (J := J8_1 x0 L) (fun s e h' t hI hf => ?_) FUEL h411 (by exact ⟨(by kernel_rfl), hp⟩)).mono ?_
    · obtain ⟨rfl, hp⟩ := hI; exact w8_1_b hf hp
    · rintro X e' H hq
      cases o with
      | ret r => cases X <;> first | exact hq.elim | (cases h; exact hq)
      | go a => 
        cases X with | nrm => exact hq.elim | ret => exact hq.elim | ext i => ?_
        obtain ⟨rfl, he, hp⟩ := hq
        dsimp only at h
        refine Run.clrE (ts := [0, 2, 3, 7, 8, 9, 10, 11, 12, 13, 14, 15, 16, 17]) (b := i8n23) (Q := (finE none [2] (Q8 L r))) he ?_
        refine Rn.g ?_
        refine Ro.t 1 ?_
        refine Ro.d (mkE [(2, (V.bool false))] 15) ?_
        refine Run.ret ?_
        have h := Option.some.inj h; subst h
        exact ⟨(V.bool false), (by kernel_rfl), (by kernel_rfl), hp⟩

theorem c8 {x0 : (List T_Graph)} {r : Bool} (h : F8 x0 = some r) (s : Bool) : Fn T 8 [(Zl E_Graph x0)] [] (fun v hh => deep s hh deepN v = some (EB.e r)) := by
  refine (w8 h HP.nil).mono ?_
  rintro v hh ⟨rfl, hp⟩
  exact EB.hd s hh 38 _ (.inr rfl)

/- smithy/graph.headed$1 -/
abbrev Q78 (L : List Ob) (r : Bool) : V → Heap → Prop := fun v h => v = EB.e r ∧ HP h (L)
abbrev RR78 (L : List Ob) (r : Bool) : List V → Heap → Prop := fun e h => endR none [2] (Q78 L r) e h

def F78 (x0 : Int) : Option Bool :=
  if (decide (x0 ≥ (1 : Int))) then
    some (decide (x0 ≤ (5 : Int)))
  else
    some false

theorem w78 {x0 : Int} {r : Bool} (h : F78 x0 = some r) {H : Heap} {L : List Ob} (hp : HP H (L)) : Fn T 78 [(V.int .u8 x0)] H (Q78 L r) := by
  refine Fn.enterE t78 (e0 := (mkE [(0, (V.int .u8 x0))] 8)) (by kernel_rfl) ?_
  show Run T (.clr [] i78n3) _ _ (finE none [2] (Q78 L r))
  refine Rn.k (mkE [(0, (V.int .u8 x0))] 8) ?_
  unfold F78 at h
  refine Rn.g ?_
  refine Ro.t 1 ?_
  refine Ro.d (mkE [(0, (V.int .u8 x0))] 8) ?_
  refine Rn.g ?_
  refine Ro.t 1 ?_
  rcases tf (decide (x0 ≥ (1 : Int))) with h425 | h425
  · rw [ite_t h425] at h; refine Ro.p (bool_of h425) ?_
    refine Ro.t 5 ?_
    refine Ro.d (mkE [(2, (V.bool (decide (x0 ≤ (5 : Int)))))] 6) ?_
    refine Run.ret ?_
    have h := Option.some.inj h; subst h
    exact ⟨(V.bool (decide (x0 ≤ (5 : Int)))), (by kernel_rfl), (by kernel_rfl), hp⟩
  · rw [ite_f h425] at h; refine Ro.p (bool_of h425) ?_
    refine Ro.t 5 ?_
    refine Ro.d (mkE [(2, (V.bool false))] 6) ?_
    refine Run.ret ?_
    have h := Option.some.inj h; subst h
    exact ⟨(V.bool false), (by kernel_rfl), (by kernel_rfl), hp⟩

theorem c78 {x0 : Int} {r : Bool} (h : F78 x0 = some r) (s : Bool) : Fn T 78 [(V.int .u8 x0)] [] (fun v hh => deep s hh deepN v = some (EB.e r)) := by
  refine (w78 h HP.nil).mono ?_
  rintro v hh ⟨rfl, hp⟩
  exact EB.hd s hh 38 _ (.inr rfl)

/- slices.Index[[]int,int] -/
abbrev Q65 (L : List Ob) (r : Int) : V → Heap → Prop := fun v h => v = (EI .i64).e r ∧ HP h (L)
abbrev RR65 (L : List Ob) (r : Int) : List V → Heap → Prop := fun e h => endR none [4] (Q65 L r) e h

abbrev I65_1 (x0 : (List Int)) (x1 : Int) (L : List Ob) : (Int) → List V → Heap → Prop := fun s e h => e = (mkE [(0, (Zl (EI .i64) x0)), (0, (i6 x1)), (5, (i6 (ln x0))), (0, (i6 s))] 10) ∧ HP h (L)

abbrev J65_1 (x0 : (List Int)) (x1 : Int) (L : List Ob) : Unit → Nat → List V → Heap → Prop := fun a i e h => i = 0 ∧ clrEnv [0, 1, 4, 5, 6, 7, 8, 9, 10, 11, 12, 13, 14, 15, 16, 17, 18] e = (mkE [] 19) ∧ HP h (L)

def F65_1_b (x0 : (List Int)) (x1 : Int) (y533 : Int) : Option (Stp (Int) Int Unit) :=
  if (decide (y533 < ((List.length x0 : Nat) : Int))) then
    (idx x0 y533).bind fun y547 =>
    if (x1 == y547) then
      some (.ret y533)
    else
      some (.next ((IntKind.i64.wrap (y533 + (1 : Int)))))
  else
    some (.go ())

theorem w65_1_b {x0 : (List Int)} {x1 : Int} {y533 : Int} {t : (Stp (Int) Int Unit)} (h : F65_1_b x0 x1 y533 = some t) {H : Heap} {L : List Ob} (hp : HP H (L)) :
    Run T i65n15 (mkE [(0, (Zl (EI .i64) x0)), (0, (i6 x1)), (5, (i6 (ln x0))), (0, (i6 y533))] 10) H (stp [4, 5, 9, 10, 11, 12, 13, 14, 15, 16, 17, 18] (I65_1 x0 x1 L) (RR65 L) (J65_1 x0 x1 L) t) := by
  unfold F65_1_b at h
  refine Rn.g ?_
  refine Ro.t 1 ?_
  refine Ro.d (mkE [(0, (Zl (EI .i64) x0)), (0, (i6 x1)), (5, (i6 (ln x0))), (0, (i6 y533)), (0, (V.bool (decide (y533 < (ln x0)))))] 9) ?_
  refine Run.seq ?_
  rcases tf (decide (y533 < (ln x0))) with h543 | h543
  · rw [ite_t h543] at h; refine Rn.t h543 ?_
    refine Run.skip ?_
    refine Rn.c (mkE [(0, (Zl (EI .i64) x0)), (0, (i6 x1)), (5, (i6 (ln x0))), (0, (i6 y533))] 10) ?_
    refine Run.seq ?_
    refine Run.block ?_
    refine Rn.g ?_
    refine Ro.t 2 ?_
    refine Ro.d (mkE [(0, (Zl (EI .i64) x0)), (0, (i6 x1)), (3, (i6 y533)), (1, (i6 (ln x0))), (0, (i6 y533))] 10) ?_
    refine Rn.g ?_
    refine Ro.t 3 ?_
    obtain ⟨y547, h548, h⟩ := bind_some h
    refine Ro.p (idx_fz (EI .i64) .i64 h548) ?_
    refine Ro.t 2 ?_
    refine Ro.d (mkE [(0, (Zl (EI .i64) x0)), (0, (i6 x1)), (3, (i6 y533)), (1, (i6 (ln x0))), (0, (i6 y533)), (7, (V.bool (x1 == y547)))] 2) ?_
    rcases tf (x1 == y547) with h549 | h549
    · rw [ite_t h549] at h; refine Rn.t h549 ?_
      refine Rn.g ?_
      refine Ro.t 2 ?_
      refine Ro.d (mkE [(4, (i6 y533))] 14) ?_
      refine Run.ret ?_
      have h := Option.some.inj h; subst h
      show RR65 L _ _ _
      exact ⟨(i6 y533), (by kernel_rfl), (by kernel_rfl), hp⟩
    · rw [ite_f h549] at h; refine Rn.f h549 ?_
      refine Run.skip ?_
      refine Run.clrE (ts := [4, 5, 10, 11, 12, 13, 14, 15, 16, 17]) (b := (.rgn i65r12)) (Q := (stp [4, 5, 9, 10, 11, 12, 13, 14, 15, 16, 17, 18] (I65_1 x0 x1 L) (RR65 L) (J65_1 x0 x1 L) t)) (e' := (mkE [(0, (Zl (EI .i64) x0)), (0, (i6 x1)), (5, (i6 (ln x0))), (0, (i6 y533))] 10)) (by kernel_rfl) ?_
      refine Run.rgn ?_
      refine Ro.t 2 ?_
      refine RunO.nil ?_
      have h := Option.some.inj h; subst h
      show I65_1 x0 x1 L _ _ _
      exact ⟨(by kernel_rfl), hp⟩
  · rw [ite_f h543] at h; refine Rn.f h543 ?_
    refine Run.exit ?_
    have h := Option.some.inj h; subst h
    show J65_1 x0 x1 L () _ _ _
    exact ⟨rfl, (by kernel_rfl), hp⟩

def F65 (x0 : (List Int)) (x1 : Int) : Option Int :=
  (iter (fun s : (Int) => F65_1_b x0 x1 s) FUEL ((0 : Int))).bind fun o => match o with
  | .ret r => some r
  | .go () =>
    some (-1 : Int)

theorem w65 {x0 : (List Int)} {x1 : Int} {r : Int} (h : F65 x0 x1 = some r) {H : Heap} {L : List Ob} (hp : HP H (L)) : Fn T 65 [(Zl (EI .i64) x0), (i6 x1)] H (Q65 L r) := by
  refine Fn.enterE t65 (e0 := (mkE [(0, (Zl (EI .i64) x0)), (0, (i6 x1))] 17)) (by kernel_rfl) ?_
  show Run T (.clr [] i65n22) _ _ (finE none [4] (Q65 L r))
  refine Rn.k (mkE [(0, (Zl (EI .i64) x0)), (0, (i6 x1))] 17) ?_
  unfold F65 at h
  refine Rn.g ?_
  refine Ro.t 1 ?_
  refine Ro.d (mkE [(0, (Zl (EI .i64) x0)), (0, (i6 x1))] 17) ?_
  refine Run.seq ?_
  refine Rn.g ?_
  refine Ro.t 1 ?_
  refine Ro.p (len_fz (EI .i64) x0) ?_
  refine Ro.t 1 ?_
  refine Ro.d (mkE [(0, (Zl (EI .i64) x0)), (0, (i6 x1)), (5, (i6 (ln x0))), (0, (i6 (0 : Int)))] 10) ?_
  refine Run.block ?_
  obtain ⟨o, h550, h⟩ := bind_some h
  refine (Run.iter (I := I65_1 x0 x1 L) (RR := RR65 L) (J := J65_1 x0 x1 L) (fun s e h' t hI hf => ?_) FUEL h550 (by exact ⟨(by kernel_rfl), hp⟩)).mono ?_
  · obtain ⟨rfl, hp⟩ := hI; exact w65_1_b hf hp
  · rintro X e' H hq
    cases o with
    | ret r => cases X <;> first | exact hq.elim | (cases h; exact hq)
    | go a => 
      cases X with | nrm => exact hq.elim | ret => exact hq.elim | ext i => ?_
      obtain ⟨rfl, he, hp⟩ := hq
      dsimp only at h
      refine Run.clrE (ts := [0, 1, 4, 5, 6, 7, 8, 9, 10, 11, 12, 13, 14, 15, 16, 17, 18]) (b := i65n20) (Q := (finE none [4] (Q65 L r))) he ?_
      refine Rn.g ?_
      refine Ro.t 1 ?_
      refine Ro.d (mkE [(4, (i6 (-1 : Int)))] 14) ?_
      refine Run.ret ?_
      have h := Option.some.inj h; subst h
      exact ⟨(i6 (-1 : Int)), (by kernel_rfl), (by kernel_rfl), hp⟩

theorem c65 {x0 : (List Int)} {x1 : Int} {r : Int} (h : F65 x0 x1 = some r) (s : Bool) : Fn T 65 [(Zl (EI .i64) x0), (i6 x1)] [] (fun v hh => deep s hh deepN v = some ((EI .i64).e r)) := by
  refine (w65 h HP.nil).mono ?_
  rintro v hh ⟨rfl, hp⟩
  exact (EI .i64).hd s hh 38 _ (.inr rfl)

/- slices.Contains[[]int,int] -/
abbrev Q79 (L : List Ob) (r : Bool) : V → Heap → Prop := fun v h => v = EB.e r ∧ HP h (L)
abbrev RR79 (L : List Ob) (r : Bool) : List V → Heap → Prop := fun e h => endR none [4] (Q79 L r) e h

def F79 (x0 : (List Int)) (x1 : Int) : Option Bool :=
  (F65 x0 x1).bind fun y553 =>
  some (decide (y553 ≥ (0 : Int)))

theorem w79 {x0 : (List Int)} {x1 : Int} {r : Bool} (h : F79 x0 x1 = some r) {H : Heap} {L : List Ob} (hp : HP H (L)) : Fn T 79 [(Zl (EI .i64) x0), (i6 x1)] H (Q79 L r) := by
  refine Fn.enterE t79 (e0 := (mkE [(0, (Zl (EI .i64) x0)), (0, (i6 x1))] 7)) (by kernel_rfl) ?_
  show Run T (.clr [] i79n3) _ _ (finE none [4] (Q79 L r))
  refine Rn.k (mkE [(0, (Zl (EI .i64) x0)), (0, (i6 x1))] 7) ?_
  unfold F79 at h
  refine Rn.g ?_
  refine Ro.t 1 ?_
  refine Ro.d (mkE [(0, (Zl (EI .i64) x0)), (0, (i6 x1))] 7) ?_
  refine Rn.g ?_
  refine Ro.t 2 ?_
  obtain ⟨y553, h554, h⟩ := bind_some h
  refine RunO.c1 (by kernel_rfl) (by kernel_rfl) (c65 h554 _) ?_
  refine Ro.t 2 ?_
  refine Ro.d (mkE [(4, (V.bool (decide (y553 ≥ (0 : Int)))))] 4) ?_
  refine Run.ret ?_
  have h := Option.some.inj h; subst h
  exact ⟨(V.bool (decide (y553 ≥ (0 : Int)))), (by kernel_rfl), (by kernel_rfl), hp⟩

theorem c79 {x0 : (List Int)} {x1 : Int} {r : Bool} (h : F79 x0 x1 = some r) (s : Bool) : Fn T 79 [(Zl (EI .i64) x0), (i6 x1)] [] (fun v hh => deep s hh deepN v = some (EB.e r)) := by
  refine (w79 h HP.nil).mono ?_
  rintro v hh ⟨rfl, hp⟩
  exact EB.hd s hh 38 _ (.inr rfl)

/- smithy/graph.headed -/
abbrev Q59 (L : List Ob) (r : Bool) : V → Heap → Prop := fun v h => v = EB.e r ∧ HP h (L)
abbrev RR59 (L : List Ob) (r : Bool) : List V → Heap → Prop := fun e h => endR none [2] (Q59 L r) e h

abbrev I59_1 (x0 : T_Graph) (L : List Ob) : (Int) → List V → Heap → Prop := fun s e h => e = (mkE [(1, (V.fp (E_Graph.e x0))), (1, (V.fn 78 [])), (42, (Zl (EI .u8) x0.fVars)), (0, (i6 (ln x0.fVars))), (0, (i6 s))] 54) ∧ HP h (L)

abbrev J59_1 (x0 : T_Graph) (L : List Ob) : Unit → Nat → List V → Heap → Prop := fun a i e h => i = 0 ∧ clrEnv [2, 5, 45, 46, 47, 48, 49, 50, 51, 52, 53, 54, 55, 56] e = (mkE [(1, (V.fp (E_Graph.e x0))), (1, (V.fn 78 []))] 99) ∧ HP h (L)

def F59_1_b (x0 : T_Graph) (y619 : Int) : Option (Stp (Int) Bool Unit) :=
  if (decide (y619 < ((List.length x0.fVars : Nat) : Int))) then
    (idx x0.fVars y619).bind fun y639 =>
    (F78 y639).bind fun y641 =>
    if (!y641) then
      some (.ret false)
    else
      some (.next ((IntKind.i64.wrap (y619 + (1 : Int)))))
  else
    some (.go ())

theorem w59_1_b {x0 : T_Graph} {y619 : Int} {t : (Stp (Int) Bool Unit)} (h : F59_1_b x0 y619 = some t) {H : Heap} {L : List Ob} (hp : HP H (L)) :
    Run T i59n21 (mkE [(1, (V.fp (E_Graph.e x0))), (1, (V.fn 78 [])), (42, (Zl (EI .u8) x0.fVars)), (0, (i6 (ln x0.fVars))), (0, (i6 y619))] 54) H (stp [2, 5, 49, 50, 51, 52, 53, 54, 55, 56] (I59_1 x0 L) (RR59 L) (J59_1 x0 L) t) := by
  unfold F59_1_b at h
  refine Rn.g ?_
  refine Ro.t 1 ?_
  refine Ro.d (mkE [(1, (V.fp (E_Graph.e x0))), (1, (V.fn 78 [])), (42, (Zl (EI .u8) x0.fVars)), (0, (i6 (ln x0.fVars))), (0, (i6 y619)), (0, (V.bool (decide (y619 < (ln x0.fVars)))))] 53) ?_
  refine Run.seq ?_
  rcases tf (decide (y619 < (ln x0.fVars))) with h633 | h633
  · rw [ite_t h633] at h; refine Rn.t h633 ?_
    refine Run.skip ?_
    refine Rn.c (mkE [(1, (V.fp (E_Graph.e x0))), (1, (V.fn 78 [])), (42, (Zl (EI .u8) x0.fVars)), (0, (i6 (ln x0.fVars))), (0, (i6 y619))] 54) ?_
    refine Run.seq ?_
    refine Run.block ?_
    refine Rn.g ?_
    obtain ⟨y639, h640, h⟩ := bind_some h
    refine Ro.p (idx_fz (EI .u8) .i64 h640) ?_
    refine Ro.t 2 ?_
    refine Ro.d (mkE [(1, (V.fp (E_Graph.e x0))), (1, (V.fn 78 [])), (1, (V.int .u8 y639)), (40, (Zl (EI .u8) x0.fVars)), (0, (i6 (ln x0.fVars))), (0, (i6 y619))] 54) ?_
    refine Rn.g ?_
    refine Ro.t 2 ?_
    obtain ⟨y641, h642, h⟩ := bind_some h
    refine RunO.h1 (n := 78) (caps := []) (us := [(V.int .u8 y639)]) (by kernel_rfl) (by kernel_rfl) (by kernel_rfl) ((w78 h642 hp).mono ?_)
    rintro _ H ⟨rfl, hp⟩
    have hp : HP H (L) := hp
    refine Ro.t 1 ?_
    refine Ro.d (mkE [(1, (V.fp (E_Graph.e x0))), (1, (V.fn 78 [])), (42, (Zl (EI .u8) x0.fVars)), (0, (i6 (ln x0.fVars))), (0, (i6 y619)), (6, (V.bool (!y641)))] 47) ?_
    rcases tf (!y641) with h643 | h643
    · rw [ite_t h643] at h; refine Rn.t h643 ?_
      refine Rn.g ?_
      refine Ro.t 1 ?_
      refine Ro.d (mkE [(2, (V.bool false))] 100) ?_
      refine Run.ret ?_
      have h := Option.some.inj h; subst h
      show RR59 L _ _ _
      exact ⟨(V.bool false), (by kernel_rfl), (by kernel_rfl), hp⟩
    · rw [ite_f h643] at h; refine Rn.f h643 ?_
      refine Run.skip ?_
      refine Run.clrE (ts := [2, 5, 50, 51, 52, 53, 54, 55]) (b := (.rgn i59r18)) (Q := (stp [2, 5, 49, 50, 51, 52, 53, 54, 55, 56] (I59_1 x0 L) (RR59 L) (J59_1 x0 L) t)) (e' := (mkE [(1, (V.fp (E_Graph.e x0))), (1, (V.fn 78 [])), (42, (Zl (EI .u8) x0.fVars)), (0, (i6 (ln x0.fVars))), (0, (i6 y619))] 54)) (by kernel_rfl) ?_
      refine Run.rgn ?_
      refine Ro.t 2 ?_
      refine RunO.nil ?_
      have h := Option.some.inj h; subst h
      show I59_1 x0 L _ _ _
      exact ⟨(by kernel_rfl), hp⟩
  · rw [ite_f h633] at h; refine Rn.f h633 ?_
    refine Run.exit ?_
    have h := Option.some.inj h; subst h
    show J59_1 x0 L () _ _ _
    exact ⟨rfl, (by kernel_rfl), hp⟩

abbrev I59_2 (x0 : T_Graph) (L : List Ob) : (Int) → List V → Heap → Prop := fun s e h => e = (mkE [(1, (V.fp (E_Graph.e x0))), (1, (V.fn 78 [])), (54, (Zl E_Array x0.fArrays)), (0, (i6 (ln x0.fArrays))), (0, (i6 s))] 42) ∧ HP h (L)

abbrev J59_2 (x0 : T_Graph) (L : List Ob) : Unit → Nat → List V → Heap → Prop := fun a i e h => i = 2 ∧ clrEnv [2, 3, 7, 57, 58, 59, 60, 61, 62, 63, 64, 65, 66, 67, 68, 69, 70, 71, 72, 73, 74, 75, 76, 77, 78, 79] e = (mkE [(1, (V.fp (E_Graph.e x0)))] 101) ∧ HP h (L)

def F59_2_b (x0 : T_Graph) (y663 : Int) : Option (Stp (Int) Bool Unit) :=
  if (decide (y663 < ((List.length x0.fArrays : Nat) : Int))) then
    (idx x0.fArrays y663).bind fun y692 =>
    (F78 y692.fType).bind fun y695 =>
    if y695 then
      if (decide (y692.fSize < (1 : Int))) then
        some (.ret false)
      else
        if (decide (y692.fSize > (256 : Int))) then
          some (.ret false)
        else
          some (.next ((IntKind.i64.wrap (y663 + (1 : Int)))))
    else
      some (.ret false)
  else
    some (.go ())

theorem w59_2_b {x0 : T_Graph} {y663 : Int} {t : (Stp (Int) Bool Unit)} (h : F59_2_b x0 y663 = some t) {H : Heap} {L : List Ob} (hp : HP H (L)) :
    Run T i59n39 (mkE [(1, (V.fp (E_Graph.e x0))), (1, (V.fn 78 [])), (54, (Zl E_Array x0.fArrays)), (0, (i6 (ln x0.fArrays))), (0, (i6 y663))] 42) H (stp [2, 7, 61, 62, 63, 64, 65, 66, 67, 68, 69, 70, 71, 72, 73, 74, 75, 76, 77, 78, 79] (I59_2 x0 L) (RR59 L) (J59_2 x0 L) t) := by
  unfold F59_2_b at h
  refine Rn.g ?_
  refine Ro.t 1 ?_
  refine Ro.d (mkE [(1, (V.fp (E_Graph.e x0))), (1, (V.fn 78 [])), (54, (Zl E_Array x0.fArrays)), (0, (i6 (ln x0.fArrays))), (0, (i6 y663)), (0, (V.bool (decide (y663 < (ln x0.fArrays)))))] 41) ?_
  refine Run.seq ?_
  rcases tf (decide (y663 < (ln x0.fArrays))) with h683 | h683
  · rw [ite_t h683] at h; refine Rn.t h683 ?_
    refine Run.skip ?_
    refine Rn.c (mkE [(1, (V.fp (E_Graph.e x0))), (1, (V.fn 78 [])), (54, (Zl E_Array x0.fArrays)), (0, (i6 (ln x0.fArrays))), (0, (i6 y663))] 42) ?_
    refine Run.seq ?_
    refine Run.block ?_
    refine Rn.g ?_
    obtain ⟨y692, h693, h⟩ := bind_some h
    refine Ro.p (idx_fz E_Array .i64 h693) ?_
    refine Ro.t 1 ?_
    refine RunO.alloc hp (by kernel_rfl) ?_
    intro b694 H hp
    have hp : HP H ((some (b694, 0), [(V.int .u8 (0 : Int)), (i6 (0 : Int))]) :: L) := hp
    refine RunO.st hp (by kernel_rfl) 0 (off := 0) (v := (E_Array.e y692)) (cs' := [(V.int .u8 y692.fType), (i6 y692.fSize)]) rfl (by kernel_rfl) (by kernel_rfl) (by kernel_rfl) ?_
    intro H hp
    refine Ro.d (mkE [(1, (V.fp (E_Graph.e x0))), (1, (V.fn 78 [])), (3, (V.ptr b694 0 0)), (50, (Zl E_Array x0.fArrays)), (0, (i6 (ln x0.fArrays))), (0, (i6 y663))] 42) ?_
    refine Rn.g ?_
    refine Ro.t 2 ?_
    refine Ro.p (hp.ld 0 (off := 0) (n := none) (v := (V.int .u8 y692.fType)) rfl (by kernel_rfl)) ?_
    obtain ⟨y695, h696, h⟩ := bind_some h
    rcases tf y695 with h697 | h697
    · subst h697; rw [if_pos rfl] at h
      refine RunO.h1 (n := 78) (caps := []) (us := [(V.int .u8 y692.fType)]) (by kernel_rfl) (by kernel_rfl) (by kernel_rfl) ((w78 h696 hp).mono ?_)
      rintro _ H ⟨rfl, hp⟩
      have hp : HP H ((some (b694, 0), [(V.int .u8 y692.fType), (i6 y692.fSize)]) :: L) := hp
      refine Ro.t 3 ?_
      refine Ro.p (hp.ld 0 (off := 1) (n := none) (v := (i6 y692.fSize)) rfl (by kernel_rfl)) ?_
      rcases tf (decide (y692.fSize < (1 : Int))) with h698 | h698
      · rw [ite_t h698] at h; refine Ro.p (bool_of h698) ?_
        refine Ro.t 6 ?_
        refine Ro.d (mkE [(1, (V.fp (E_Graph.e x0))), (1, (V.fn 78 [])), (54, (Zl E_Array x0.fArrays)), (0, (i6 (ln x0.fArrays))), (0, (i6 y663)), (17, (V.bool true))] 24) ?_
        refine Run.condT (by kernel_rfl) ?_
        refine Rn.g ?_
        refine Ro.t 1 ?_
        refine Ro.d (mkE [(2, (V.bool false))] 100) ?_
        refine Run.ret ?_
        have h := Option.some.inj h; subst h
        show RR59 L _ _ _
        have hp := hp.del 0
        exact ⟨(V.bool false), (by kernel_rfl), (by kernel_rfl), hp⟩
      · rw [ite_f h698] at h; refine Ro.p (bool_of h698) ?_
        refine Ro.t 3 ?_
        refine Ro.p (hp.ld 0 (off := 1) (n := none) (v := (i6 y692.fSize)) rfl (by kernel_rfl)) ?_
        refine Ro.t 2 ?_
        refine Ro.d (mkE [(1, (V.fp (E_Graph.e x0))), (1, (V.fn 78 [])), (54, (Zl E_Array x0.fArrays)), (0, (i6 (ln x0.fArrays))), (0, (i6 y663)), (17, (V.bool (decide (y692.fSize > (256 : Int)))))] 24) ?_
        rcases tf (decide (y692.fSize > (256 : Int))) with h699 | h699
        · rw [ite_t h699] at h; refine Rn.t h699 ?_
          refine Rn.g ?_
          refine Ro.t 1 ?_
          refine Ro.d (mkE [(2, (V.bool false))] 100) ?_
          refine Run.ret ?_
          have h := Option.some.inj h; subst h
          show RR59 L _ _ _
          have hp := hp.del 0
          exact ⟨(V.bool false), (by kernel_rfl), (by kernel_rfl), hp⟩
        · rw [ite_f h699] at h; refine Rn.f h699 ?_
          refine Run.skip ?_
          refine Run.clrE (ts := [2, 7, 62, 63, 64, 65, 66, 67, 68, 69, 70, 71, 72, 73, 74, 75, 76, 77, 78]) (b := (.rgn i59r36)) (Q := (stp [2, 7, 61, 62, 63, 64, 65, 66, 67, 68, 69, 70, 71, 72, 73, 74, 75, 76, 77, 78, 79] (I59_2 x0 L) (RR59 L) (J59_2 x0 L) t)) (e' := (mkE [(1, (V.fp (E_Graph.e x0))), (1, (V.fn 78 [])), (54, (Zl E_Array x0.fArrays)), (0, (i6 (ln x0.fArrays))), (0, (i6 y663))] 42)) (by kernel_rfl) ?_
          refine Run.rgn ?_
          refine Ro.t 2 ?_
          refine RunO.nil ?_
          have h := Option.some.inj h; subst h
          have hp := hp.del 0
          show I59_2 x0 L _ _ _
          exact ⟨(by kernel_rfl), hp⟩
    · subst h697; rw [if_neg (by decide)] at h
      refine RunO.h1 (n := 78) (caps := []) (us := [(V.int .u8 y692.fType)]) (by kernel_rfl) (by kernel_rfl) (by kernel_rfl) ((w78 h696 hp).mono ?_)
      rintro _ H ⟨rfl, hp⟩
      have hp : HP H ((some (b694, 0), [(V.int .u8 y692.fType), (i6 y692.fSize)]) :: L) := hp
      refine Ro.t 11 ?_
      refine Ro.d (mkE [(1, (V.fp (E_Graph.e x0))), (1, (V.fn 78 [])), (54, (Zl E_Array x0.fArrays)), (0, (i6 (ln x0.fArrays))), (0, (i6 y663)), (17, (V.bool true))] 24) ?_
      refine Run.condT (by kernel_rfl) ?_
      refine Rn.g ?_
      refine Ro.t 1 ?_
      refine Ro.d (mkE [(2, (V.bool false))] 100) ?_
      refine Run.ret ?_
      have h := Option.some.inj h; subst h
      show RR59 L _ _ _
      have hp := hp.del 0
      exact ⟨(V.bool false), (by kernel_rfl), (by kernel_rfl), hp⟩
  · rw [ite_f h683] at h; refine Rn.f h683 ?_
    refine Run.exit ?_
    have h := Option.some.inj h; subst h
    show J59_2 x0 L () _ _ _
    exact ⟨rfl, (by kernel_rfl), hp⟩

abbrev I59_3 (x0 : T_Graph) (L : List Ob) : (Int) → List V → Heap → Prop := fun s e h => e = (mkE [(1, (V.fp (E_Graph.e x0))), (79, (Zl (EI .i64) x0.fParams)), (0, (i6 (ln x0.fParams))), (0, (i6 s))] 19) ∧ HP h (L)

abbrev J59_3 (x0 : T_Graph) (L : List Ob) : Unit → Nat → List V → Heap → Prop := fun a i e h => i = 4 ∧ clrEnv [1, 2, 8, 9, 80, 81, 82, 83, 84, 85, 86, 87, 88, 89, 90, 91, 92, 93, 94, 95, 96, 97, 98, 99, 100, 101, 102] e = (mkE [] 103) ∧ HP h (L)

def F59_3_b (x0 : T_Graph) (y723 : Int) : Option (Stp (Int) Bool Unit) :=
  if (decide (y723 < ((List.length x0.fParams : Nat) : Int))) then
    (idx x0.fParams y723).bind fun y758 =>
    (F34 y758 ((List.length x0.fVars : Nat) : Int)).bind fun y760 =>
    if y760 then
      (part x0.fParams 0 y723).bind fun y763 =>
      (F79 y763 y758).bind fun y765 =>
      if y765 then
        some (.ret false)
      else
        some (.next ((IntKind.i64.wrap (y723 + (1 : Int)))))
    else
      some (.ret false)
  else
    some (.go ())

theorem w59_3_b {x0 : T_Graph} {y723 : Int} {t : (Stp (Int) Bool Unit)} (h : F59_3_b x0 y723 = some t) {H : Heap} {L : List Ob} (hp : HP H (L)) :
    Run T i59n57 (mkE [(1, (V.fp (E_Graph.e x0))), (79, (Zl (EI .i64) x0.fParams)), (0, (i6 (ln x0.fParams))), (0, (i6 y723))] 19) H (stp [2, 8, 9, 84, 85, 86, 87, 88, 89, 90, 91, 92, 93, 94, 95, 96, 97, 98, 99, 100, 101, 102] (I59_3 x0 L) (RR59 L) (J59_3 x0 L) t) := by
  unfold F59_3_b at h
  refine Rn.g ?_
  refine Ro.t 1 ?_
  refine Ro.d (mkE [(1, (V.fp (E_Graph.e x0))), (79, (Zl (EI .i64) x0.fParams)), (0, (i6 (ln x0.fParams))), (0, (i6 y723)), (0, (V.bool (decide (y723 < (ln x0.fParams)))))] 18) ?_
  refine Run.seq ?_
  rcases tf (decide (y723 < (ln x0.fParams))) with h747 | h747
  · rw [ite_t h747] at h; refine Rn.t h747 ?_
    refine Run.skip ?_
    refine Rn.c (mkE [(1, (V.fp (E_Graph.e x0))), (79, (Zl (EI .i64) x0.fParams)), (0, (i6 (ln x0.fParams))), (0, (i6 y723))] 19) ?_
    refine Run.seq ?_
    refine Run.block ?_
    refine Rn.g ?_
    refine Ro.t 1 ?_
    obtain ⟨y758, h759, h⟩ := bind_some h
    refine Ro.p (idx_fz (EI .i64) .i64 h759) ?_
    refine Ro.t 3 ?_
    refine Ro.d (mkE [(1, (V.fp (E_Graph.e x0))), (6, (i6 y723)), (0, (i6 y758)), (71, (Zl (EI .i64) x0.fParams)), (0, (i6 (ln x0.fParams))), (0, (i6 y723))] 19) ?_
    refine Rn.g ?_
    refine Ro.t 3 ?_
    refine Ro.p (len_fz (EI .u8) x0.fVars) ?_
    obtain ⟨y760, h761, h⟩ := bind_some h
    rcases tf y760 with h762 | h762
    · subst h762; rw [if_pos rfl] at h
      refine RunO.c1 (by kernel_rfl) (by kernel_rfl) (c34 h761 _) ?_
      refine Ro.t 5 ?_
      obtain ⟨y763, h764, h⟩ := bind_some h
      refine Ro.p (slc_fz0 (EI .i64) .i64 (by decide) h764) ?_
      refine Ro.t 1 ?_
      obtain ⟨y765, h766, h⟩ := bind_some h
      refine RunO.c1 (by kernel_rfl) (by kernel_rfl) (c79 h766 _) ?_
      refine Ro.t 1 ?_
      refine Ro.d (mkE [(1, (V.fp (E_Graph.e x0))), (79, (Zl (EI .i64) x0.fParams)), (0, (i6 (ln x0.fParams))), (0, (i6 y723)), (17, (V.bool y765))] 1) ?_
      rcases tf y765 with h767 | h767
      · rw [ite_t h767] at h; refine Rn.t h767 ?_
        refine Rn.g ?_
        refine Ro.t 1 ?_
        refine Ro.d (mkE [(2, (V.bool false))] 100) ?_
        refine Run.ret ?_
        have h := Option.some.inj h; subst h
        show RR59 L _ _ _
        exact ⟨(V.bool false), (by kernel_rfl), (by kernel_rfl), hp⟩
      · rw [ite_f h767] at h; refine Rn.f h767 ?_
        refine Run.skip ?_
        refine Run.clrE (ts := [2, 8, 9, 85, 86, 87, 88, 89, 90, 91, 92, 93, 94, 95, 96, 97, 98, 99, 100, 101]) (b := (.rgn i59r54)) (Q := (stp [2, 8, 9, 84, 85, 86, 87, 88, 89, 90, 91, 92, 93, 94, 95, 96, 97, 98, 99, 100, 101, 102] (I59_3 x0 L) (RR59 L) (J59_3 x0 L) t)) (e' := (mkE [(1, (V.fp (E_Graph.e x0))), (79, (Zl (EI .i64) x0.fParams)), (0, (i6 (ln x0.fParams))), (0, (i6 y723))] 19)) (by kernel_rfl) ?_
        refine Run.rgn ?_
        refine Ro.t 2 ?_
        refine RunO.nil ?_
        have h := Option.some.inj h; subst h
        show I59_3 x0 L _ _ _
        exact ⟨(by kernel_rfl), hp⟩
    · subst h762; rw [if_neg (by decide)] at h
      refine RunO.c1 (by kernel_rfl) (by kernel_rfl) (c34 h761 _) ?_
      refine Ro.t 9 ?_
      refine Ro.d (mkE [(1, (V.fp (E_Graph.e x0))), (79, (Zl (EI .i64) x0.fParams)), (0, (i6 (ln x0.fParams))), (0, (i6 y723)), (17, (V.bool true))] 1) ?_
      refine Run.condT (by kernel_rfl) ?_
      refine Rn.g ?_
      refine Ro.t 1 ?_
      refine Ro.d (mkE [(2, (V.bool false))] 100) ?_
      refine Run.ret ?_
      have h := Option.some.inj h; subst h
      show RR59 L _ _ _
      exact ⟨(V.bool false), (by kernel_rfl), (by kernel_rfl), hp⟩
  · rw [ite_f h747] at h; refine Rn.f h747 ?_
    refine Run.exit ?_
    have h := Option.some.inj h; subst h
    show J59_3 x0 L () _ _ _
    exact ⟨rfl, (by kernel_rfl), hp⟩

def F59 (x0 : T_Graph) : Option Bool :=
  if (decide (((List.length x0.fBlocks : Nat) : Int) < (1 : Int))) then
    some false
  else
    if (decide (((List.length x0.fBlocks : Nat) : Int) > (1048576 : Int))) then
      some false
    else
      if (decide (((List.length x0.fVars : Nat) : Int) > (1048576 : Int))) then
        some false
      else
        if (decide (((List.length x0.fArrays : Nat) : Int) > (1048576 : Int))) then
          some false
        else
          if (decide (((List.length x0.fParams : Nat) : Int) > (8 : Int))) then
            some false
          else
            (F78 x0.fResult).bind fun y604 =>
            if (!y604) then
              some false
            else
              (iter (fun s : (Int) => F59_1_b x0 s) FUEL ((0 : Int))).bind fun o => match o with
              | .ret r => some r
              | .go () =>
                (iter (fun s : (Int) => F59_2_b x0 s) FUEL ((0 : Int))).bind fun o => match o with
                | .ret r => some r
                | .go () =>
                  (iter (fun s : (Int) => F59_3_b x0 s) FUEL ((0 : Int))).bind fun o => match o with
                  | .ret r => some r
                  | .go () =>
                    some true

theorem w59 {x0 : T_Graph} {r : Bool} (h : F59 x0 = some r) {H : Heap} {L : List Ob} (hp : HP H (L)) : Fn T 59 [(E_Graph.e x0)] H (Q59 L r) := by
  refine Fn.enterE t59 (e0 := (mkE [(0, (E_Graph.e x0))] 102)) (by kernel_rfl) ?_
  show Run T (.clr [] i59n68) _ _ (finE none [2] (Q59 L r))
  refine Rn.k (mkE [(0, (E_Graph.e x0))] 102) ?_
  unfold F59 at h
  refine Rn.g ?_
  refine Ro.t 2 ?_
  refine Ro.d (mkE [(1, (V.fp (E_Graph.e x0)))] 101) ?_
  refine Rn.g ?_
  refine Ro.t 1 ?_
  refine Ro.d (mkE [(1, (V.fp (E_Graph.e x0))), (1, (V.fn 78 []))] 99) ?_
  refine Run.seq ?_
  refine Rn.g ?_
  refine Ro.t 2 ?_
  refine Ro.p (len_fz E_Block x0.fBlocks) ?_
  rcases tf (decide ((ln x0.fBlocks) < (1 : Int))) with h599 | h599
  · rw [ite_t h599] at h; refine Ro.p (bool_of h599) ?_
    refine Ro.t 31 ?_
    refine Ro.d (mkE [(1, (V.fp (E_Graph.e x0))), (1, (V.fn 78 [])), (40, (V.bool true))] 58) ?_
    refine Run.condT (by kernel_rfl) ?_
    refine Rn.g ?_
    refine Ro.t 1 ?_
    refine Ro.d (mkE [(2, (V.bool false))] 100) ?_
    refine Run.ret ?_
    have h := Option.some.inj h; subst h
    exact ⟨(V.bool false), (by kernel_rfl), (by kernel_rfl), hp⟩
  · rw [ite_f h599] at h; refine Ro.p (bool_of h599) ?_
    refine Ro.t 3 ?_
    refine Ro.p (len_fz E_Block x0.fBlocks) ?_
    rcases tf (decide ((ln x0.fBlocks) > (1048576 : Int))) with h600 | h600
    · rw [ite_t h600] at h; refine Ro.p (bool_of h600) ?_
      refine Ro.t 26 ?_
      refine Ro.d (mkE [(1, (V.fp (E_Graph.e x0))), (1, (V.fn 78 [])), (40, (V.bool true))] 58) ?_
      refine Run.condT (by kernel_rfl) ?_
      refine Rn.g ?_
      refine Ro.t 1 ?_
      refine Ro.d (mkE [(2, (V.bool false))] 100) ?_
      refine Run.ret ?_
      have h := Option.some.inj h; subst h
      exact ⟨(V.bool false), (by kernel_rfl), (by kernel_rfl), hp⟩
    · rw [ite_f h600] at h; refine Ro.p (bool_of h600) ?_
      refine Ro.t 4 ?_
      refine Ro.p (len_fz (EI .u8) x0.fVars) ?_
      rcases tf (decide ((ln x0.fVars) > (1048576 : Int))) with h601 | h601
      · rw [ite_t h601] at h; refine Ro.p (bool_of h601) ?_
        refine Ro.t 20 ?_
        refine Ro.d (mkE [(1, (V.fp (E_Graph.e x0))), (1, (V.fn 78 [])), (40, (V.bool true))] 58) ?_
        refine Run.condT (by kernel_rfl) ?_
        refine Rn.g ?_
        refine Ro.t 1 ?_
        refine Ro.d (mkE [(2, (V.bool false))] 100) ?_
        refine Run.ret ?_
        have h := Option.some.inj h; subst h
        exact ⟨(V.bool false), (by kernel_rfl), (by kernel_rfl), hp⟩
      · rw [ite_f h601] at h; refine Ro.p (bool_of h601) ?_
        refine Ro.t 4 ?_
        refine Ro.p (len_fz E_Array x0.fArrays) ?_
        rcases tf (decide ((ln x0.fArrays) > (1048576 : Int))) with h602 | h602
        · rw [ite_t h602] at h; refine Ro.p (bool_of h602) ?_
          refine Ro.t 14 ?_
          refine Ro.d (mkE [(1, (V.fp (E_Graph.e x0))), (1, (V.fn 78 [])), (40, (V.bool true))] 58) ?_
          refine Run.condT (by kernel_rfl) ?_
          refine Rn.g ?_
          refine Ro.t 1 ?_
          refine Ro.d (mkE [(2, (V.bool false))] 100) ?_
          refine Run.ret ?_
          have h := Option.some.inj h; subst h
          exact ⟨(V.bool false), (by kernel_rfl), (by kernel_rfl), hp⟩
        · rw [ite_f h602] at h; refine Ro.p (bool_of h602) ?_
          refine Ro.t 4 ?_
          refine Ro.p (len_fz (EI .i64) x0.fParams) ?_
          rcases tf (decide ((ln x0.fParams) > (8 : Int))) with h603 | h603
          · rw [ite_t h603] at h; refine Ro.p (bool_of h603) ?_
            refine Ro.t 8 ?_
            refine Ro.d (mkE [(1, (V.fp (E_Graph.e x0))), (1, (V.fn 78 [])), (40, (V.bool true))] 58) ?_
            refine Run.condT (by kernel_rfl) ?_
            refine Rn.g ?_
            refine Ro.t 1 ?_
            refine Ro.d (mkE [(2, (V.bool false))] 100) ?_
            refine Run.ret ?_
            have h := Option.some.inj h; subst h
            exact ⟨(V.bool false), (by kernel_rfl), (by kernel_rfl), hp⟩
          · rw [ite_f h603] at h; refine Ro.p (bool_of h603) ?_
            refine Ro.t 5 ?_
            obtain ⟨y604, h605, h⟩ := bind_some h
            refine RunO.h1 (n := 78) (caps := []) (us := [(V.int .u8 x0.fResult)]) (by kernel_rfl) (by kernel_rfl) (by kernel_rfl) ((w78 h605 hp).mono ?_)
            rintro _ H ⟨rfl, hp⟩
            have hp : HP H (L) := hp
            refine Ro.t 2 ?_
            refine Ro.d (mkE [(1, (V.fp (E_Graph.e x0))), (1, (V.fn 78 [])), (40, (V.bool (!y604)))] 58) ?_
            rcases tf (!y604) with h606 | h606
            · rw [ite_t h606] at h; refine Rn.t h606 ?_
              refine Rn.g ?_
              refine Ro.t 1 ?_
              refine Ro.d (mkE [(2, (V.bool false))] 100) ?_
              refine Run.ret ?_
              have h := Option.some.inj h; subst h
              exact ⟨(V.bool false), (by kernel_rfl), (by kernel_rfl), hp⟩
            · rw [ite_f h606] at h; refine Rn.f h606 ?_
              refine Run.skip ?_
              refine Rn.c (mkE [(1, (V.fp (E_Graph.e x0))), (1, (V.fn 78 []))] 99) ?_
              refine Run.seq ?_
              refine Rn.g ?_
              refine Ro.t 2 ?_
              refine Ro.p (len_fz (EI .u8) x0.fVars) ?_
              refine Ro.t 1 ?_
              refine Ro.d (mkE [(1, (V.fp (E_Graph.e x0))), (1, (V.fn 78 [])), (42, (Zl (EI .u8) x0.fVars)), (0, (i6 (ln x0.fVars))), (0, (i6 (0 : Int)))] 54) ?_
              refine Run.block ?_
              obtain ⟨o, h644, h⟩ := bind_some h
              refine (Run.iter (I := I59_1 x0 L) (RR := RR59 L) (J := J59_1 x0 L) (fun s e h' t hI hf => ?_) FUEL h644 (by exact ⟨(by kernel_rfl), hp⟩)).mono ?_
              · obtain ⟨rfl, hp⟩ := hI; exact w59_1_b hf hp
              · rintro X e' H hq
                cases o with
                | ret r => cases X <;> first | exact hq.elim | (cases h; exact hq)
                | go a => 
                  cases X with | nrm => exact hq.elim | ret => exact hq.elim | ext i => ?_
                  obtain ⟨rfl, he, hp⟩ := hq
                  dsimp only at h
                  refine Run.clrE (ts := [2, 5, 45, 46, 47, 48, 49, 50, 51, 52, 53, 54, 55, 56]) (b := i59n64) (Q := (finE none [2] (Q59 L r))) he ?_
                  refine Run.seq ?_
                  refine Rn.g ?_
                  refine Ro.t 2 ?_
                  refine Ro.p (len_fz E_Array x0.fArrays) ?_
                  refine Ro.t 1 ?_
                  refine Ro.d (mkE [(1, (V.fp (E_Graph.e x0))), (1, (V.fn 78 [])), (54, (Zl E_Array x0.fArrays)), (0, (i6 (ln x0.fArrays))), (0, (i6 (0 : Int)))] 42) ?_
                  refine Run.block ?_
                  obtain ⟨o, h700, h⟩ := bind_some h
                  refine (Run.iter (I := I59_2 x0 L) (RR := RR59 L) (J := J59_2 x0 L) (fun s e h' t hI hf => ?_) FUEL h700 (by exact ⟨(by kernel_rfl), hp⟩)).mono ?_
                  · obtain ⟨rfl, hp⟩ := hI; exact w59_2_b hf hp
                  · rintro X e' H hq
                    cases o with
                    | ret r => cases X <;> first | exact hq.elim | (cases h; exact hq)
                    | go a => 
                      cases X with | nrm => exact hq.elim | ret => exact hq.elim | ext i => ?_
                      obtain ⟨rfl, he, hp⟩ := hq
                      dsimp only at h
                      refine Run.clrE (ts := [2, 3, 7, 57, 58, 59, 60, 61, 62, 63, 64, 65, 66, 67, 68, 69, 70, 71, 72, 73, 74, 75, 76, 77, 78, 79]) (b := i59n63) (Q := (finE none [2] (Q59 L r))) he ?_
                      refine Run.seq ?_
                      refine Rn.g ?_
                      refine Ro.t 2 ?_
                      refine Ro.p (len_fz (EI .i64) x0.fParams) ?_
                      refine Ro.t 1 ?_
                      refine Ro.d (mkE [(1, (V.fp (E_Graph.e x0))), (79, (Zl (EI .i64) x0.fParams)), (0, (i6 (ln x0.fParams))), (0, (i6 (0 : Int)))] 19) ?_
                      refine Run.block ?_
                      obtain ⟨o, h768, h⟩ := bind_some h
                      refine (Run.iter (I := I59_3 x0 L) (RR := RR59 L) (J := J59_3 x0 L) (fun s e h' t hI hf => ?_) FUEL h768 (by exact ⟨(by kernel_rfl), hp⟩)).mono ?_
                      · obtain ⟨rfl, hp⟩ := hI; exact w59_3_b hf hp
                      · rintro X e' H hq
                        cases o with
                        | ret r => cases X <;> first | exact hq.elim | (cases h; exact hq)
                        | go a => 
                          cases X with | nrm => exact hq.elim | ret => exact hq.elim | ext i => ?_
                          obtain ⟨rfl, he, hp⟩ := hq
                          dsimp only at h
                          refine Run.clrE (ts := [1, 2, 8, 9, 80, 81, 82, 83, 84, 85, 86, 87, 88, 89, 90, 91, 92, 93, 94, 95, 96, 97, 98, 99, 100, 101, 102]) (b := i59n62) (Q := (finE none [2] (Q59 L r))) he ?_
                          refine Rn.g ?_
                          refine Ro.t 1 ?_
                          refine Ro.d (mkE [(2, (V.bool true))] 100) ?_
                          refine Run.ret ?_
                          have h := Option.some.inj h; subst h
                          exact ⟨(V.bool true), (by kernel_rfl), (by kernel_rfl), hp⟩

theorem c59 {x0 : T_Graph} {r : Bool} (h : F59 x0 = some r) (s : Bool) : Fn T 59 [(E_Graph.e x0)] [] (fun v hh => deep s hh deepN v = some (EB.e r)) := by
  refine (w59 h HP.nil).mono ?_
  rintro v hh ⟨rfl, hp⟩
  exact EB.hd s hh 38 _ (.inr rfl)

/- smithy/graph.ended$1 -/
abbrev Q80 (L : List Ob) (r : Bool) : V → Heap → Prop := fun v h => v = EB.e r ∧ HP h (L)
abbrev RR80 (L : List Ob) (r : Bool) : List V → Heap → Prop := fun e h => endR none [3] (Q80 L r) e h

def F80 (x0 : Int) (x1 : T_Graph) : Option Bool :=
  if (decide (x0 > (0 : Int))) then
    some (decide (x0 < ((List.length x1.fBlocks : Nat) : Int)))
  else
    some false

theorem w80 {x0 : Int} {x1 : T_Graph} {r : Bool} (h : F80 x0 x1 = some r) {H : Heap} {L : List Ob} (hp : HP H (L)) : Fn T 80 [(i6 x0), (V.fp (E_Graph.e x1))] H (Q80 L r) := by
  refine Fn.enterE t80 (e0 := (mkE [(0, (i6 x0)), (0, (V.fp (E_Graph.e x1)))] 11)) (by kernel_rfl) ?_
  show Run T (.clr [] i80n3) _ _ (finE none [3] (Q80 L r))
  refine Rn.k (mkE [(0, (i6 x0)), (0, (V.fp (E_Graph.e x1)))] 11) ?_
  unfold F80 at h
  refine Rn.g ?_
  refine Ro.t 1 ?_
  refine Ro.d (mkE [(0, (i6 x0)), (0, (V.fp (E_Graph.e x1)))] 11) ?_
  refine Rn.g ?_
  refine Ro.t 1 ?_
  rcases tf (decide (x0 > (0 : Int))) with h784 | h784
  · rw [ite_t h784] at h; refine Ro.p (bool_of h784) ?_
    refine Ro.t 4 ?_
    refine Ro.p (len_fz E_Block x1.fBlocks) ?_
    refine Ro.t 3 ?_
    refine Ro.d (mkE [(3, (V.bool (decide (x0 < (ln x1.fBlocks)))))] 9) ?_
    refine Run.ret ?_
    have h := Option.some.inj h; subst h
    exact ⟨(V.bool (decide (x0 < (ln x1.fBlocks)))), (by kernel_rfl), (by kernel_rfl), hp⟩
  · rw [ite_f h784] at h; refine Ro.p (bool_of h784) ?_
    refine Ro.t 8 ?_
    refine Ro.d (mkE [(3, (V.bool false))] 9) ?_
    refine Run.ret ?_
    have h := Option.some.inj h; subst h
    exact ⟨(V.bool false), (by kernel_rfl), (by kernel_rfl), hp⟩

theorem c80 {x0 : Int} {x1 : T_Graph} {r : Bool} (h : F80 x0 x1 = some r) (s : Bool) : Fn T 80 [(i6 x0), (V.fp (E_Graph.e x1))] [] (fun v hh => deep s hh deepN v = some (EB.e r)) := by
  refine (w80 h HP.nil).mono ?_
  rintro v hh ⟨rfl, hp⟩
  exact EB.hd s hh 38 _ (.inr rfl)

/- smithy/graph.ended$2 -/
abbrev Q81 (L : List Ob) (r : Bool) : V → Heap → Prop := fun v h => v = EB.e r ∧ HP h (L)
abbrev RR81 (L : List Ob) (r : Bool) : List V → Heap → Prop := fun e h => endR none [4] (Q81 L r) e h

def F81 (x0 : Int) (x1 : T_Term) (x2 : T_Graph) : Option Bool :=
  (F34 x1.fArg ((List.length x2.fVars : Nat) : Int)).bind fun y802 =>
  if y802 then
    (idx x2.fVars x1.fArg).bind fun y805 =>
    some (y805 == x0)
  else
    some false

theorem w81 {x0 : Int} {x1 : T_Term} {x2 : T_Graph} {r : Bool} (h : F81 x0 x1 x2 = some r) {H : Heap} {L : List Ob} (hp : HP H (L)) : Fn T 81 [(V.int .u8 x0), (V.fp (E_Term.e x1)), (V.fp (E_Graph.e x2))] H (Q81 L r) := by
  refine Fn.enterE t81 (e0 := (mkE [(0, (V.int .u8 x0)), (0, (V.fp (E_Term.e x1))), (0, (V.fp (E_Graph.e x2)))] 18)) (by kernel_rfl) ?_
  show Run T (.clr [] i81n3) _ _ (finE none [4] (Q81 L r))
  refine Rn.k (mkE [(0, (V.int .u8 x0)), (0, (V.fp (E_Term.e x1))), (0, (V.fp (E_Graph.e x2)))] 18) ?_
  unfold F81 at h
  refine Rn.g ?_
  refine Ro.t 1 ?_
  refine Ro.d (mkE [(0, (V.int .u8 x0)), (0, (V.fp (E_Term.e x1))), (0, (V.fp (E_Graph.e x2)))] 18) ?_
  refine Rn.g ?_
  refine Ro.t 4 ?_
  refine Ro.p (len_fz (EI .u8) x2.fVars) ?_
  obtain ⟨y802, h803, h⟩ := bind_some h
  rcases tf y802 with h804 | h804
  · subst h804; rw [if_pos rfl] at h
    refine RunO.c1 (by kernel_rfl) (by kernel_rfl) (c34 h803 _) ?_
    refine Ro.t 5 ?_
    obtain ⟨y805, h806, h⟩ := bind_some h
    refine Ro.p (idx_fz (EI .u8) .i64 h806) ?_
    refine Ro.t 5 ?_
    refine Ro.d (mkE [(4, (V.bool (y805 == x0)))] 16) ?_
    refine Run.ret ?_
    have h := Option.some.inj h; subst h
    exact ⟨(V.bool (y805 == x0)), (by kernel_rfl), (by kernel_rfl), hp⟩
  · subst h804; rw [if_neg (by decide)] at h
    refine RunO.c1 (by kernel_rfl) (by kernel_rfl) (c34 h803 _) ?_
    refine Ro.t 11 ?_
    refine Ro.d (mkE [(4, (V.bool false))] 16) ?_
    refine Run.ret ?_
    have h := Option.some.inj h; subst h
    exact ⟨(V.bool false), (by kernel_rfl), (by kernel_rfl), hp⟩

theorem c81 {x0 : Int} {x1 : T_Term} {x2 : T_Graph} {r : Bool} (h : F81 x0 x1 x2 = some r) (s : Bool) : Fn T 81 [(V.int .u8 x0), (V.fp (E_Term.e x1)), (V.fp (E_Graph.e x2))] [] (fun v hh => deep s hh deepN v = some (EB.e r)) := by
  refine (w81 h HP.nil).mono ?_
  rintro v hh ⟨rfl, hp⟩
  exact EB.hd s hh 38 _ (.inr rfl)

/- smithy/graph.ended -/
abbrev Q60 (L : List Ob) (r : Bool) : V → Heap → Prop := fun v h => v = EB.e r ∧ HP h (L)
abbrev RR60 (L : List Ob) (r : Bool) : List V → Heap → Prop := fun e h => endR none [4] (Q60 L r) e h

def F60 (x0 : T_Graph) (x1 : T_Term) : Option Bool :=
  if (x1.fKind == (1 : Int)) then
    (F80 x1.fTo.a0 x0).bind fun y870 =>
    if y870 then
      if (x1.fTo.a1 == (0 : Int)) then
        if (x1.fArg == (0 : Int)) then
          some (x1.fTrap == (0 : Int))
        else
          some false
      else
        some false
    else
      some false
  else
    if (x1.fKind == (2 : Int)) then
      (F80 x1.fTo.a0 x0).bind fun y876 =>
      if y876 then
        (F80 x1.fTo.a1 x0).bind fun y879 =>
        if y879 then
          (F81 (1 : Int) x1 x0).bind fun y882 =>
          if y882 then
            some (x1.fTrap == (0 : Int))
          else
            some false
        else
          some false
      else
        some false
    else
      if (x1.fKind == (3 : Int)) then
        (F81 x0.fResult x1 x0).bind fun y886 =>
        if y886 then
          if (decide (x1.fTo = (⟨(0 : Int), (0 : Int)⟩ : T_2int))) then
            some (x1.fTrap == (0 : Int))
          else
            some false
        else
          some false
      else
        if (x1.fKind == (4 : Int)) then
          if (decide (x1.fTrap ≥ (1 : Int))) then
            if (decide (x1.fTrap ≤ (3 : Int))) then
              if (x1.fArg == (0 : Int)) then
                some (decide (x1.fTo = (⟨(0 : Int), (0 : Int)⟩ : T_2int)))
              else
                some false
            else
              some false
          else
            some false
        else
          some false

theorem w60 {x0 : T_Graph} {x1 : T_Term} {r : Bool} (h : F60 x0 x1 = some r) {H : Heap} {L : List Ob} (hp : HP H (L)) : Fn T 60 [(E_Graph.e x0), (E_Term.e x1)] H (Q60 L r) := by
  refine Fn.enterE t60 (e0 := (mkE [(0, (E_Graph.e x0)), (0, (E_Term.e x1))] 93)) (by kernel_rfl) ?_
  show Run T (.clr [] i60n31) _ _ (finE none [4] (Q60 L r))
  refine Rn.k (mkE [(0, (E_Graph.e x0)), (0, (E_Term.e x1))] 93) ?_
  unfold F60 at h
  refine Rn.g ?_
  refine Ro.t 3 ?_
  refine Ro.d (mkE [(2, (V.fp (E_Graph.e x0))), (0, (V.fp (E_Term.e x1)))] 91) ?_
  refine Rn.g ?_
  refine Ro.t 2 ?_
  refine Ro.d (mkE [(2, (V.fp (E_Graph.e x0))), (0, (V.fp (E_Term.e x1))), (1, (V.fn 80 [(V.fp (E_Graph.e x0))]))] 89) ?_
  refine Rn.g ?_
  refine Ro.t 2 ?_
  refine Ro.d (mkE [(2, (V.fp (E_Graph.e x0))), (0, (V.fp (E_Term.e x1))), (1, (V.fn 80 [(V.fp (E_Graph.e x0))])), (0, (V.fn 81 [(V.fp (E_Term.e x1)), (V.fp (E_Graph.e x0))]))] 88) ?_
  refine Run.seq ?_
  refine Rn.g ?_
  refine Ro.t 2 ?_
  refine Ro.d (mkE [(2, (V.fp (E_Graph.e x0))), (0, (V.fp (E_Term.e x1))), (1, (V.fn 80 [(V.fp (E_Graph.e x0))])), (0, (V.fn 81 [(V.fp (E_Term.e x1)), (V.fp (E_Graph.e x0))])), (3, (V.int .u8 x1.fKind))] 84) ?_
  refine Run.block ?_
  refine Rn.g ?_
  refine Ro.t 2 ?_
  refine Ro.d (mkE [(2, (V.fp (E_Graph.e x0))), (0, (V.fp (E_Term.e x1))), (1, (V.fn 80 [(V.fp (E_Graph.e x0))])), (0, (V.fn 81 [(V.fp (E_Term.e x1)), (V.fp (E_Graph.e x0))])), (3, (V.int .u8 x1.fKind)), (0, (V.bool (x1.fKind == (1 : Int))))] 83) ?_
  rcases tf (x1.fKind == (1 : Int)) with h869 | h869
  · rw [ite_t h869] at h; refine Rn.t h869 ?_
    refine Rn.g ?_
    refine Ro.t 4 ?_
    obtain ⟨y870, h871, h⟩ := bind_some h
    rcases tf y870 with h872 | h872
    · subst h872; rw [if_pos rfl] at h
      refine RunO.h1 (n := 80) (caps := [(V.fp (E_Graph.e x0))]) (us := [(i6 x1.fTo.a0), (V.fp (E_Graph.e x0))]) (by kernel_rfl) (by kernel_rfl) (by kernel_rfl) ((w80 h871 hp).mono ?_)
      rintro _ H ⟨rfl, hp⟩
      have hp : HP H (L) := hp
      refine Ro.t 4 ?_
      rcases tf (x1.fTo.a1 == (0 : Int)) with h873 | h873
      · rw [ite_t h873] at h; refine Ro.p (bool_of h873) ?_
        refine Ro.t 4 ?_
        rcases tf (x1.fArg == (0 : Int)) with h874 | h874
        · rw [ite_t h874] at h; refine Ro.p (bool_of h874) ?_
          refine Ro.t 7 ?_
          refine Ro.d (mkE [(4, (V.bool (x1.fTrap == (0 : Int))))] 90) ?_
          refine Run.ret ?_
          have h := Option.some.inj h; subst h
          exact ⟨(V.bool (x1.fTrap == (0 : Int))), (by kernel_rfl), (by kernel_rfl), hp⟩
        · rw [ite_f h874] at h; refine Ro.p (bool_of h874) ?_
          refine Ro.t 7 ?_
          refine Ro.d (mkE [(4, (V.bool false))] 90) ?_
          refine Run.ret ?_
          have h := Option.some.inj h; subst h
          exact ⟨(V.bool false), (by kernel_rfl), (by kernel_rfl), hp⟩
      · rw [ite_f h873] at h; refine Ro.p (bool_of h873) ?_
        refine Ro.t 12 ?_
        refine Ro.d (mkE [(4, (V.bool false))] 90) ?_
        refine Run.ret ?_
        have h := Option.some.inj h; subst h
        exact ⟨(V.bool false), (by kernel_rfl), (by kernel_rfl), hp⟩
    · subst h872; rw [if_neg (by decide)] at h
      refine RunO.h1 (n := 80) (caps := [(V.fp (E_Graph.e x0))]) (us := [(i6 x1.fTo.a0), (V.fp (E_Graph.e x0))]) (by kernel_rfl) (by kernel_rfl) (by kernel_rfl) ((w80 h871 hp).mono ?_)
      rintro _ H ⟨rfl, hp⟩
      have hp : HP H (L) := hp
      refine Ro.t 17 ?_
      refine Ro.d (mkE [(4, (V.bool false))] 90) ?_
      refine Run.ret ?_
      have h := Option.some.inj h; subst h
      exact ⟨(V.bool false), (by kernel_rfl), (by kernel_rfl), hp⟩
  · rw [ite_f h869] at h; refine Rn.f h869 ?_
    refine Rn.g ?_
    refine Ro.t 2 ?_
    refine Ro.d (mkE [(2, (V.fp (E_Graph.e x0))), (0, (V.fp (E_Term.e x1))), (1, (V.fn 80 [(V.fp (E_Graph.e x0))])), (0, (V.fn 81 [(V.fp (E_Term.e x1)), (V.fp (E_Graph.e x0))])), (3, (V.int .u8 x1.fKind)), (23, (V.bool (x1.fKind == (2 : Int))))] 60) ?_
    rcases tf (x1.fKind == (2 : Int)) with h875 | h875
    · rw [ite_t h875] at h; refine Rn.t h875 ?_
      refine Rn.g ?_
      refine Ro.t 4 ?_
      obtain ⟨y876, h877, h⟩ := bind_some h
      rcases tf y876 with h878 | h878
      · subst h878; rw [if_pos rfl] at h
        refine RunO.h1 (n := 80) (caps := [(V.fp (E_Graph.e x0))]) (us := [(i6 x1.fTo.a0), (V.fp (E_Graph.e x0))]) (by kernel_rfl) (by kernel_rfl) (by kernel_rfl) ((w80 h877 hp).mono ?_)
        rintro _ H ⟨rfl, hp⟩
        have hp : HP H (L) := hp
        refine Ro.t 5 ?_
        obtain ⟨y879, h880, h⟩ := bind_some h
        rcases tf y879 with h881 | h881
        · subst h881; rw [if_pos rfl] at h
          refine RunO.h1 (n := 80) (caps := [(V.fp (E_Graph.e x0))]) (us := [(i6 x1.fTo.a1), (V.fp (E_Graph.e x0))]) (by kernel_rfl) (by kernel_rfl) (by kernel_rfl) ((w80 h880 hp).mono ?_)
          rintro _ H ⟨rfl, hp⟩
          have hp : HP H (L) := hp
          refine Ro.t 3 ?_
          obtain ⟨y882, h883, h⟩ := bind_some h
          rcases tf y882 with h884 | h884
          · subst h884; rw [if_pos rfl] at h
            refine RunO.h1 (n := 81) (caps := [(V.fp (E_Term.e x1)), (V.fp (E_Graph.e x0))]) (us := [(V.int .u8 (1 : Int)), (V.fp (E_Term.e x1)), (V.fp (E_Graph.e x0))]) (by kernel_rfl) (by kernel_rfl) (by kernel_rfl) ((w81 h883 hp).mono ?_)
            rintro _ H ⟨rfl, hp⟩
            have hp : HP H (L) := hp
            refine Ro.t 7 ?_
            refine Ro.d (mkE [(4, (V.bool (x1.fTrap == (0 : Int))))] 90) ?_
            refine Run.ret ?_
            have h := Option.some.inj h; subst h
            exact ⟨(V.bool (x1.fTrap == (0 : Int))), (by kernel_rfl), (by kernel_rfl), hp⟩
          · subst h884; rw [if_neg (by decide)] at h
            refine RunO.h1 (n := 81) (caps := [(V.fp (E_Term.e x1)), (V.fp (E_Graph.e x0))]) (us := [(V.int .u8 (1 : Int)), (V.fp (E_Term.e x1)), (V.fp (E_Graph.e x0))]) (by kernel_rfl) (by kernel_rfl) (by kernel_rfl) ((w81 h883 hp).mono ?_)
            rintro _ H ⟨rfl, hp⟩
            have hp : HP H (L) := hp
            refine Ro.t 7 ?_
            refine Ro.d (mkE [(4, (V.bool false))] 90) ?_
            refine Run.ret ?_
            have h := Option.some.inj h; subst h
            exact ⟨(V.bool false), (by kernel_rfl), (by kernel_rfl), hp⟩
        · subst h881; rw [if_neg (by decide)] at h
          refine RunO.h1 (n := 80) (caps := [(V.fp (E_Graph.e x0))]) (us := [(i6 x1.fTo.a1), (V.fp (E_Graph.e x0))]) (by kernel_rfl) (by kernel_rfl) (by kernel_rfl) ((w80 h880 hp).mono ?_)
          rintro _ H ⟨rfl, hp⟩
          have hp : HP H (L) := hp
          refine Ro.t 11 ?_
          refine Ro.d (mkE [(4, (V.bool false))] 90) ?_
          refine Run.ret ?_
          have h := Option.some.inj h; subst h
          exact ⟨(V.bool false), (by kernel_rfl), (by kernel_rfl), hp⟩
      · subst h878; rw [if_neg (by decide)] at h
        refine RunO.h1 (n := 80) (caps := [(V.fp (E_Graph.e x0))]) (us := [(i6 x1.fTo.a0), (V.fp (E_Graph.e x0))]) (by kernel_rfl) (by kernel_rfl) (by kernel_rfl) ((w80 h877 hp).mono ?_)
        rintro _ H ⟨rfl, hp⟩
        have hp : HP H (L) := hp
        refine Ro.t 17 ?_
        refine Ro.d (mkE [(4, (V.bool false))] 90) ?_
        refine Run.ret ?_
        have h := Option.some.inj h; subst h
        exact ⟨(V.bool false), (by kernel_rfl), (by kernel_rfl), hp⟩
    · rw [ite_f h875] at h; refine Rn.f h875 ?_
      refine Rn.g ?_
      refine Ro.t 2 ?_
      refine Ro.d (mkE [(2, (V.fp (E_Graph.e x0))), (0, (V.fp (E_Term.e x1))), (2, (V.fn 81 [(V.fp (E_Term.e x1)), (V.fp (E_Graph.e x0))])), (3, (V.int .u8 x1.fKind)), (46, (V.bool (x1.fKind == (3 : Int))))] 37) ?_
      rcases tf (x1.fKind == (3 : Int)) with h885 | h885
      · rw [ite_t h885] at h; refine Rn.t h885 ?_
        refine Rn.g ?_
        refine Ro.t 3 ?_
        obtain ⟨y886, h887, h⟩ := bind_some h
        rcases tf y886 with h888 | h888
        · subst h888; rw [if_pos rfl] at h
          refine RunO.h1 (n := 81) (caps := [(V.fp (E_Term.e x1)), (V.fp (E_Graph.e x0))]) (us := [(V.int .u8 x0.fResult), (V.fp (E_Term.e x1)), (V.fp (E_Graph.e x0))]) (by kernel_rfl) (by kernel_rfl) (by kernel_rfl) ((w81 h887 hp).mono ?_)
          rintro _ H ⟨rfl, hp⟩
          have hp : HP H (L) := hp
          refine Ro.t 4 ?_
          rcases tf (decide (x1.fTo = (⟨(0 : Int), (0 : Int)⟩ : T_2int))) with h889 | h889
          · rw [ite_t h889] at h; refine Ro.p (Eq.trans (eqs_2int false x1.fTo (⟨(0 : Int), (0 : Int)⟩ : T_2int)) (bool_of h889)) ?_
            refine Ro.t 7 ?_
            refine Ro.d (mkE [(4, (V.bool (x1.fTrap == (0 : Int))))] 90) ?_
            refine Run.ret ?_
            have h := Option.some.inj h; subst h
            exact ⟨(V.bool (x1.fTrap == (0 : Int))), (by kernel_rfl), (by kernel_rfl), hp⟩
          · rw [ite_f h889] at h; refine Ro.p (Eq.trans (eqs_2int false x1.fTo (⟨(0 : Int), (0 : Int)⟩ : T_2int)) (bool_of h889)) ?_
            refine Ro.t 7 ?_
            refine Ro.d (mkE [(4, (V.bool false))] 90) ?_
            refine Run.ret ?_
            have h := Option.some.inj h; subst h
            exact ⟨(V.bool false), (by kernel_rfl), (by kernel_rfl), hp⟩
        · subst h888; rw [if_neg (by decide)] at h
          refine RunO.h1 (n := 81) (caps := [(V.fp (E_Term.e x1)), (V.fp (E_Graph.e x0))]) (us := [(V.int .u8 x0.fResult), (V.fp (E_Term.e x1)), (V.fp (E_Graph.e x0))]) (by kernel_rfl) (by kernel_rfl) (by kernel_rfl) ((w81 h887 hp).mono ?_)
          rintro _ H ⟨rfl, hp⟩
          have hp : HP H (L) := hp
          refine Ro.t 12 ?_
          refine Ro.d (mkE [(4, (V.bool false))] 90) ?_
          refine Run.ret ?_
          have h := Option.some.inj h; subst h
          exact ⟨(V.bool false), (by kernel_rfl), (by kernel_rfl), hp⟩
      · rw [ite_f h885] at h; refine Rn.f h885 ?_
        refine Rn.g ?_
        refine Ro.t 2 ?_
        refine Ro.d (mkE [(3, (V.fp (E_Term.e x1))), (70, (V.bool (x1.fKind == (4 : Int))))] 20) ?_
        rcases tf (x1.fKind == (4 : Int)) with h890 | h890
        · rw [ite_t h890] at h; refine Rn.t h890 ?_
          refine Rn.g ?_
          refine Ro.t 2 ?_
          rcases tf (decide (x1.fTrap ≥ (1 : Int))) with h891 | h891
          · rw [ite_t h891] at h; refine Ro.p (bool_of h891) ?_
            refine Ro.t 3 ?_
            rcases tf (decide (x1.fTrap ≤ (3 : Int))) with h892 | h892
            · rw [ite_t h892] at h; refine Ro.p (bool_of h892) ?_
              refine Ro.t 4 ?_
              rcases tf (x1.fArg == (0 : Int)) with h893 | h893
              · rw [ite_t h893] at h; refine Ro.p (bool_of h893) ?_
                refine Ro.t 5 ?_
                refine Ro.p (eqs_2int false x1.fTo (⟨(0 : Int), (0 : Int)⟩ : T_2int)) ?_
                refine Ro.t 2 ?_
                refine Ro.d (mkE [(4, (V.bool (decide (x1.fTo = (⟨(0 : Int), (0 : Int)⟩ : T_2int)))))] 90) ?_
                refine Run.ret ?_
                have h := Option.some.inj h; subst h
                exact ⟨(V.bool (decide (x1.fTo = (⟨(0 : Int), (0 : Int)⟩ : T_2int)))), (by kernel_rfl), (by kernel_rfl), hp⟩
              · rw [ite_f h893] at h; refine Ro.p (bool_of h893) ?_
                refine Ro.t 8 ?_
                refine Ro.d (mkE [(4, (V.bool false))] 90) ?_
                refine Run.ret ?_
                have h := Option.some.inj h; subst h
                exact ⟨(V.bool false), (by kernel_rfl), (by kernel_rfl), hp⟩
            · rw [ite_f h892] at h; refine Ro.p (bool_of h892) ?_
              refine Ro.t 13 ?_
              refine Ro.d (mkE [(4, (V.bool false))] 90) ?_
              refine Run.ret ?_
              have h := Option.some.inj h; subst h
              exact ⟨(V.bool false), (by kernel_rfl), (by kernel_rfl), hp⟩
          · rw [ite_f h891] at h; refine Ro.p (bool_of h891) ?_
            refine Ro.t 17 ?_
            refine Ro.d (mkE [(4, (V.bool false))] 90) ?_
            refine Run.ret ?_
            have h := Option.some.inj h; subst h
            exact ⟨(V.bool false), (by kernel_rfl), (by kernel_rfl), hp⟩
        · rw [ite_f h890] at h; refine Rn.f h890 ?_
          refine Run.skip ?_
          refine Rn.c (mkE [] 95) ?_
          refine Rn.g ?_
          refine Ro.t 1 ?_
          refine Ro.d (mkE [(4, (V.bool false))] 90) ?_
          refine Run.ret ?_
          have h := Option.some.inj h; subst h
          exact ⟨(V.bool false), (by kernel_rfl), (by kernel_rfl), hp⟩

theorem c60 {x0 : T_Graph} {x1 : T_Term} {r : Bool} (h : F60 x0 x1 = some r) (s : Bool) : Fn T 60 [(E_Graph.e x0), (E_Term.e x1)] [] (fun v hh => deep s hh deepN v = some (EB.e r)) := by
  refine (w60 h HP.nil).mono ?_
  rintro v hh ⟨rfl, hp⟩
  exact EB.hd s hh 38 _ (.inr rfl)

/- smithy/graph.joined -/
abbrev Q61 (L : List Ob) (r : Bool) : V → Heap → Prop := fun v h => v = EB.e r ∧ HP h (L)
abbrev RR61 (L : List Ob) (r : Bool) : List V → Heap → Prop := fun e h => endR none [4] (Q61 L r) e h

abbrev I61_1 (x0 : T_Block) (x1 : Int) (L : List Ob) : ((List Int) × Int) → List V → Heap → Prop := fun s e h => ∃ o1019 : Option (Nat × Nat), ∃ q1020 : List V, e = (mkE [(1, (i6 x1)), (3, (slv (EI .i64).z (EI .i64).ag (List.length s.1) o1019)), (3, (Zl E_Ins x0.fIns)), (0, (i6 (ln x0.fIns))), (0, (i6 s.2))] 30) ∧ HP h ((o1019, List.flatMap (EI .i64).c s.1 ++ q1020) :: L)

abbrev J61_1 (x0 : T_Block) (x1 : Int) (L : List Ob) : Unit → Nat → List V → Heap → Prop := fun a i e h => i = 0 ∧ clrEnv [1, 2, 4, 5, 6, 7, 8, 9, 10, 11, 12, 13, 14, 15, 16, 17, 18, 19, 20, 21, 22, 23, 24, 25, 26, 27, 28, 29, 30, 31, 32, 33, 34, 35, 36, 37, 38, 39, 40, 41] e = (mkE [] 42) ∧ HP h (L)

def F61_j1 (x0 : T_Block) (x1 : Int) (y1021 : Int) (l1083 : (List Int)) : Option (Stp ((List Int) × Int) Bool Unit) :=
  some (.next (l1083, (IntKind.i64.wrap (y1021 + (1 : Int)))))

theorem w61_j1 {x0 : T_Block} {x1 : Int} {y1021 : Int} {l1083 : (List Int)} {t : (Stp ((List Int) × Int) Bool Unit)} (h : F61_j1 x0 x1 y1021 l1083 = some t) {o1084 : Option (Nat × Nat)} {q1085 : List V} {H : Heap} {L : List Ob} (hp : HP H ((o1084, List.flatMap (EI .i64).c l1083 ++ q1085) :: L)) :
    Run T (.rgn i61r19) (mkE [(1, (i6 x1)), (3, (slv (EI .i64).z (EI .i64).ag (List.length l1083) o1084)), (3, (Zl E_Ins x0.fIns)), (0, (i6 (ln x0.fIns))), (0, (i6 y1021))] 30) H (stp [4, 6, 7, 12, 13, 14, 15, 16, 17, 18, 19, 20, 21, 22, 23, 24, 25, 26, 27, 28, 29, 30, 31, 32, 33, 34, 35, 36, 37, 38, 39, 40, 41] (I61_1 x0 x1 L) (RR61 L) (J61_1 x0 x1 L) t) := by
  unfold F61_j1 at h
  refine Run.rgn ?_
  refine Ro.t 2 ?_
  refine RunO.nil ?_
  have h := Option.some.inj h; subst h
  show I61_1 x0 x1 L _ _ _
  exact ⟨o1084, q1085, (by kernel_rfl), hp⟩

def F61_1_b (x0 : T_Block) (x1 : Int) (l1018 : (List Int)) (y1021 : Int) : Option (Stp ((List Int) × Int) Bool Unit) :=
  if (decide (y1021 < ((List.length x0.fIns : Nat) : Int))) then
    (idx x0.fIns y1021).bind fun y1086 =>
    if (y1086.fKind != (1 : Int)) then
      F61_j1 x0 x1 y1021 (l1018)
    else
      if (y1021 != ((List.length l1018 : Nat) : Int)) then
        some (.ret false)
      else
        if (((List.length y1086.fArgs : Nat) : Int) != x1) then
          some (.ret false)
        else
          (F79 l1018 y1086.fDst).bind fun y1098 =>
          if y1098 then
            some (.ret false)
          else
            (more 8 l1018 ([y1086.fDst] : List Int)).bind fun y1101 =>
            F61_j1 x0 x1 y1021 (y1101)
  else
    some (.go ())

theorem w61_1_b {x0 : T_Block} {x1 : Int} {l1018 : (List Int)} {y1021 : Int} {t : (Stp ((List Int) × Int) Bool Unit)} (h : F61_1_b x0 x1 l1018 y1021 = some t) {o1019 : Option (Nat × Nat)} {q1020 : List V} {H : Heap} {L : List Ob} (hp : HP H ((o1019, List.flatMap (EI .i64).c l1018 ++ q1020) :: L)) :
    Run T i61n22 (mkE [(1, (i6 x1)), (3, (slv (EI .i64).z (EI .i64).ag (List.length l1018) o1019)), (3, (Zl E_Ins x0.fIns)), (0, (i6 (ln x0.fIns))), (0, (i6 y1021))] 30) H (stp [4, 6, 7, 12, 13, 14, 15, 16, 17, 18, 19, 20, 21, 22, 23, 24, 25, 26, 27, 28, 29, 30, 31, 32, 33, 34, 35, 36, 37, 38, 39, 40, 41] (I61_1 x0 x1 L) (RR61 L) (J61_1 x0 x1 L) t) := by
  unfold F61_1_b at h
  refine Rn.g ?_
  refine Ro.t 1 ?_
  refine Ro.d (mkE [(1, (i6 x1)), (3, (slv (EI .i64).z (EI .i64).ag (List.length l1018) o1019)), (3, (Zl E_Ins x0.fIns)), (0, (i6 (ln x0.fIns))), (0, (i6 y1021)), (0, (V.bool (decide (y1021 < (ln x0.fIns)))))] 29) ?_
  refine Run.seq ?_
  rcases tf (decide (y1021 < (ln x0.fIns))) with h1064 | h1064
  · rw [ite_t h1064] at h; refine Rn.t h1064 ?_
    refine Run.skip ?_
    refine Rn.c (mkE [(1, (i6 x1)), (3, (slv (EI .i64).z (EI .i64).ag (List.length l1018) o1019)), (3, (Zl E_Ins x0.fIns)), (0, (i6 (ln x0.fIns))), (0, (i6 y1021))] 30) ?_
    refine Run.seq ?_
    refine Run.block ?_
    refine Rn.g ?_
    refine Ro.t 1 ?_
    obtain ⟨y1086, h1087, h⟩ := bind_some h
    refine Ro.p (idx_fz E_Ins .i64 h1087) ?_
    refine Ro.t 1 ?_
    refine RunO.alloc hp (by kernel_rfl) ?_
    intro b1088 H hp
    have hp : HP H ((some (b1088, 0), [(V.int .u8 (0 : Int)), (V.int .u8 (0 : Int)), (i6 (0 : Int)), (V.fz (List.map (EI .i64).e ([] : List Int))), (V.int .u64 (0 : Int)), (i6 (0 : Int))]) :: (o1019, List.flatMap (EI .i64).c l1018 ++ q1020) :: L) := hp
    refine Ro.t 1 ?_
    refine RunO.st hp (by kernel_rfl) 0 (off := 0) (v := (E_Ins.e y1086)) (cs' := [(V.int .u8 y1086.fKind), (V.int .u8 y1086.fOp), (i6 y1086.fDst), (Zl (EI .i64) y1086.fArgs), (V.int .u64 y1086.fBits), (i6 y1086.fRef)]) rfl (by kernel_rfl) (by kernel_rfl) (by kernel_rfl) ?_
    intro H hp
    refine Ro.d (mkE [(1, (i6 x1)), (3, (slv (EI .i64).z (EI .i64).ag (List.length l1018) o1019)), (0, (i6 y1021)), (0, (V.ptr b1088 0 0)), (1, (Zl E_Ins x0.fIns)), (0, (i6 (ln x0.fIns))), (0, (i6 y1021))] 30) ?_
    refine Run.seq ?_
    refine Rn.g ?_
    refine Ro.t 1 ?_
    refine Ro.p (hp.ld 0 (off := 0) (n := none) (v := (V.int .u8 y1086.fKind)) rfl (by kernel_rfl)) ?_
    refine Ro.t 1 ?_
    refine Ro.d (mkE [(1, (i6 x1)), (3, (slv (EI .i64).z (EI .i64).ag (List.length l1018) o1019)), (0, (i6 y1021)), (0, (V.ptr b1088 0 0)), (1, (Zl E_Ins x0.fIns)), (0, (i6 (ln x0.fIns))), (0, (i6 y1021)), (6, (V.bool (y1086.fKind != (1 : Int))))] 23) ?_
    rcases tf (y1086.fKind != (1 : Int)) with h1090 | h1090
    · rw [ite_t h1090] at h; refine Rn.t h1090 ?_
      refine Run.exit ?_
      refine Run.clrE (ts := [4, 6, 7, 13, 14, 15, 16, 17, 18, 19, 20, 21, 22, 23, 24, 25, 26, 27, 28, 29, 30, 31, 32, 33, 34, 35, 36, 37, 38, 39, 40]) (b := (.rgn i61r19)) (Q := (stp [4, 6, 7, 12, 13, 14, 15, 16, 17, 18, 19, 20, 21, 22, 23, 24, 25, 26, 27, 28, 29, 30, 31, 32, 33, 34, 35, 36, 37, 38, 39, 40, 41] (I61_1 x0 x1 L) (RR61 L) (J61_1 x0 x1 L) t)) (e' := (mkE [(1, (i6 x1)), (3, (slv (EI .i64).z (EI .i64).ag (List.length l1018) o1019)), (3, (Zl E_Ins x0.fIns)), (0, (i6 (ln x0.fIns))), (0, (i6 y1021))] 30)) (by kernel_rfl) ?_
      have hp := hp.del 0
      exact w61_j1 h hp
    · rw [ite_f h1090] at h; refine Rn.f h1090 ?_
      refine Run.skip ?_
      refine Rn.c (mkE [(1, (i6 x1)), (3, (slv (EI .i64).z (EI .i64).ag (List.length l1018) o1019)), (0, (i6 y1021)), (0, (V.ptr b1088 0 0)), (1, (Zl E_Ins x0.fIns)), (0, (i6 (ln x0.fIns))), (0, (i6 y1021))] 30) ?_
      refine Run.seq ?_
      refine Rn.g ?_
      refine Ro.t 2 ?_
      refine Ro.p (own_len (EI .i64) hp 1 rfl) ?_
      rcases tf (y1021 != (ln l1018)) with h1096 | h1096
      · rw [ite_t h1096] at h; refine Ro.p (bool_of h1096) ?_
        refine Ro.t 13 ?_
        refine Ro.d (mkE [(1, (i6 x1)), (3, (slv (EI .i64).z (EI .i64).ag (List.length l1018) o1019)), (1, (V.ptr b1088 0 0)), (1, (Zl E_Ins x0.fIns)), (0, (i6 (ln x0.fIns))), (0, (i6 y1021)), (23, (V.bool true))] 6) ?_
        refine Run.condT (by kernel_rfl) ?_
        refine Rn.g ?_
        refine Ro.t 1 ?_
        refine Ro.d (mkE [(4, (V.bool false))] 37) ?_
        refine Run.ret ?_
        have h := Option.some.inj h; subst h
        show RR61 L _ _ _
        have hp := hp.del 1
        have hp := hp.del 0
        exact ⟨(V.bool false), (by kernel_rfl), (by kernel_rfl), hp⟩
      · rw [ite_f h1096] at h; refine Ro.p (bool_of h1096) ?_
        refine Ro.t 2 ?_
        refine Ro.p (hp.ld 0 (off := 3) (n := none) (v := (Zl (EI .i64) y1086.fArgs)) rfl (by kernel_rfl)) ?_
        refine Ro.p (len_fz (EI .i64) y1086.fArgs) ?_
        refine Ro.t 1 ?_
        rcases tf ((ln y1086.fArgs) != x1) with h1097 | h1097
        · rw [ite_t h1097] at h; refine Ro.p (bool_of h1097) ?_
          refine Ro.t 7 ?_
          refine Ro.d (mkE [(1, (i6 x1)), (3, (slv (EI .i64).z (EI .i64).ag (List.length l1018) o1019)), (1, (V.ptr b1088 0 0)), (1, (Zl E_Ins x0.fIns)), (0, (i6 (ln x0.fIns))), (0, (i6 y1021)), (23, (V.bool true))] 6) ?_
          refine Run.condT (by kernel_rfl) ?_
          refine Rn.g ?_
          refine Ro.t 1 ?_
          refine Ro.d (mkE [(4, (V.bool false))] 37) ?_
          refine Run.ret ?_
          have h := Option.some.inj h; subst h
          show RR61 L _ _ _
          have hp := hp.del 1
          have hp := hp.del 0
          exact ⟨(V.bool false), (by kernel_rfl), (by kernel_rfl), hp⟩
        · rw [ite_f h1097] at h; refine Ro.p (bool_of h1097) ?_
          refine Ro.t 4 ?_
          refine Ro.p (hp.ld 0 (off := 2) (n := none) (v := (i6 y1086.fDst)) rfl (by kernel_rfl)) ?_
          obtain ⟨y1098, h1099, h⟩ := bind_some h
          refine RunO.c1 (by kernel_rfl) (omape (l' := [(slv (EI .i64).z (EI .i64).ag (List.length l1018) o1019), (i6 y1086.fDst)]) (by kernel_rfl) (omapc (own_deep (EI .i64) hp 1 rfl false (.inl rfl) 36) (omapc (by kernel_rfl) omapn))) (c79 h1099 _) ?_
          refine Ro.t 1 ?_
          refine Ro.d (mkE [(1, (i6 x1)), (3, (slv (EI .i64).z (EI .i64).ag (List.length l1018) o1019)), (1, (V.ptr b1088 0 0)), (1, (Zl E_Ins x0.fIns)), (0, (i6 (ln x0.fIns))), (0, (i6 y1021)), (23, (V.bool y1098))] 6) ?_
          rcases tf y1098 with h1100 | h1100
          · rw [ite_t h1100] at h; refine Rn.t h1100 ?_
            refine Rn.g ?_
            refine Ro.t 1 ?_
            refine Ro.d (mkE [(4, (V.bool false))] 37) ?_
            refine Run.ret ?_
            have h := Option.some.inj h; subst h
            show RR61 L _ _ _
            have hp := hp.del 1
            have hp := hp.del 0
            exact ⟨(V.bool false), (by kernel_rfl), (by kernel_rfl), hp⟩
          · rw [ite_f h1100] at h; refine Rn.f h1100 ?_
            refine Run.skip ?_
            refine Run.clrE (ts := [4, 6, 19, 20, 21, 22, 23, 24, 25, 26, 27, 28, 29, 30, 31, 32, 33, 34, 35]) (b := (.rgn i61r14)) (Q := (blk 1 (thn T (.clr [4, 6, 7, 13, 14, 15, 16, 17, 18, 19, 20, 21, 22, 23, 24, 25, 26, 27, 28, 29, 30, 31, 32, 33, 34, 35, 36, 37, 38, 39, 40] (.rgn i61r19)) (stp [4, 6, 7, 12, 13, 14, 15, 16, 17, 18, 19, 20, 21, 22, 23, 24, 25, 26, 27, 28, 29, 30, 31, 32, 33, 34, 35, 36, 37, 38, 39, 40, 41] (I61_1 x0 x1 L) (RR61 L) (J61_1 x0 x1 L) t)))) (e' := (mkE [(1, (i6 x1)), (3, (slv (EI .i64).z (EI .i64).ag (List.length l1018) o1019)), (1, (V.ptr b1088 0 0)), (1, (Zl E_Ins x0.fIns)), (0, (i6 (ln x0.fIns))), (0, (i6 y1021))] 30)) (by kernel_rfl) ?_
            refine Run.rgn ?_
            refine Ro.t 2 ?_
            refine Ro.p (hp.ld 0 (off := 2) (n := none) (v := (i6 y1086.fDst)) rfl (by kernel_rfl)) ?_
            refine Ro.t 1 ?_
            obtain ⟨y1101, h1102, h⟩ := bind_some h
            refine RunO.app1 (EI .i64) hp (by kernel_rfl) 1 (o := o1019) (l := l1018) (rest := q1020) (m := ([y1086.fDst] : List Int)) rfl (by kernel_rfl) (by kernel_rfl) ((EI .i64).new_fz _ ([y1086.fDst] : List Int)) (by kernel_rfl) (by kernel_rfl) h1102 ?_
            intro o1103 H hp
            have hp : HP H ((some (b1088, 0), [(V.int .u8 y1086.fKind), (V.int .u8 y1086.fOp), (i6 y1086.fDst), (Zl (EI .i64) y1086.fArgs), (V.int .u64 y1086.fBits), (i6 y1086.fRef)]) :: (o1103, List.flatMap (EI .i64).c y1101 ++ []) :: L) := hp
            refine Ro.t 1 ?_
            refine RunO.nil ?_
            refine Run.clrE (ts := [4, 6, 7, 13, 14, 15, 16, 17, 18, 19, 20, 21, 22, 23, 24, 25, 26, 27, 28, 29, 30, 31, 32, 33, 34, 35, 36, 37, 38, 39, 40]) (b := (.rgn i61r19)) (Q := (stp [4, 6, 7, 12, 13, 14, 15, 16, 17, 18, 19, 20, 21, 22, 23, 24, 25, 26, 27, 28, 29, 30, 31, 32, 33, 34, 35, 36, 37, 38, 39, 40, 41] (I61_1 x0 x1 L) (RR61 L) (J61_1 x0 x1 L) t)) (e' := (mkE [(1, (i6 x1)), (3, (slv (EI .i64).z (EI .i64).ag (List.length y1101) o1103)), (3, (Zl E_Ins x0.fIns)), (0, (i6 (ln x0.fIns))), (0, (i6 y1021))] 30)) (by kernel_rfl) ?_
            have hp := hp.del 0
            exact w61_j1 h hp
  · rw [ite_f h1064] at h; refine Rn.f h1064 ?_
    refine Run.exit ?_
    have h := Option.some.inj h; subst h
    have hp := hp.del 0
    show J61_1 x0 x1 L () _ _ _
    exact ⟨rfl, (by kernel_rfl), hp⟩

def F61 (x0 : T_Block) (x1 : Int) : Option Bool :=
  (iter (fun s : ((List Int) × Int) => F61_1_b x0 x1 s.1 s.2) FUEL ([], (0 : Int))).bind fun o => match o with
  | .ret r => some r
  | .go () =>
    some true

theorem w61 {x0 : T_Block} {x1 : Int} {r : Bool} (h : F61 x0 x1 = some r) {H : Heap} {L : List Ob} (hp : HP H (L)) : Fn T 61 [(E_Block.e x0), (i6 x1)] H (Q61 L r) := by
  refine Fn.enterE t61 (e0 := (mkE [(0, (E_Block.e x0)), (0, (i6 x1))] 40)) (by kernel_rfl) ?_
  show Run T (.clr [] i61n30) _ _ (finE none [4] (Q61 L r))
  refine Rn.k (mkE [(0, (E_Block.e x0)), (0, (i6 x1))] 40) ?_
  unfold F61 at h
  refine Rn.g ?_
  refine Ro.t 2 ?_
  refine Ro.d (mkE [(1, (i6 x1)), (0, (V.fp (E_Block.e x0)))] 39) ?_
  refine Rn.g ?_
  refine Ro.t 1 ?_
  refine Ro.d (mkE [(1, (i6 x1)), (0, (V.fp (E_Block.e x0))), (2, V.nils)] 36) ?_
  refine Run.seq ?_
  refine Rn.g ?_
  refine Ro.t 2 ?_
  refine Ro.p (len_fz E_Ins x0.fIns) ?_
  refine Ro.t 1 ?_
  refine Ro.d (mkE [(1, (i6 x1)), (3, V.nils), (3, (Zl E_Ins x0.fIns)), (0, (i6 (ln x0.fIns))), (0, (i6 (0 : Int)))] 30) ?_
  refine Run.block ?_
  obtain ⟨o, h1104, h⟩ := bind_some h
  have hp := hp.non
  refine (Run.iter (I := I61_1 x0 x1 L) (RR := RR61 L) (J := J61_1 x0 x1 L) (fun s e h' t hI hf => ?_) FUEL h1104 (by exact ⟨none, [], (by kernel_rfl), hp⟩)).mono ?_
  · obtain ⟨_, _, rfl, hp⟩ := hI; exact w61_1_b hf hp
  · rintro X e' H hq
    cases o with
    | ret r => cases X <;> first | exact hq.elim | (cases h; exact hq)
    | go a => 
      cases X with | nrm => exact hq.elim | ret => exact hq.elim | ext i => ?_
      obtain ⟨rfl, he, hp⟩ := hq
      dsimp only at h
      refine Run.clrE (ts := [1, 2, 4, 5, 6, 7, 8, 9, 10, 11, 12, 13, 14, 15, 16, 17, 18, 19, 20, 21, 22, 23, 24, 25, 26, 27, 28, 29, 30, 31, 32, 33, 34, 35, 36, 37, 38, 39, 40, 41]) (b := i61n27) (Q := (finE none [4] (Q61 L r))) he ?_
      refine Rn.g ?_
      refine Ro.t 1 ?_
      refine Ro.d (mkE [(4, (V.bool true))] 37) ?_
      refine Run.ret ?_
      have h := Option.some.inj h; subst h
      exact ⟨(V.bool true), (by kernel_rfl), (by kernel_rfl), hp⟩

theorem c61 {x0 : T_Block} {x1 : Int} {r : Bool} (h : F61 x0 x1 = some r) (s : Bool) : Fn T 61 [(E_Block.e x0), (i6 x1)] [] (fun v hh => deep s hh deepN v = some (EB.e r)) := by
  refine (w61 h HP.nil).mono ?_
  rintro v hh ⟨rfl, hp⟩
  exact EB.hd s hh 38 _ (.inr rfl)

/- smithy/graph.formed$1 -/
abbrev Q72 (L : List Ob) (r : Bool) : V → Heap → Prop := fun v h => v = EB.e r ∧ HP h (L)
abbrev RR72 (L : List Ob) (r : Bool) : List V → Heap → Prop := fun e h => endR none [3] (Q72 L r) e h

def F72 (x0 : Int) (x1 : T_Graph) : Option Bool :=
  (F34 x0 ((List.length x1.fVars : Nat) : Int)).bind fun y1211 =>
  some (!y1211)

theorem w72 {x0 : Int} {x1 : T_Graph} {r : Bool} (h : F72 x0 x1 = some r) {H : Heap} {L : List Ob} (hp : HP H (L)) : Fn T 72 [(i6 x0), (V.fp (E_Graph.e x1))] H (Q72 L r) := by
  refine Fn.enterE t72 (e0 := (mkE [(0, (i6 x0)), (0, (V.fp (E_Graph.e x1)))] 8)) (by kernel_rfl) ?_
  show Run T (.clr [] i72n3) _ _ (finE none [3] (Q72 L r))
  refine Rn.k (mkE [(0, (i6 x0)), (0, (V.fp (E_Graph.e x1)))] 8) ?_
  unfold F72 at h
  refine Rn.g ?_
  refine Ro.t 1 ?_
  refine Ro.d (mkE [(0, (i6 x0)), (0, (V.fp (E_Graph.e x1)))] 8) ?_
  refine Rn.g ?_
  refine Ro.t 3 ?_
  refine Ro.p (len_fz (EI .u8) x1.fVars) ?_
  obtain ⟨y1211, h1212, h⟩ := bind_some h
  refine RunO.c1 (by kernel_rfl) (by kernel_rfl) (c34 h1212 _) ?_
  refine Ro.t 2 ?_
  refine Ro.d (mkE [(3, (V.bool (!y1211)))] 6) ?_
  refine Run.ret ?_
  have h := Option.some.inj h; subst h
  exact ⟨(V.bool (!y1211)), (by kernel_rfl), (by kernel_rfl), hp⟩

theorem c72 {x0 : Int} {x1 : T_Graph} {r : Bool} (h : F72 x0 x1 = some r) (s : Bool) : Fn T 72 [(i6 x0), (V.fp (E_Graph.e x1))] [] (fun v hh => deep s hh deepN v = some (EB.e r)) := by
  refine (w72 h HP.nil).mono ?_
  rintro v hh ⟨rfl, hp⟩
  exact EB.hd s hh 38 _ (.inr rfl)

/- slices.IndexFunc[[]int,int] -/
abbrev Q89 (L : List Ob) (r : Int) : V → Heap → Prop := fun v h => v = (EI .i64).e r ∧ HP h (L)
abbrev RR89 (L : List Ob) (r : Int) : List V → Heap → Prop := fun e h => endR none [4] (Q89 L r) e h

abbrev I89_1 (x0 : (List Int)) (x1 : T_Graph) (L : List Ob) : (Int) → List V → Heap → Prop := fun s e h => e = (mkE [(0, (Zl (EI .i64) x0)), (0, (V.fn 72 [(V.fp (E_Graph.e x1))])), (5, (i6 (ln x0))), (0, (i6 s))] 10) ∧ HP h (L)

abbrev J89_1 (x0 : (List Int)) (x1 : T_Graph) (L : List Ob) : Unit → Nat → List V → Heap → Prop := fun a i e h => i = 0 ∧ clrEnv [0, 1, 4, 5, 6, 7, 8, 9, 10, 11, 12, 13, 14, 15, 16, 17, 18] e = (mkE [] 19) ∧ HP h (L)

def F89_1_b (x0 : (List Int)) (x1 : T_Graph) (y1246 : Int) : Option (Stp (Int) Int Unit) :=
  if (decide (y1246 < ((List.length x0 : Nat) : Int))) then
    (idx x0 y1246).bind fun y1266 =>
    (F72 y1266 x1).bind fun y1268 =>
    if y1268 then
      some (.ret y1246)
    else
      some (.next ((IntKind.i64.wrap (y1246 + (1 : Int)))))
  else
    some (.go ())

theorem w89_1_b {x0 : (List Int)} {x1 : T_Graph} {y1246 : Int} {t : (Stp (Int) Int Unit)} (h : F89_1_b x0 x1 y1246 = some t) {H : Heap} {L : List Ob} (hp : HP H (L)) :
    Run T i89n15 (mkE [(0, (Zl (EI .i64) x0)), (0, (V.fn 72 [(V.fp (E_Graph.e x1))])), (5, (i6 (ln x0))), (0, (i6 y1246))] 10) H (stp [4, 5, 9, 10, 11, 12, 13, 14, 15, 16, 17, 18] (I89_1 x0 x1 L) (RR89 L) (J89_1 x0 x1 L) t) := by
  unfold F89_1_b at h
  refine Rn.g ?_
  refine Ro.t 1 ?_
  refine Ro.d (mkE [(0, (Zl (EI .i64) x0)), (0, (V.fn 72 [(V.fp (E_Graph.e x1))])), (5, (i6 (ln x0))), (0, (i6 y1246)), (0, (V.bool (decide (y1246 < (ln x0)))))] 9) ?_
  refine Run.seq ?_
  rcases tf (decide (y1246 < (ln x0))) with h1260 | h1260
  · rw [ite_t h1260] at h; refine Rn.t h1260 ?_
    refine Run.skip ?_
    refine Rn.c (mkE [(0, (Zl (EI .i64) x0)), (0, (V.fn 72 [(V.fp (E_Graph.e x1))])), (5, (i6 (ln x0))), (0, (i6 y1246))] 10) ?_
    refine Run.seq ?_
    refine Run.block ?_
    refine Rn.g ?_
    refine Ro.t 2 ?_
    refine Ro.d (mkE [(0, (Zl (EI .i64) x0)), (0, (V.fn 72 [(V.fp (E_Graph.e x1))])), (3, (i6 y1246)), (1, (i6 (ln x0))), (0, (i6 y1246))] 10) ?_
    refine Rn.g ?_
    refine Ro.t 3 ?_
    obtain ⟨y1266, h1267, h⟩ := bind_some h
    refine Ro.p (idx_fz (EI .i64) .i64 h1267) ?_
    refine Ro.t 1 ?_
    obtain ⟨y1268, h1269, h⟩ := bind_some h
    refine RunO.h1 (n := 72) (caps := [(V.fp (E_Graph.e x1))]) (us := [(i6 y1266), (V.fp (E_Graph.e x1))]) (by kernel_rfl) (by kernel_rfl) (by kernel_rfl) ((w72 h1269 hp).mono ?_)
    rintro _ H ⟨rfl, hp⟩
    have hp : HP H (L) := hp
    refine Ro.d (mkE [(0, (Zl (EI .i64) x0)), (0, (V.fn 72 [(V.fp (E_Graph.e x1))])), (3, (i6 y1246)), (1, (i6 (ln x0))), (0, (i6 y1246)), (7, (V.bool y1268))] 2) ?_
    rcases tf y1268 with h1270 | h1270
    · rw [ite_t h1270] at h; refine Rn.t h1270 ?_
      refine Rn.g ?_
      refine Ro.t 2 ?_
      refine Ro.d (mkE [(4, (i6 y1246))] 14) ?_
      refine Run.ret ?_
      have h := Option.some.inj h; subst h
      show RR89 L _ _ _
      exact ⟨(i6 y1246), (by kernel_rfl), (by kernel_rfl), hp⟩
    · rw [ite_f h1270] at h; refine Rn.f h1270 ?_
      refine Run.skip ?_
      refine Run.clrE (ts := [4, 5, 10, 11, 12, 13, 14, 15, 16, 17]) (b := (.rgn i89r12)) (Q := (stp [4, 5, 9, 10, 11, 12, 13, 14, 15, 16, 17, 18] (I89_1 x0 x1 L) (RR89 L) (J89_1 x0 x1 L) t)) (e' := (mkE [(0, (Zl (EI .i64) x0)), (0, (V.fn 72 [(V.fp (E_Graph.e x1))])), (5, (i6 (ln x0))), (0, (i6 y1246))] 10)) (by kernel_rfl) ?_
      refine Run.rgn ?_
      refine Ro.t 2 ?_
      refine RunO.nil ?_
      have h := Option.some.inj h; subst h
      show I89_1 x0 x1 L _ _ _
      exact ⟨(by kernel_rfl), hp⟩
  · rw [ite_f h1260] at h; refine Rn.f h1260 ?_
    refine Run.exit ?_
    have h := Option.some.inj h; subst h
    show J89_1 x0 x1 L () _ _ _
    exact ⟨rfl, (by kernel_rfl), hp⟩

def F89 (x0 : (List Int)) (x1 : T_Graph) : Option Int :=
  (iter (fun s : (Int) => F89_1_b x0 x1 s) FUEL ((0 : Int))).bind fun o => match o with
  | .ret r => some r
  | .go () =>
    some (-1 : Int)

theorem w89 {x0 : (List Int)} {x1 : T_Graph} {r : Int} (h : F89 x0 x1 = some r) {H : Heap} {L : List Ob} (hp : HP H (L)) : Fn T 89 [(Zl (EI .i64) x0), (V.fn 72 [(V.fp (E_Graph.e x1))])] H (Q89 L r) := by
  refine Fn.enterE t89 (e0 := (mkE [(0, (Zl (EI .i64) x0)), (0, (V.fn 72 [(V.fp (E_Graph.e x1))]))] 17)) (by kernel_rfl) ?_
  show Run T (.clr [] i89n22) _ _ (finE none [4] (Q89 L r))
  refine Rn.k (mkE [(0, (Zl (EI .i64) x0)), (0, (V.fn 72 [(V.fp (E_Graph.e x1))]))] 17) ?_
  unfold F89 at h
  refine Rn.g ?_
  refine Ro.t 1 ?_
  refine Ro.d (mkE [(0, (Zl (EI .i64) x0)), (0, (V.fn 72 [(V.fp (E_Graph.e x1))]))] 17) ?_
  refine Run.seq ?_
  refine Rn.g ?_
  refine Ro.t 1 ?_
  refine Ro.p (len_fz (EI .i64) x0) ?_
  refine Ro.t 1 ?_
  refine Ro.d (mkE [(0, (Zl (EI .i64) x0)), (0, (V.fn 72 [(V.fp (E_Graph.e x1))])), (5, (i6 (ln x0))), (0, (i6 (0 : Int)))] 10) ?_
  refine Run.block ?_
  obtain ⟨o, h1271, h⟩ := bind_some h
  refine (Run.iter (I := I89_1 x0 x1 L) (RR := RR89 L) (J := J89_1 x0 x1 L) (fun s e h' t hI hf => ?_) FUEL h1271 (by exact ⟨(by kernel_rfl), hp⟩)).mono ?_
  · obtain ⟨rfl, hp⟩ := hI; exact w89_1_b hf hp
  · rintro X e' H hq
    cases o with
    | ret r => cases X <;> first | exact hq.elim | (cases h; exact hq)
    | go a => 
      cases X with | nrm => exact hq.elim | ret => exact hq.elim | ext i => ?_
      obtain ⟨rfl, he, hp⟩ := hq
      dsimp only at h
      refine Run.clrE (ts := [0, 1, 4, 5, 6, 7, 8, 9, 10, 11, 12, 13, 14, 15, 16, 17, 18]) (b := i89n20) (Q := (finE none [4] (Q89 L r))) he ?_
      refine Rn.g ?_
      refine Ro.t 1 ?_
      refine Ro.d (mkE [(4, (i6 (-1 : Int)))] 14) ?_
      refine Run.ret ?_
      have h := Option.some.inj h; subst h
      exact ⟨(i6 (-1 : Int)), (by kernel_rfl), (by kernel_rfl), hp⟩

theorem c89 {x0 : (List Int)} {x1 : T_Graph} {r : Int} (h : F89 x0 x1 = some r) (s : Bool) : Fn T 89 [(Zl (EI .i64) x0), (V.fn 72 [(V.fp (E_Graph.e x1))])] [] (fun v hh => deep s hh deepN v = some ((EI .i64).e r)) := by
  refine (w89 h HP.nil).mono ?_
  rintro v hh ⟨rfl, hp⟩
  exact (EI .i64).hd s hh 38 _ (.inr rfl)

/- slices.ContainsFunc[[]int,int] -/
abbrev Q71 (L : List Ob) (r : Bool) : V → Heap → Prop := fun v h => v = EB.e r ∧ HP h (L)
abbrev RR71 (L : List Ob) (r : Bool) : List V → Heap → Prop := fun e h => endR none [4] (Q71 L r) e h

def F71 (x0 : (List Int)) (x1 : T_Graph) : Option Bool :=
  (F89 x0 x1).bind fun y1274 =>
  some (decide (y1274 ≥ (0 : Int)))

theorem w71 {x0 : (List Int)} {x1 : T_Graph} {r : Bool} (h : F71 x0 x1 = some r) {H : Heap} {L : List Ob} (hp : HP H (L)) : Fn T 71 [(Zl (EI .i64) x0), (V.fn 72 [(V.fp (E_Graph.e x1))])] H (Q71 L r) := by
  refine Fn.enterE t71 (e0 := (mkE [(0, (Zl (EI .i64) x0)), (0, (V.fn 72 [(V.fp (E_Graph.e x1))]))] 7)) (by kernel_rfl) ?_
  show Run T (.clr [] i71n3) _ _ (finE none [4] (Q71 L r))
  refine Rn.k (mkE [(0, (Zl (EI .i64) x0)), (0, (V.fn 72 [(V.fp (E_Graph.e x1))]))] 7) ?_
  unfold F71 at h
  refine Rn.g ?_
  refine Ro.t 1 ?_
  refine Ro.d (mkE [(0, (Zl (EI .i64) x0)), (0, (V.fn 72 [(V.fp (E_Graph.e x1))]))] 7) ?_
  refine Rn.g ?_
  refine Ro.t 2 ?_
  obtain ⟨y1274, h1275, h⟩ := bind_some h
  refine RunO.c1 (by kernel_rfl) (by kernel_rfl) (c89 h1275 _) ?_
  refine Ro.t 2 ?_
  refine Ro.d (mkE [(4, (V.bool (decide (y1274 ≥ (0 : Int)))))] 4) ?_
  refine Run.ret ?_
  have h := Option.some.inj h; subst h
  exact ⟨(V.bool (decide (y1274 ≥ (0 : Int)))), (by kernel_rfl), (by kernel_rfl), hp⟩

theorem c71 {x0 : (List Int)} {x1 : T_Graph} {r : Bool} (h : F71 x0 x1 = some r) (s : Bool) : Fn T 71 [(Zl (EI .i64) x0), (V.fn 72 [(V.fp (E_Graph.e x1))])] [] (fun v hh => deep s hh deepN v = some (EB.e r)) := by
  refine (w71 h HP.nil).mono ?_
  rintro v hh ⟨rfl, hp⟩
  exact EB.hd s hh 38 _ (.inr rfl)

/- smithy/graph.formed -/
abbrev Q51 (L : List Ob) (r : Bool) : V → Heap → Prop := fun v h => v = EB.e r ∧ HP h (L)
abbrev RR51 (L : List Ob) (r : Bool) : List V → Heap → Prop := fun e h => endR none [4] (Q51 L r) e h

def F51_j1 (x0 : T_Graph) (x1 : T_Ins) : Option Bool :=
  (F71 x1.fArgs x0).bind fun y1327 =>
  some (!y1327)

theorem w51_j1 {x0 : T_Graph} {x1 : T_Ins} {r : Bool} (h : F51_j1 x0 x1 = some r) {H : Heap} {L : List Ob} (hp : HP H (L)) :
    Run T i51n38 (mkE [(2, (V.fp (E_Graph.e x0))), (0, (V.fp (E_Ins.e x1)))] 93) H (finE none [4] (Q51 L r)) := by
  unfold F51_j1 at h
  refine Rn.g ?_
  refine Ro.t 3 ?_
  obtain ⟨y1327, h1328, h⟩ := bind_some h
  refine RunO.c1 (by kernel_rfl) (by kernel_rfl) (c71 h1328 _) ?_
  refine Ro.t 2 ?_
  refine Ro.d (mkE [(4, (V.bool (!y1327)))] 92) ?_
  refine Run.ret ?_
  have h := Option.some.inj h; subst h
  exact ⟨(V.bool (!y1327)), (by kernel_rfl), (by kernel_rfl), hp⟩

def F51_j4 (x0 : T_Graph) (x1 : T_Ins) (y1287 : T_form) (y1346 : Bool) : Option Bool :=
  if y1346 then
    some false
  else
    if y1287.fref then
      if (x1.fKind != (9 : Int)) then
        (F34 x1.fRef ((List.length x0.fArrays : Nat) : Int)).bind fun y1350 =>
        if (!y1350) then
          some false
        else
          F51_j1 x0 x1
      else
        F51_j1 x0 x1
    else
      F51_j1 x0 x1

theorem w51_j4 {x0 : T_Graph} {x1 : T_Ins} {y1287 : T_form} {y1346 : Bool} {r : Bool} (h : F51_j4 x0 x1 y1287 y1346 = some r) {b1289 : Nat} {H : Heap} {L : List Ob} (hp : HP H ((some (b1289, 0), [(V.bool y1287.fdst), (V.bool y1287.fop), (V.bool y1287.fbits), (V.bool y1287.fref), (i6 y1287.fargs)]) :: L)) :
    Run T i51n30 (mkE [(2, (V.fp (E_Graph.e x0))), (0, (V.fp (E_Ins.e x1))), (1, (V.ptr b1289 0 0)), (57, (V.bool y1346))] 33) H (blk 0 (thn T (.clr [4, 5, 18, 19, 20, 21, 22, 23, 24, 25, 26, 27, 28, 29, 30, 31, 32, 33, 34, 35, 36, 37, 38, 39, 40, 41, 42, 43, 44, 45, 46, 47, 48, 49, 50, 51, 52, 53, 54, 55, 56, 57, 58, 59, 60, 61, 62, 63, 64, 65, 66, 67, 68, 69, 70, 71, 72, 73, 74, 75, 76, 77, 78, 79, 80, 81, 82, 83, 84, 85, 86, 87, 88, 89, 90, 91] i51n38) (finE none [4] (Q51 L r)))) := by
  unfold F51_j4 at h
  rcases tf y1346 with h1347 | h1347
  · rw [ite_t h1347] at h; refine Rn.t h1347 ?_
    refine Rn.g ?_
    refine Ro.t 1 ?_
    refine Ro.d (mkE [(4, (V.bool false))] 92) ?_
    refine Run.ret ?_
    have h := Option.some.inj h; subst h
    have hp := hp.del 0
    exact ⟨(V.bool false), (by kernel_rfl), (by kernel_rfl), hp⟩
  · rw [ite_f h1347] at h; refine Rn.f h1347 ?_
    refine Rn.g ?_
    refine Ro.t 1 ?_
    rcases tf y1287.fref with h1348 | h1348
    · rw [ite_t h1348] at h; refine Ro.p (Eq.trans (hp.ld 0 (off := 3) (n := none) (v := (V.bool y1287.fref)) rfl (by kernel_rfl)) (bool_of h1348)) ?_
      refine Ro.t 3 ?_
      rcases tf (x1.fKind != (9 : Int)) with h1349 | h1349
      · rw [ite_t h1349] at h; refine Ro.p (bool_of h1349) ?_
        refine Ro.t 6 ?_
        refine Ro.p (len_fz E_Array x0.fArrays) ?_
        obtain ⟨y1350, h1351, h⟩ := bind_some h
        refine RunO.c1 (by kernel_rfl) (by kernel_rfl) (c34 h1351 _) ?_
        refine Ro.t 3 ?_
        refine Ro.d (mkE [(2, (V.fp (E_Graph.e x0))), (0, (V.fp (E_Ins.e x1))), (71, (V.bool (!y1350)))] 21) ?_
        rcases tf (!y1350) with h1352 | h1352
        · rw [ite_t h1352] at h; refine Rn.t h1352 ?_
          refine Rn.g ?_
          refine Ro.t 1 ?_
          refine Ro.d (mkE [(4, (V.bool false))] 92) ?_
          refine Run.ret ?_
          have h := Option.some.inj h; subst h
          have hp := hp.del 0
          exact ⟨(V.bool false), (by kernel_rfl), (by kernel_rfl), hp⟩
        · rw [ite_f h1352] at h; refine Rn.f h1352 ?_
          refine Run.skip ?_
          refine Rn.c (mkE [(2, (V.fp (E_Graph.e x0))), (0, (V.fp (E_Ins.e x1)))] 93) ?_
          have hp := hp.del 0
          exact w51_j1 h hp
      · rw [ite_f h1349] at h; refine Ro.p (bool_of h1349) ?_
        refine Ro.t 11 ?_
        refine Ro.d (mkE [(2, (V.fp (E_Graph.e x0))), (0, (V.fp (E_Ins.e x1))), (71, (V.bool false))] 21) ?_
        refine Run.condF (by kernel_rfl) ?_
        refine Run.skip ?_
        refine Rn.c (mkE [(2, (V.fp (E_Graph.e x0))), (0, (V.fp (E_Ins.e x1)))] 93) ?_
        have hp := hp.del 0
        exact w51_j1 h hp
    · rw [ite_f h1348] at h; refine Ro.p (Eq.trans (hp.ld 0 (off := 3) (n := none) (v := (V.bool y1287.fref)) rfl (by kernel_rfl)) (bool_of h1348)) ?_
      refine Ro.t 15 ?_
      refine Ro.d (mkE [(2, (V.fp (E_Graph.e x0))), (0, (V.fp (E_Ins.e x1))), (71, (V.bool false))] 21) ?_
      refine Run.condF (by kernel_rfl) ?_
      refine Run.skip ?_
      refine Rn.c (mkE [(2, (V.fp (E_Graph.e x0))), (0, (V.fp (E_Ins.e x1)))] 93) ?_
      have hp := hp.del 0
      exact w51_j1 h hp

def F51_j3 (x0 : T_Graph) (x1 : T_Ins) (y1287 : T_form) (y1343 : Bool) : Option Bool :=
  if y1343 then
    some false
  else
    if (decide (y1287.fargs ≥ (0 : Int))) then
      F51_j4 x0 x1 y1287 ((((List.length x1.fArgs : Nat) : Int) != y1287.fargs))
    else
      F51_j4 x0 x1 y1287 (false)

theorem w51_j3 {x0 : T_Graph} {x1 : T_Ins} {y1287 : T_form} {y1343 : Bool} {r : Bool} (h : F51_j3 x0 x1 y1287 y1343 = some r) {b1289 : Nat} {H : Heap} {L : List Ob} (hp : HP H ((some (b1289, 0), [(V.bool y1287.fdst), (V.bool y1287.fop), (V.bool y1287.fbits), (V.bool y1287.fref), (i6 y1287.fargs)]) :: L)) :
    Run T i51n32 (mkE [(2, (V.fp (E_Graph.e x0))), (0, (V.fp (E_Ins.e x1))), (1, (V.ptr b1289 0 0)), (32, (V.bool y1343))] 58) H (blk 0 (thn T (.clr [4, 5, 18, 19, 20, 21, 22, 23, 24, 25, 26, 27, 28, 29, 30, 31, 32, 33, 34, 35, 36, 37, 38, 39, 40, 41, 42, 43, 44, 45, 46, 47, 48, 49, 50, 51, 52, 53, 54, 55, 56, 57, 58, 59, 60, 61, 62, 63, 64, 65, 66, 67, 68, 69, 70, 71, 72, 73, 74, 75, 76, 77, 78, 79, 80, 81, 82, 83, 84, 85, 86, 87, 88, 89, 90, 91] i51n38) (finE none [4] (Q51 L r)))) := by
  unfold F51_j3 at h
  rcases tf y1343 with h1344 | h1344
  · rw [ite_t h1344] at h; refine Rn.t h1344 ?_
    refine Rn.g ?_
    refine Ro.t 1 ?_
    refine Ro.d (mkE [(4, (V.bool false))] 92) ?_
    refine Run.ret ?_
    have h := Option.some.inj h; subst h
    have hp := hp.del 0
    exact ⟨(V.bool false), (by kernel_rfl), (by kernel_rfl), hp⟩
  · rw [ite_f h1344] at h; refine Rn.f h1344 ?_
    refine Rn.g ?_
    refine Ro.t 1 ?_
    refine Ro.p (hp.ld 0 (off := 4) (n := none) (v := (i6 y1287.fargs)) rfl (by kernel_rfl)) ?_
    rcases tf (decide (y1287.fargs ≥ (0 : Int))) with h1353 | h1353
    · rw [ite_t h1353] at h; refine Ro.p (bool_of h1353) ?_
      refine Ro.t 3 ?_
      refine Ro.p (len_fz (EI .i64) x1.fArgs) ?_
      refine Ro.t 1 ?_
      refine Ro.p (hp.ld 0 (off := 4) (n := none) (v := (i6 y1287.fargs)) rfl (by kernel_rfl)) ?_
      refine Ro.t 3 ?_
      refine Ro.d (mkE [(2, (V.fp (E_Graph.e x0))), (0, (V.fp (E_Ins.e x1))), (1, (V.ptr b1289 0 0)), (57, (V.bool ((ln x1.fArgs) != y1287.fargs)))] 33) ?_
      exact w51_j4 h hp
    · rw [ite_f h1353] at h; refine Ro.p (bool_of h1353) ?_
      refine Ro.t 9 ?_
      refine Ro.d (mkE [(2, (V.fp (E_Graph.e x0))), (0, (V.fp (E_Ins.e x1))), (1, (V.ptr b1289 0 0)), (57, (V.bool false))] 33) ?_
      exact w51_j4 h hp

def F51_j5 (x0 : T_Graph) (x1 : T_Ins) (y1287 : T_form) (y1355 : Bool) : Option Bool :=
  if y1355 then
    F51_j3 x0 x1 y1287 (y1355)
  else
    if y1287.fbits then
      if y1287.fref then
        F51_j3 x0 x1 y1287 (false)
      else
        F51_j3 x0 x1 y1287 ((x1.fRef != (0 : Int)))
    else
      if (x1.fBits != (0 : Int)) then
        F51_j3 x0 x1 y1287 ((x1.fBits != (0 : Int)))
      else
        if y1287.fref then
          F51_j3 x0 x1 y1287 (false)
        else
          F51_j3 x0 x1 y1287 ((x1.fRef != (0 : Int)))

theorem w51_j5 {x0 : T_Graph} {x1 : T_Ins} {y1287 : T_form} {y1355 : Bool} {r : Bool} (h : F51_j5 x0 x1 y1287 y1355 = some r) {b1289 : Nat} {H : Heap} {L : List Ob} (hp : HP H ((some (b1289, 0), [(V.bool y1287.fdst), (V.bool y1287.fop), (V.bool y1287.fbits), (V.bool y1287.fref), (i6 y1287.fargs)]) :: L)) :
    Run T i51n18 (mkE [(2, (V.fp (E_Graph.e x0))), (0, (V.fp (E_Ins.e x1))), (1, (V.ptr b1289 0 0)), (32, (V.bool y1355))] 58) H (thn T (.clr [18, 39, 40, 41, 42, 43, 44, 45, 46, 47, 48, 49, 50, 51, 52, 53, 54, 55, 56, 57, 58, 59, 60, 61, 62] i51n32) (blk 0 (thn T (.clr [4, 5, 18, 19, 20, 21, 22, 23, 24, 25, 26, 27, 28, 29, 30, 31, 32, 33, 34, 35, 36, 37, 38, 39, 40, 41, 42, 43, 44, 45, 46, 47, 48, 49, 50, 51, 52, 53, 54, 55, 56, 57, 58, 59, 60, 61, 62, 63, 64, 65, 66, 67, 68, 69, 70, 71, 72, 73, 74, 75, 76, 77, 78, 79, 80, 81, 82, 83, 84, 85, 86, 87, 88, 89, 90, 91] i51n38) (finE none [4] (Q51 L r))))) := by
  unfold F51_j5 at h
  rcases tf y1355 with h1356 | h1356
  · rw [ite_t h1356] at h; refine Rn.t h1356 ?_
    refine Run.skip ?_
    refine Rn.c (mkE [(2, (V.fp (E_Graph.e x0))), (0, (V.fp (E_Ins.e x1))), (1, (V.ptr b1289 0 0)), (32, (V.bool y1355))] 58) ?_
    exact w51_j3 h hp
  · rw [ite_f h1356] at h; refine Rn.f h1356 ?_
    refine Rn.g ?_
    refine Ro.t 1 ?_
    rcases tf y1287.fbits with h1357 | h1357
    · rw [ite_t h1357] at h; refine Ro.p (Eq.trans (hp.ld 0 (off := 2) (n := none) (v := (V.bool y1287.fbits)) rfl (by kernel_rfl)) (bool_of h1357)) ?_
      refine Ro.t 7 ?_
      refine Ro.d (mkE [(2, (V.fp (E_Graph.e x0))), (0, (V.fp (E_Ins.e x1))), (1, (V.ptr b1289 0 0)), (32, (V.bool false))] 58) ?_
      refine Run.condF (by kernel_rfl) ?_
      refine Run.rgn ?_
      refine Ro.t 1 ?_
      rcases tf y1287.fref with h1358 | h1358
      · rw [ite_t h1358] at h; refine Ro.p (Eq.trans (hp.ld 0 (off := 3) (n := none) (v := (V.bool y1287.fref)) rfl (by kernel_rfl)) (bool_of h1358)) ?_
        refine Ro.t 7 ?_
        refine Ro.d (mkE [(2, (V.fp (E_Graph.e x0))), (0, (V.fp (E_Ins.e x1))), (1, (V.ptr b1289 0 0)), (32, (V.bool false))] 58) ?_
        exact w51_j3 h hp
      · rw [ite_f h1358] at h; refine Ro.p (Eq.trans (hp.ld 0 (off := 3) (n := none) (v := (V.bool y1287.fref)) rfl (by kernel_rfl)) (bool_of h1358)) ?_
        refine Ro.t 7 ?_
        refine Ro.d (mkE [(2, (V.fp (E_Graph.e x0))), (0, (V.fp (E_Ins.e x1))), (1, (V.ptr b1289 0 0)), (32, (V.bool (x1.fRef != (0 : Int))))] 58) ?_
        exact w51_j3 h hp
    · rw [ite_f h1357] at h; refine Ro.p (Eq.trans (hp.ld 0 (off := 2) (n := none) (v := (V.bool y1287.fbits)) rfl (by kernel_rfl)) (bool_of h1357)) ?_
      refine Ro.t 7 ?_
      refine Ro.d (mkE [(2, (V.fp (E_Graph.e x0))), (0, (V.fp (E_Ins.e x1))), (1, (V.ptr b1289 0 0)), (32, (V.bool (x1.fBits != (0 : Int))))] 58) ?_
      rcases tf (x1.fBits != (0 : Int)) with h1359 | h1359
      · rw [ite_t h1359] at h; refine Rn.t h1359 ?_
        refine Run.skip ?_
        refine Rn.c (mkE [(2, (V.fp (E_Graph.e x0))), (0, (V.fp (E_Ins.e x1))), (1, (V.ptr b1289 0 0)), (32, (V.bool (x1.fBits != (0 : Int))))] 58) ?_
        exact w51_j3 h hp
      · rw [ite_f h1359] at h; refine Rn.f h1359 ?_
        refine Run.rgn ?_
        refine Ro.t 1 ?_
        rcases tf y1287.fref with h1360 | h1360
        · rw [ite_t h1360] at h; refine Ro.p (Eq.trans (hp.ld 0 (off := 3) (n := none) (v := (V.bool y1287.fref)) rfl (by kernel_rfl)) (bool_of h1360)) ?_
          refine Ro.t 7 ?_
          refine Ro.d (mkE [(2, (V.fp (E_Graph.e x0))), (0, (V.fp (E_Ins.e x1))), (1, (V.ptr b1289 0 0)), (32, (V.bool false))] 58) ?_
          exact w51_j3 h hp
        · rw [ite_f h1360] at h; refine Ro.p (Eq.trans (hp.ld 0 (off := 3) (n := none) (v := (V.bool y1287.fref)) rfl (by kernel_rfl)) (bool_of h1360)) ?_
          refine Ro.t 7 ?_
          refine Ro.d (mkE [(2, (V.fp (E_Graph.e x0))), (0, (V.fp (E_Ins.e x1))), (1, (V.ptr b1289 0 0)), (32, (V.bool (x1.fRef != (0 : Int))))] 58) ?_
          exact w51_j3 h hp

def F51_j2 (x0 : T_Graph) (x1 : T_Ins) (y1287 : T_form) (y1333 : Bool) : Option Bool :=
  if y1333 then
    some false
  else
    if y1287.fop then
      F51_j5 x0 x1 y1287 (false)
    else
      F51_j5 x0 x1 y1287 ((x1.fOp != (0 : Int)))

theorem w51_j2 {x0 : T_Graph} {x1 : T_Ins} {y1287 : T_form} {y1333 : Bool} {r : Bool} (h : F51_j2 x0 x1 y1287 y1333 = some r) {b1289 : Nat} {H : Heap} {L : List Ob} (hp : HP H ((some (b1289, 0), [(V.bool y1287.fdst), (V.bool y1287.fop), (V.bool y1287.fbits), (V.bool y1287.fref), (i6 y1287.fargs)]) :: L)) :
    Run T i51n34 (mkE [(2, (V.fp (E_Graph.e x0))), (0, (V.fp (E_Ins.e x1))), (1, (V.ptr b1289 0 0)), (12, (V.bool y1333))] 78) H (blk 0 (thn T (.clr [4, 5, 18, 19, 20, 21, 22, 23, 24, 25, 26, 27, 28, 29, 30, 31, 32, 33, 34, 35, 36, 37, 38, 39, 40, 41, 42, 43, 44, 45, 46, 47, 48, 49, 50, 51, 52, 53, 54, 55, 56, 57, 58, 59, 60, 61, 62, 63, 64, 65, 66, 67, 68, 69, 70, 71, 72, 73, 74, 75, 76, 77, 78, 79, 80, 81, 82, 83, 84, 85, 86, 87, 88, 89, 90, 91] i51n38) (finE none [4] (Q51 L r)))) := by
  unfold F51_j2 at h
  rcases tf y1333 with h1334 | h1334
  · rw [ite_t h1334] at h; refine Rn.t h1334 ?_
    refine Rn.g ?_
    refine Ro.t 1 ?_
    refine Ro.d (mkE [(4, (V.bool false))] 92) ?_
    refine Run.ret ?_
    have h := Option.some.inj h; subst h
    have hp := hp.del 0
    exact ⟨(V.bool false), (by kernel_rfl), (by kernel_rfl), hp⟩
  · rw [ite_f h1334] at h; refine Rn.f h1334 ?_
    refine Run.seq ?_
    refine Rn.g ?_
    refine Ro.t 1 ?_
    rcases tf y1287.fop with h1361 | h1361
    · rw [ite_t h1361] at h; refine Ro.p (Eq.trans (hp.ld 0 (off := 1) (n := none) (v := (V.bool y1287.fop)) rfl (by kernel_rfl)) (bool_of h1361)) ?_
      refine Ro.t 7 ?_
      refine Ro.d (mkE [(2, (V.fp (E_Graph.e x0))), (0, (V.fp (E_Ins.e x1))), (1, (V.ptr b1289 0 0)), (32, (V.bool false))] 58) ?_
      exact w51_j5 h hp
    · rw [ite_f h1361] at h; refine Ro.p (Eq.trans (hp.ld 0 (off := 1) (n := none) (v := (V.bool y1287.fop)) rfl (by kernel_rfl)) (bool_of h1361)) ?_
      refine Ro.t 7 ?_
      refine Ro.d (mkE [(2, (V.fp (E_Graph.e x0))), (0, (V.fp (E_Ins.e x1))), (1, (V.ptr b1289 0 0)), (32, (V.bool (x1.fOp != (0 : Int))))] 58) ?_
      exact w51_j5 h hp

def F51 (x0 : T_Graph) (x1 : T_Ins) : Option Bool :=
  if (decide (x1.fKind < (1 : Int))) then
    some false
  else
    if (decide (x1.fKind > (10 : Int))) then
      some false
    else
      (idx G0 x1.fKind).bind fun y1287 =>
      if y1287.fdst then
        (F34 x1.fDst ((List.length x0.fVars : Nat) : Int)).bind fun y1363 =>
        F51_j2 x0 x1 y1287 ((!y1363))
      else
        if (x1.fDst != (0 : Int)) then
          F51_j2 x0 x1 y1287 ((x1.fDst != (0 : Int)))
        else
          F51_j2 x0 x1 y1287 (false)

theorem w51 {x0 : T_Graph} {x1 : T_Ins} {r : Bool} (h : F51 x0 x1 = some r) {H : Heap} {L : List Ob} (hp : HP H (L)) : Fn T 51 [(E_Graph.e x0), (E_Ins.e x1)] H (Q51 L r) := by
  refine Fn.enterE t51 (e0 := (mkE [(0, (E_Graph.e x0)), (0, (E_Ins.e x1))] 95)) (by kernel_rfl) ?_
  show Run T (.clr [] i51n42) _ _ (finE none [4] (Q51 L r))
  refine Rn.k (mkE [(0, (E_Graph.e x0)), (0, (E_Ins.e x1))] 95) ?_
  unfold F51 at h
  refine Rn.g ?_
  refine Ro.t 3 ?_
  refine Ro.d (mkE [(2, (V.fp (E_Graph.e x0))), (0, (V.fp (E_Ins.e x1)))] 93) ?_
  refine Run.seq ?_
  refine Rn.g ?_
  refine Ro.t 2 ?_
  rcases tf (decide (x1.fKind < (1 : Int))) with h1285 | h1285
  · rw [ite_t h1285] at h; refine Ro.p (bool_of h1285) ?_
    refine Ro.t 5 ?_
    refine Ro.d (mkE [(2, (V.fp (E_Graph.e x0))), (0, (V.fp (E_Ins.e x1))), (9, (V.bool true))] 83) ?_
    refine Run.condT (by kernel_rfl) ?_
    refine Rn.g ?_
    refine Ro.t 1 ?_
    refine Ro.d (mkE [(4, (V.bool false))] 92) ?_
    refine Run.ret ?_
    have h := Option.some.inj h; subst h
    exact ⟨(V.bool false), (by kernel_rfl), (by kernel_rfl), hp⟩
  · rw [ite_f h1285] at h; refine Ro.p (bool_of h1285) ?_
    refine Ro.t 5 ?_
    refine Ro.d (mkE [(2, (V.fp (E_Graph.e x0))), (0, (V.fp (E_Ins.e x1))), (9, (V.bool (decide (x1.fKind > (10 : Int)))))] 83) ?_
    rcases tf (decide (x1.fKind > (10 : Int))) with h1286 | h1286
    · rw [ite_t h1286] at h; refine Rn.t h1286 ?_
      refine Rn.g ?_
      refine Ro.t 1 ?_
      refine Ro.d (mkE [(4, (V.bool false))] 92) ?_
      refine Run.ret ?_
      have h := Option.some.inj h; subst h
      exact ⟨(V.bool false), (by kernel_rfl), (by kernel_rfl), hp⟩
    · rw [ite_f h1286] at h; refine Rn.f h1286 ?_
      refine Run.skip ?_
      refine Rn.c (mkE [(2, (V.fp (E_Graph.e x0))), (0, (V.fp (E_Ins.e x1)))] 93) ?_
      refine Rn.g ?_
      refine Ro.t 2 ?_
      obtain ⟨y1287, h1288, h⟩ := bind_some h
      refine Ro.p (idxp_fp E_form (l := G0) .u8 (n := 11) (cs := [V.bool false, V.bool false, V.bool false, V.bool false, i6 0, V.bool true, V.bool false, V.bool false, V.bool false, i6 (-1), V.bool true, V.bool false, V.bool true, V.bool false, i6 0, V.bool true, V.bool false, V.bool false, V.bool false, i6 1, V.bool true, V.bool true, V.bool false, V.bool false, i6 (-1), V.bool true, V.bool false, V.bool false, V.bool false, i6 1, V.bool true, V.bool false, V.bool false, V.bool true, i6 1, V.bool false, V.bool false, V.bool false, V.bool true, i6 2, V.bool false, V.bool false, V.bool false, V.bool true, i6 0, V.bool true, V.bool false, V.bool false, V.bool true, i6 (-1), V.bool false, V.bool false, V.bool false, V.bool false, i6 1]) (by kernel_rfl) (by kernel_rfl) h1288) ?_
      refine Ro.t 1 ?_
      refine RunO.alloc hp (by kernel_rfl) ?_
      intro b1289 H hp
      have hp : HP H ((some (b1289, 0), [(V.bool false), (V.bool false), (V.bool false), (V.bool false), (i6 (0 : Int))]) :: L) := hp
      refine RunO.st hp (by kernel_rfl) 0 (off := 0) (v := (E_form.e y1287)) (cs' := [(V.bool y1287.fdst), (V.bool y1287.fop), (V.bool y1287.fbits), (V.bool y1287.fref), (i6 y1287.fargs)]) rfl (by kernel_rfl) (by kernel_rfl) (by kernel_rfl) ?_
      intro H hp
      refine Ro.d (mkE [(2, (V.fp (E_Graph.e x0))), (0, (V.fp (E_Ins.e x1))), (1, (V.ptr b1289 0 0))] 91) ?_
      refine Run.seq ?_
      refine Run.block ?_
      refine Run.seq ?_
      refine Rn.g ?_
      refine Ro.t 1 ?_
      rcases tf y1287.fdst with h1362 | h1362
      · rw [ite_t h1362] at h; refine Ro.p (Eq.trans (hp.ld 0 (off := 0) (n := none) (v := (V.bool y1287.fdst)) rfl (by kernel_rfl)) (bool_of h1362)) ?_
        refine Ro.t 7 ?_
        refine Ro.d (mkE [(2, (V.fp (E_Graph.e x0))), (0, (V.fp (E_Ins.e x1))), (1, (V.ptr b1289 0 0)), (12, (V.bool false))] 78) ?_
        refine Run.condF (by kernel_rfl) ?_
        refine Run.rgn ?_
        refine Ro.t 1 ?_
        refine Ro.p (Eq.trans (hp.ld 0 (off := 0) (n := none) (v := (V.bool y1287.fdst)) rfl (by kernel_rfl)) (bool_of h1362)) ?_
        refine Ro.t 5 ?_
        refine Ro.p (len_fz (EI .u8) x0.fVars) ?_
        obtain ⟨y1363, h1364, h⟩ := bind_some h
        refine RunO.c1 (by kernel_rfl) (by kernel_rfl) (c34 h1364 _) ?_
        refine Ro.t 3 ?_
        refine Ro.d (mkE [(2, (V.fp (E_Graph.e x0))), (0, (V.fp (E_Ins.e x1))), (1, (V.ptr b1289 0 0)), (12, (V.bool (!y1363)))] 78) ?_
        exact w51_j2 h hp
      · rw [ite_f h1362] at h; refine Ro.p (Eq.trans (hp.ld 0 (off := 0) (n := none) (v := (V.bool y1287.fdst)) rfl (by kernel_rfl)) (bool_of h1362)) ?_
        refine Ro.t 7 ?_
        refine Ro.d (mkE [(2, (V.fp (E_Graph.e x0))), (0, (V.fp (E_Ins.e x1))), (1, (V.ptr b1289 0 0)), (12, (V.bool (x1.fDst != (0 : Int))))] 78) ?_
        rcases tf (x1.fDst != (0 : Int)) with h1365 | h1365
        · rw [ite_t h1365] at h; refine Rn.t h1365 ?_
          refine Run.skip ?_
          refine Rn.c (mkE [(2, (V.fp (E_Graph.e x0))), (0, (V.fp (E_Ins.e x1))), (1, (V.ptr b1289 0 0)), (12, (V.bool (x1.fDst != (0 : Int))))] 78) ?_
          exact w51_j2 h hp
        · rw [ite_f h1365] at h; refine Rn.f h1365 ?_
          refine Run.rgn ?_
          refine Ro.t 1 ?_
          refine Ro.p (Eq.trans (hp.ld 0 (off := 0) (n := none) (v := (V.bool y1287.fdst)) rfl (by kernel_rfl)) (bool_of h1362)) ?_
          refine Ro.t 10 ?_
          refine Ro.d (mkE [(2, (V.fp (E_Graph.e x0))), (0, (V.fp (E_Ins.e x1))), (1, (V.ptr b1289 0 0)), (12, (V.bool false))] 78) ?_
          exact w51_j2 h hp

theorem c51 {x0 : T_Graph} {x1 : T_Ins} {r : Bool} (h : F51 x0 x1 = some r) (s : Bool) : Fn T 51 [(E_Graph.e x0), (E_Ins.e x1)] [] (fun v hh => deep s hh deepN v = some (EB.e r)) := by
  refine (w51 h HP.nil).mono ?_
  rintro v hh ⟨rfl, hp⟩
  exact EB.hd s hh 38 _ (.inr rfl)

/- smithy/graph.types -/
abbrev Q52 (L : List Ob) (r : (List Int)) : V → Heap → Prop := fun v h => ∃ (o0 : Option (Nat × Nat)) (q0 : List V), v = slv (EI .u8).z (EI .u8).ag (List.length r) o0 ∧ HP h ((o0, List.flatMap (EI .u8).c r ++ q0) :: L)
abbrev RR52 (L : List Ob) (r : (List Int)) : List V → Heap → Prop := fun e h => endR none [4] (Q52 L r) e h

abbrev I52_1 (x0 : T_Graph) (x1 : (List Int)) (L : List Ob) : ((List Int) × Int) → List V → Heap → Prop := fun s e h => ∃ o1431 : Option (Nat × Nat), ∃ q1432 : List V, e = (mkE [(2, (V.fp (E_Graph.e x0))), (2, (slv (EI .u8).z (EI .u8).ag (List.length s.1) o1431)), (5, (Zl (EI .i64) x1)), (0, (i6 (ln x1))), (0, (i6 s.2))] 14) ∧ HP h ((o1431, List.flatMap (EI .u8).c s.1 ++ q1432) :: L)

abbrev J52_1 (x0 : T_Graph) (x1 : (List Int)) (L : List Ob) : ((List Int)) → Nat → List V → Heap → Prop := fun a i e h => i = 0 ∧ ∃ o1450 : Option (Nat × Nat), ∃ q1451 : List V, clrEnv [1, 2, 6, 7, 11, 12, 13, 14, 15, 16, 17, 18, 19, 20, 21, 22, 23, 24, 25, 26] e = (mkE [(5, (slv (EI .u8).z (EI .u8).ag (List.length a) o1450))] 22) ∧ HP h ((o1450, List.flatMap (EI .u8).c a ++ q1451) :: L)

def F52_1_b (x0 : T_Graph) (x1 : (List Int)) (l1430 : (List Int)) (y1433 : Int) : Option (Stp ((List Int) × Int) (List Int) ((List Int))) :=
  if (decide (y1433 < ((List.length x1 : Nat) : Int))) then
    (idx x1 y1433).bind fun y1454 =>
    (idx x0.fVars y1454).bind fun y1456 =>
    (idx l1430 y1433).bind fun y1458 =>
    (upd l1430 y1433 y1456).bind fun y1464 =>
    some (.next (y1464, (IntKind.i64.wrap (y1433 + (1 : Int)))))
  else
    some (.go (l1430))

theorem w52_1_b {x0 : T_Graph} {x1 : (List Int)} {l1430 : (List Int)} {y1433 : Int} {t : (Stp ((List Int) × Int) (List Int) ((List Int)))} (h : F52_1_b x0 x1 l1430 y1433 = some t) {o1431 : Option (Nat × Nat)} {q1432 : List V} {H : Heap} {L : List Ob} (hp : HP H ((o1431, List.flatMap (EI .u8).c l1430 ++ q1432) :: L)) :
    Run T i52n12 (mkE [(2, (V.fp (E_Graph.e x0))), (2, (slv (EI .u8).z (EI .u8).ag (List.length l1430) o1431)), (5, (Zl (EI .i64) x1)), (0, (i6 (ln x1))), (0, (i6 y1433))] 14) H (stp [6, 7, 14, 15, 16, 17, 18, 19, 20, 21, 22, 23, 24, 25, 26] (I52_1 x0 x1 L) (RR52 L) (J52_1 x0 x1 L) t) := by
  unfold F52_1_b at h
  refine Rn.g ?_
  refine Ro.t 1 ?_
  refine Ro.d (mkE [(2, (V.fp (E_Graph.e x0))), (2, (slv (EI .u8).z (EI .u8).ag (List.length l1430) o1431)), (5, (Zl (EI .i64) x1)), (0, (i6 (ln x1))), (0, (i6 y1433)), (0, (V.bool (decide (y1433 < (ln x1)))))] 13) ?_
  refine Run.seq ?_
  rcases tf (decide (y1433 < (ln x1))) with h1453 | h1453
  · rw [ite_t h1453] at h; refine Rn.t h1453 ?_
    refine Run.skip ?_
    refine Rn.c (mkE [(2, (V.fp (E_Graph.e x0))), (2, (slv (EI .u8).z (EI .u8).ag (List.length l1430) o1431)), (5, (Zl (EI .i64) x1)), (0, (i6 (ln x1))), (0, (i6 y1433))] 14) ?_
    refine Run.seq ?_
    refine Run.block ?_
    refine Rn.g ?_
    refine Ro.t 1 ?_
    obtain ⟨y1454, h1455, h⟩ := bind_some h
    refine Ro.p (idx_fz (EI .i64) .i64 h1455) ?_
    refine Ro.t 3 ?_
    refine Ro.d (mkE [(2, (V.fp (E_Graph.e x0))), (2, (slv (EI .u8).z (EI .u8).ag (List.length l1430) o1431)), (0, (i6 y1433)), (0, (i6 y1454)), (3, (Zl (EI .i64) x1)), (0, (i6 (ln x1))), (0, (i6 y1433))] 14) ?_
    refine Run.rgn ?_
    refine Ro.t 5 ?_
    obtain ⟨y1456, h1457, h⟩ := bind_some h
    refine Ro.p (idx_fz (EI .u8) .i64 h1457) ?_
    refine Ro.t 1 ?_
    obtain ⟨y1458, h1459, h⟩ := bind_some h
    obtain ⟨b1460, g1461, h1462, h1463⟩ := own_idx (EI .u8) hp 0 rfl h1459
    subst h1462
    refine Ro.p (h1463 .i64) ?_
    obtain ⟨y1464, h1465, h⟩ := bind_some h
    refine RunO.st hp (by kernel_rfl) 0 rfl (by kernel_rfl) (by kernel_rfl) (own_st (EI .u8) (a := y1456) h1465) ?_
    intro H hp
    have h1466 := upd_len h1465; rw [← h1466]
    refine RunO.nil ?_
    refine Run.clrE (ts := [6, 7, 15, 16, 17, 18, 19, 20, 21, 22, 23, 24, 25]) (b := (.rgn i52r9)) (Q := (stp [6, 7, 14, 15, 16, 17, 18, 19, 20, 21, 22, 23, 24, 25, 26] (I52_1 x0 x1 L) (RR52 L) (J52_1 x0 x1 L) t)) (e' := (mkE [(2, (V.fp (E_Graph.e x0))), (2, (slv (EI .u8).z (EI .u8).ag (List.length y1464) (some (b1460, g1461)))), (5, (Zl (EI .i64) x1)), (0, (i6 (ln x1))), (0, (i6 y1433))] 14)) (by kernel_rfl) ?_
    refine Run.rgn ?_
    refine Ro.t 2 ?_
    refine RunO.nil ?_
    have h := Option.some.inj h; subst h
    show I52_1 x0 x1 L _ _ _
    exact ⟨(some (b1460, g1461)), q1432, (by kernel_rfl), hp⟩
  · rw [ite_f h1453] at h; refine Rn.f h1453 ?_
    refine Run.exit ?_
    have h := Option.some.inj h; subst h
    show J52_1 x0 x1 L _ _ _ _
    exact ⟨rfl, o1431, q1432, (by kernel_rfl), hp⟩

def F52 (x0 : T_Graph) (x1 : (List Int)) : Option (List Int) :=
  (made 1 ((0 : Int) : Int) ((List.length x1 : Nat) : Int)).bind fun y1412 =>
  (iter (fun s : ((List Int) × Int) => F52_1_b x0 x1 s.1 s.2) FUEL (y1412, (0 : Int))).bind fun o => match o with
  | .ret r => some r
  | .go (l1449) =>
    some l1449

theorem w52 {x0 : T_Graph} {x1 : (List Int)} {r : (List Int)} (h : F52 x0 x1 = some r) {H : Heap} {L : List Ob} (hp : HP H (L)) : Fn T 52 [(E_Graph.e x0), (Zl (EI .i64) x1)] H (Q52 L r) := by
  refine Fn.enterE t52 (e0 := (mkE [(0, (E_Graph.e x0)), (0, (Zl (EI .i64) x1))] 26)) (by kernel_rfl) ?_
  show Run T (.clr [] i52n20) _ _ (finE none [4] (Q52 L r))
  refine Rn.k (mkE [(0, (E_Graph.e x0)), (0, (Zl (EI .i64) x1))] 26) ?_
  unfold F52 at h
  refine Rn.g ?_
  refine Ro.t 2 ?_
  refine Ro.d (mkE [(1, (Zl (EI .i64) x1)), (0, (V.fp (E_Graph.e x0)))] 25) ?_
  refine Rn.g ?_
  refine Ro.t 1 ?_
  refine Ro.p (len_fz (EI .i64) x1) ?_
  obtain ⟨y1412, h1413, h⟩ := bind_some h
  refine RunO.mks1 (EI .u8) hp (by kernel_rfl) (by kernel_rfl) (by kernel_rfl) (by kernel_rfl) (by kernel_rfl) (by kernel_rfl) h1413 ?_
  intro b1414 H hp
  refine Ro.t 1 ?_
  refine Ro.d (mkE [(1, (Zl (EI .i64) x1)), (0, (V.fp (E_Graph.e x0))), (2, (slv (EI .u8).z (EI .u8).ag (List.length y1412) (some (b1414, 0))))] 22) ?_
  refine Run.seq ?_
  refine Rn.g ?_
  refine Ro.t 1 ?_
  refine Ro.p (len_fz (EI .i64) x1) ?_
  refine Ro.t 1 ?_
  refine Ro.d (mkE [(2, (V.fp (E_Graph.e x0))), (2, (slv (EI .u8).z (EI .u8).ag (List.length y1412) (some (b1414, 0)))), (5, (Zl (EI .i64) x1)), (0, (i6 (ln x1))), (0, (i6 (0 : Int)))] 14) ?_
  refine Run.block ?_
  obtain ⟨o, h1467, h⟩ := bind_some h
  refine (Run.iter (I := I52_1 x0 x1 L) (RR := RR52 L) (J := J52_1 x0 x1 L) (fun s e h' t hI hf => ?_) FUEL h1467 (by exact ⟨(some (b1414, 0)), [], (by kernel_rfl), hp⟩)).mono ?_
  · obtain ⟨_, _, rfl, hp⟩ := hI; exact w52_1_b hf hp
  · rintro X e' H hq
    cases o with
    | ret r => cases X <;> first | exact hq.elim | (cases h; exact hq)
    | go l1449 => 
      cases X with | nrm => exact hq.elim | ret => exact hq.elim | ext i => ?_
      obtain ⟨rfl, o1450, q1451, he, hp⟩ := hq
      dsimp only at h
      refine Run.clrE (ts := [1, 2, 6, 7, 11, 12, 13, 14, 15, 16, 17, 18, 19, 20, 21, 22, 23, 24, 25, 26]) (b := i52n17) (Q := (finE none [4] (Q52 L r))) he ?_
      refine Rn.g ?_
      refine Ro.t 2 ?_
      refine Ro.d (mkE [(4, (slv (EI .u8).z (EI .u8).ag (List.length l1449) o1450))] 23) ?_
      refine Run.ret ?_
      have h := Option.some.inj h; subst h
      exact ⟨(slv (EI .u8).z (EI .u8).ag (List.length l1449) o1450), (by kernel_rfl), _, _, (by kernel_rfl), hp⟩

theorem c52 {x0 : T_Graph} {x1 : (List Int)} {r : (List Int)} (h : F52 x0 x1 = some r) (s : Bool) : Fn T 52 [(E_Graph.e x0), (Zl (EI .i64) x1)] [] (fun v hh => deep s hh deepN v = some ((EL (EI .u8)).e r)) := by
  refine (w52 h HP.nil).mono ?_
  rintro v hh ⟨o0, q0, rfl, hp⟩
  exact own_deep (EI .u8) hp 0 rfl s (.inr rfl) 36

/- smithy/graph.Type$1 -/
abbrev Q54 (b1493 : Nat) (x1 : Int) (L : List Ob) (r : Bool) : V → Heap → Prop := fun v h => v = EB.e r ∧ HP h ((some (b1493, 0), [(V.int .u8 x1)]) :: L)
abbrev RR54 (b1493 : Nat) (x1 : Int) (L : List Ob) (r : Bool) : List V → Heap → Prop := fun e h => endR none [3] (Q54 b1493 x1 L r) e h

def F54 (x0 : Int) (x1 : Int) : Option Bool :=
  some (x0 != x1)

theorem w54 {x0 : Int} {x1 : Int} {r : Bool} (h : F54 x0 x1 = some r) {b1493 : Nat} {H : Heap} {L : List Ob} (hp : HP H ((some (b1493, 0), [(V.int .u8 x1)]) :: L)) : Fn T 54 [(V.int .u8 x0), (V.ptr b1493 0 0)] H (Q54 b1493 x1 L r) := by
  refine Fn.enterE t54 (e0 := (mkE [(0, (V.int .u8 x0)), (0, (V.ptr b1493 0 0))] 5)) (by kernel_rfl) ?_
  show Run T (.clr [] i54n3) _ _ (finE none [3] (Q54 b1493 x1 L r))
  refine Rn.k (mkE [(0, (V.int .u8 x0)), (0, (V.ptr b1493 0 0))] 5) ?_
  unfold F54 at h
  refine Rn.g ?_
  refine Ro.t 1 ?_
  refine Ro.d (mkE [(0, (V.int .u8 x0)), (0, (V.ptr b1493 0 0))] 5) ?_
  refine Rn.g ?_
  refine Ro.t 1 ?_
  refine Ro.p (hp.ld 0 (off := 0) (n := none) (v := (V.int .u8 x1)) rfl (by kernel_rfl)) ?_
  refine Ro.t 2 ?_
  refine Ro.d (mkE [(3, (V.bool (x0 != x1)))] 3) ?_
  refine Run.ret ?_
  have h := Option.some.inj h; subst h
  exact ⟨(V.bool (x0 != x1)), (by kernel_rfl), (by kernel_rfl), hp⟩

/- slices.IndexFunc[[]smithy/api.Type,smithy/api.Type] -/
abbrev Q73 (b1488 : Nat) (x1 : Int) (L : List Ob) (r : Int) : V → Heap → Prop := fun v h => v = (EI .i64).e r ∧ HP h ((some (b1488, 0), [(V.int .u8 x1)]) :: L)
abbrev RR73 (b1488 : Nat) (x1 : Int) (L : List Ob) (r : Int) : List V → Heap → Prop := fun e h => endR none [4] (Q73 b1488 x1 L r) e h

abbrev I73_1 (x0 : (List Int)) (x1 : Int) (b1488 : Nat) (L : List Ob) : (Int) → List V → Heap → Prop := fun s e h => e = (mkE [(0, (Zl (EI .u8) x0)), (0, (V.fn 54 [(V.ptr b1488 0 0)])), (5, (i6 (ln x0))), (0, (i6 s))] 10) ∧ HP h ((some (b1488, 0), [(V.int .u8 x1)]) :: L)

abbrev J73_1 (x0 : (List Int)) (x1 : Int) (b1488 : Nat) (L : List Ob) : Unit → Nat → List V → Heap → Prop := fun a i e h => i = 0 ∧ clrEnv [0, 1, 4, 5, 6, 7, 8, 9, 10, 11, 12, 13, 14, 15, 16, 17, 18] e = (mkE [] 19) ∧ HP h ((some (b1488, 0), [(V.int .u8 x1)]) :: L)

def F73_1_b (x0 : (List Int)) (x1 : Int) (y1527 : Int) : Option (Stp (Int) Int Unit) :=
  if (decide (y1527 < ((List.length x0 : Nat) : Int))) then
    (idx x0 y1527).bind fun y1547 =>
    (F54 y1547 x1).bind fun y1549 =>
    if y1549 then
      some (.ret y1527)
    else
      some (.next ((IntKind.i64.wrap (y1527 + (1 : Int)))))
  else
    some (.go ())

theorem w73_1_b {x0 : (List Int)} {x1 : Int} {y1527 : Int} {t : (Stp (Int) Int Unit)} (h : F73_1_b x0 x1 y1527 = some t) {b1488 : Nat} {H : Heap} {L : List Ob} (hp : HP H ((some (b1488, 0), [(V.int .u8 x1)]) :: L)) :
    Run T i73n15 (mkE [(0, (Zl (EI .u8) x0)), (0, (V.fn 54 [(V.ptr b1488 0 0)])), (5, (i6 (ln x0))), (0, (i6 y1527))] 10) H (stp [4, 5, 9, 10, 11, 12, 13, 14, 15, 16, 17, 18] (I73_1 x0 x1 b1488 L) (RR73 b1488 x1 L) (J73_1 x0 x1 b1488 L) t) := by
  unfold F73_1_b at h
  refine Rn.g ?_
  refine Ro.t 1 ?_
  refine Ro.d (mkE [(0, (Zl (EI .u8) x0)), (0, (V.fn 54 [(V.ptr b1488 0 0)])), (5, (i6 (ln x0))), (0, (i6 y1527)), (0, (V.bool (decide (y1527 < (ln x0)))))] 9) ?_
  refine Run.seq ?_
  rcases tf (decide (y1527 < (ln x0))) with h1541 | h1541
  · rw [ite_t h1541] at h; refine Rn.t h1541 ?_
    refine Run.skip ?_
    refine Rn.c (mkE [(0, (Zl (EI .u8) x0)), (0, (V.fn 54 [(V.ptr b1488 0 0)])), (5, (i6 (ln x0))), (0, (i6 y1527))] 10) ?_
    refine Run.seq ?_
    refine Run.block ?_
    refine Rn.g ?_
    refine Ro.t 2 ?_
    refine Ro.d (mkE [(0, (Zl (EI .u8) x0)), (0, (V.fn 54 [(V.ptr b1488 0 0)])), (3, (i6 y1527)), (1, (i6 (ln x0))), (0, (i6 y1527))] 10) ?_
    refine Rn.g ?_
    refine Ro.t 3 ?_
    obtain ⟨y1547, h1548, h⟩ := bind_some h
    refine Ro.p (idx_fz (EI .u8) .i64 h1548) ?_
    refine Ro.t 1 ?_
    obtain ⟨y1549, h1550, h⟩ := bind_some h
    have hp : HP _ ((some (b1488, 0), [(V.int .u8 x1)]) :: L) := hp
    refine RunO.h1 (n := 54) (caps := [(V.ptr b1488 0 0)]) (us := [(V.int .u8 y1547), (V.ptr b1488 0 0)]) (by kernel_rfl) (by kernel_rfl) (by kernel_rfl) ((w54 h1550 hp).mono ?_)
    rintro _ H ⟨rfl, hp⟩
    have hp : HP H ((some (b1488, 0), [(V.int .u8 x1)]) :: L) := hp
    refine Ro.d (mkE [(0, (Zl (EI .u8) x0)), (0, (V.fn 54 [(V.ptr b1488 0 0)])), (3, (i6 y1527)), (1, (i6 (ln x0))), (0, (i6 y1527)), (7, (V.bool y1549))] 2) ?_
    rcases tf y1549 with h1551 | h1551
    · rw [ite_t h1551] at h; refine Rn.t h1551 ?_
      refine Rn.g ?_
      refine Ro.t 2 ?_
      refine Ro.d (mkE [(4, (i6 y1527))] 14) ?_
      refine Run.ret ?_
      have h := Option.some.inj h; subst h
      show RR73 b1488 x1 L _ _ _
      exact ⟨(i6 y1527), (by kernel_rfl), (by kernel_rfl), hp⟩
    · rw [ite_f h1551] at h; refine Rn.f h1551 ?_
      refine Run.skip ?_
      refine Run.clrE (ts := [4, 5, 10, 11, 12, 13, 14, 15, 16, 17]) (b := (.rgn i73r12)) (Q := (stp [4, 5, 9, 10, 11, 12, 13, 14, 15, 16, 17, 18] (I73_1 x0 x1 b1488 L) (RR73 b1488 x1 L) (J73_1 x0 x1 b1488 L) t)) (e' := (mkE [(0, (Zl (EI .u8) x0)), (0, (V.fn 54 [(V.ptr b1488 0 0)])), (5, (i6 (ln x0))), (0, (i6 y1527))] 10)) (by kernel_rfl) ?_
      refine Run.rgn ?_
      refine Ro.t 2 ?_
      refine RunO.nil ?_
      have h := Option.some.inj h; subst h
      show I73_1 x0 x1 b1488 L _ _ _
      exact ⟨(by kernel_rfl), hp⟩
  · rw [ite_f h1541] at h; refine Rn.f h1541 ?_
    refine Run.exit ?_
    have h := Option.some.inj h; subst h
    show J73_1 x0 x1 b1488 L () _ _ _
    exact ⟨rfl, (by kernel_rfl), hp⟩

def F73 (x0 : (List Int)) (x1 : Int) : Option Int :=
  (iter (fun s : (Int) => F73_1_b x0 x1 s) FUEL ((0 : Int))).bind fun o => match o with
  | .ret r => some r
  | .go () =>
    some (-1 : Int)

theorem w73 {x0 : (List Int)} {x1 : Int} {r : Int} (h : F73 x0 x1 = some r) {b1488 : Nat} {H : Heap} {L : List Ob} (hp : HP H ((some (b1488, 0), [(V.int .u8 x1)]) :: L)) : Fn T 73 [(Zl (EI .u8) x0), (V.fn 54 [(V.ptr b1488 0 0)])] H (Q73 b1488 x1 L r) := by
  refine Fn.enterE t73 (e0 := (mkE [(0, (Zl (EI .u8) x0)), (0, (V.fn 54 [(V.ptr b1488 0 0)]))] 17)) (by kernel_rfl) ?_
  show Run T (.clr [] i73n22) _ _ (finE none [4] (Q73 b1488 x1 L r))
  refine Rn.k (mkE [(0, (Zl (EI .u8) x0)), (0, (V.fn 54 [(V.ptr b1488 0 0)]))] 17) ?_
  unfold F73 at h
  refine Rn.g ?_
  refine Ro.t 1 ?_
  refine Ro.d (mkE [(0, (Zl (EI .u8) x0)), (0, (V.fn 54 [(V.ptr b1488 0 0)]))] 17) ?_
  refine Run.seq ?_
  refine Rn.g ?_
  refine Ro.t 1 ?_
  refine Ro.p (len_fz (EI .u8) x0) ?_
  refine Ro.t 1 ?_
  refine Ro.d (mkE [(0, (Zl (EI .u8) x0)), (0, (V.fn 54 [(V.ptr b1488 0 0)])), (5, (i6 (ln x0))), (0, (i6 (0 : Int)))] 10) ?_
  refine Run.block ?_
  obtain ⟨o, h1552, h⟩ := bind_some h
  refine (Run.iter (I := I73_1 x0 x1 b1488 L) (RR := RR73 b1488 x1 L) (J := J73_1 x0 x1 b1488 L) (fun s e h' t hI hf => ?_) FUEL h1552 (by exact ⟨(by kernel_rfl), hp⟩)).mono ?_
  · obtain ⟨rfl, hp⟩ := hI; exact w73_1_b hf hp
  · rintro X e' H hq
    cases o with
    | ret r => cases X <;> first | exact hq.elim | (cases h; exact hq)
    | go a => 
      cases X with | nrm => exact hq.elim | ret => exact hq.elim | ext i => ?_
      obtain ⟨rfl, he, hp⟩ := hq
      dsimp only at h
      refine Run.clrE (ts := [0, 1, 4, 5, 6, 7, 8, 9, 10, 11, 12, 13, 14, 15, 16, 17, 18]) (b := i73n20) (Q := (finE none [4] (Q73 b1488 x1 L r))) he ?_
      refine Rn.g ?_
      refine Ro.t 1 ?_
      refine Ro.d (mkE [(4, (i6 (-1 : Int)))] 14) ?_
      refine Run.ret ?_
      have h := Option.some.inj h; subst h
      exact ⟨(i6 (-1 : Int)), (by kernel_rfl), (by kernel_rfl), hp⟩

/- slices.ContainsFunc[[]smithy/api.Type,smithy/api.Type] -/
abbrev Q53 (b1487 : Nat) (x1 : Int) (L : List Ob) (r : Bool) : V → Heap → Prop := fun v h => v = EB.e r ∧ HP h ((some (b1487, 0), [(V.int .u8 x1)]) :: L)
abbrev RR53 (b1487 : Nat) (x1 : Int) (L : List Ob) (r : Bool) : List V → Heap → Prop := fun e h => endR none [4] (Q53 b1487 x1 L r) e h

def F53 (x0 : (List Int)) (x1 : Int) : Option Bool :=
  (F73 x0 x1).bind fun y1555 =>
  some (decide (y1555 ≥ (0 : Int)))

theorem w53 {x0 : (List Int)} {x1 : Int} {r : Bool} (h : F53 x0 x1 = some r) {b1487 : Nat} {H : Heap} {L : List Ob} (hp : HP H ((some (b1487, 0), [(V.int .u8 x1)]) :: L)) : Fn T 53 [(Zl (EI .u8) x0), (V.fn 54 [(V.ptr b1487 0 0)])] H (Q53 b1487 x1 L r) := by
  refine Fn.enterE t53 (e0 := (mkE [(0, (Zl (EI .u8) x0)), (0, (V.fn 54 [(V.ptr b1487 0 0)]))] 7)) (by kernel_rfl) ?_
  show Run T (.clr [] i53n3) _ _ (finE none [4] (Q53 b1487 x1 L r))
  refine Rn.k (mkE [(0, (Zl (EI .u8) x0)), (0, (V.fn 54 [(V.ptr b1487 0 0)]))] 7) ?_
  unfold F53 at h
  refine Rn.g ?_
  refine Ro.t 1 ?_
  refine Ro.d (mkE [(0, (Zl (EI .u8) x0)), (0, (V.fn 54 [(V.ptr b1487 0 0)]))] 7) ?_
  refine Rn.g ?_
  refine Ro.t 2 ?_
  obtain ⟨y1555, h1556, h⟩ := bind_some h
  have hp : HP _ ((some (b1487, 0), [(V.int .u8 x1)]) :: L) := hp
  refine RunO.h1 (n := 73) (caps := []) (us := [(Zl (EI .u8) x0), (V.fn 54 [(V.ptr b1487 0 0)])]) (by kernel_rfl) (by kernel_rfl) (by kernel_rfl) ((w73 h1556 hp).mono ?_)
  rintro _ H ⟨rfl, hp⟩
  have hp : HP H ((some (b1487, 0), [(V.int .u8 x1)]) :: L) := hp
  refine Ro.t 2 ?_
  refine Ro.d (mkE [(4, (V.bool (decide (y1555 ≥ (0 : Int)))))] 4) ?_
  refine Run.ret ?_
  have h := Option.some.inj h; subst h
  exact ⟨(V.bool (decide (y1555 ≥ (0 : Int)))), (by kernel_rfl), (by kernel_rfl), hp⟩

/- smithy/scalar.Cut -/
abbrev Q74 (L : List Ob) (r : Int) : V → Heap → Prop := fun v h => v = (EI .u64).e r ∧ HP h (L)
abbrev RR74 (L : List Ob) (r : Int) : List V → Heap → Prop := fun e h => endR none [4] (Q74 L r) e h

def F74_j1 (x1 : Int) : Option Int :=
  some x1

theorem w74_j1 {x1 : Int} {r : Int} (h : F74_j1 x1 = some r) {H : Heap} {L : List Ob} (hp : HP H (L)) :
    Run T i74n49 (mkE [(1, (V.int .u64 x1))] 30) H (blk 0 (thn T (.clr [0, 1, 4, 5, 6, 7, 8, 9, 10, 11, 12, 13, 14, 15, 16, 17, 18, 19, 20, 21, 22, 23, 24, 25, 26, 27, 28, 29, 30, 31] i74n54) (finE none [4] (Q74 L r)))) := by
  unfold F74_j1 at h
  refine Run.seq ?_
  refine Rn.g ?_
  refine Ro.t 2 ?_
  refine Ro.d (mkE [(4, (V.int .u64 x1))] 27) ?_
  refine Run.ret ?_
  have h := Option.some.inj h; subst h
  exact ⟨(V.int .u64 x1), (by kernel_rfl), (by kernel_rfl), hp⟩

def F74 (x0 : Int) (x1 : Int) : Option Int :=
  if (x0 == (1 : Int)) then
    some (IntKind.u64.wrap ((BitVec.ofInt IntKind.u64.bits x1 &&& BitVec.ofInt IntKind.u64.bits (1 : Int)).toNat : Int))
  else
    if (x0 == (2 : Int)) then
      some (IntKind.u64.wrap (IntKind.u8.wrap x1))
    else
      if (x0 == (3 : Int)) then
        some (IntKind.u64.wrap (IntKind.i64.wrap (IntKind.i32.wrap x1)))
      else
        if (x0 == (5 : Int)) then
          if (flO (some (Int.toNat x1)) (some (Int.toNat x1)) != some Ordering.eq) then
            some (9221120237041090560 : Int)
          else
            F74_j1 x1
        else
          if (x0 == (4 : Int)) then
            F74_j1 x1
          else
            some (0 : Int)

theorem w74 {x0 : Int} {x1 : Int} {r : Int} (h : F74 x0 x1 = some r) {H : Heap} {L : List Ob} (hp : HP H (L)) : Fn T 74 [(V.int .u8 x0), (V.int .u64 x1)] H (Q74 L r) := by
  refine Fn.enterE t74 (e0 := (mkE [(0, (V.int .u8 x0)), (0, (V.int .u64 x1))] 30)) (by kernel_rfl) ?_
  show Run T (.clr [] i74n56) _ _ (finE none [4] (Q74 L r))
  refine Rn.k (mkE [(0, (V.int .u8 x0)), (0, (V.int .u64 x1))] 30) ?_
  unfold F74 at h
  refine Rn.g ?_
  refine Ro.t 1 ?_
  refine Ro.d (mkE [(0, (V.int .u8 x0)), (0, (V.int .u64 x1))] 30) ?_
  refine Run.seq ?_
  refine Rn.g ?_
  refine Ro.t 1 ?_
  refine Ro.d (mkE [(1, (V.int .u64 x1)), (4, (V.int .u8 x0))] 25) ?_
  refine Run.block ?_
  refine Run.seq ?_
  refine Run.block ?_
  refine Run.seq ?_
  refine Run.block ?_
  refine Run.seq ?_
  refine Run.block ?_
  refine Run.seq ?_
  refine Run.block ?_
  refine Run.seq ?_
  refine Run.block ?_
  refine Run.seq ?_
  refine Run.seq ?_
  refine Rn.g ?_
  refine Ro.t 2 ?_
  refine Ro.d (mkE [(1, (V.int .u64 x1)), (4, (V.int .u8 x0)), (0, (V.bool (x0 == (1 : Int))))] 24) ?_
  rcases tf (x0 == (1 : Int)) with h2713 | h2713
  · rw [ite_t h2713] at h; refine Rn.t h2713 ?_
    refine Run.exit ?_
    refine Rn.c (mkE [(1, (V.int .u64 x1))] 30) ?_
    refine Run.seq ?_
    refine Rn.g ?_
    refine Ro.t 3 ?_
    refine Ro.d (mkE [(4, (V.int .u64 (IntKind.u64.wrap ((BitVec.ofInt IntKind.u64.bits x1 &&& BitVec.ofInt IntKind.u64.bits (1 : Int)).toNat : Int))))] 27) ?_
    refine Run.ret ?_
    have h := Option.some.inj h; subst h
    exact ⟨(V.int .u64 (IntKind.u64.wrap ((BitVec.ofInt IntKind.u64.bits x1 &&& BitVec.ofInt IntKind.u64.bits (1 : Int)).toNat : Int))), (by kernel_rfl), (by kernel_rfl), hp⟩
  · rw [ite_f h2713] at h; refine Rn.f h2713 ?_
    refine Run.skip ?_
    refine Rn.c (mkE [(1, (V.int .u64 x1)), (4, (V.int .u8 x0))] 25) ?_
    refine Run.seq ?_
    refine Rn.g ?_
    refine Ro.t 2 ?_
    refine Ro.d (mkE [(1, (V.int .u64 x1)), (4, (V.int .u8 x0)), (2, (V.bool (x0 == (2 : Int))))] 22) ?_
    rcases tf (x0 == (2 : Int)) with h2715 | h2715
    · rw [ite_t h2715] at h; refine Rn.t h2715 ?_
      refine Run.exit ?_
      refine Rn.c (mkE [(1, (V.int .u64 x1))] 30) ?_
      refine Run.seq ?_
      refine Rn.g ?_
      refine Ro.t 4 ?_
      refine Ro.d (mkE [(4, (V.int .u64 (IntKind.u64.wrap (IntKind.u8.wrap x1))))] 27) ?_
      refine Run.ret ?_
      have h := Option.some.inj h; subst h
      exact ⟨(V.int .u64 (IntKind.u64.wrap (IntKind.u8.wrap x1))), (by kernel_rfl), (by kernel_rfl), hp⟩
    · rw [ite_f h2715] at h; refine Rn.f h2715 ?_
      refine Run.skip ?_
      refine Rn.c (mkE [(1, (V.int .u64 x1)), (4, (V.int .u8 x0))] 25) ?_
      refine Run.seq ?_
      refine Rn.g ?_
      refine Ro.t 2 ?_
      refine Ro.d (mkE [(1, (V.int .u64 x1)), (4, (V.int .u8 x0)), (4, (V.bool (x0 == (3 : Int))))] 20) ?_
      rcases tf (x0 == (3 : Int)) with h2717 | h2717
      · rw [ite_t h2717] at h; refine Rn.t h2717 ?_
        refine Run.exit ?_
        refine Rn.c (mkE [(1, (V.int .u64 x1))] 30) ?_
        refine Run.seq ?_
        refine Rn.g ?_
        refine Ro.t 5 ?_
        refine Ro.d (mkE [(4, (V.int .u64 (IntKind.u64.wrap (IntKind.i64.wrap (IntKind.i32.wrap x1)))))] 27) ?_
        refine Run.ret ?_
        have h := Option.some.inj h; subst h
        exact ⟨(V.int .u64 (IntKind.u64.wrap (IntKind.i64.wrap (IntKind.i32.wrap x1)))), (by kernel_rfl), (by kernel_rfl), hp⟩
      · rw [ite_f h2717] at h; refine Rn.f h2717 ?_
        refine Run.skip ?_
        refine Rn.c (mkE [(1, (V.int .u64 x1)), (4, (V.int .u8 x0))] 25) ?_
        refine Run.seq ?_
        refine Rn.g ?_
        refine Ro.t 2 ?_
        refine Ro.d (mkE [(1, (V.int .u64 x1)), (4, (V.int .u8 x0)), (6, (V.bool (x0 == (5 : Int))))] 18) ?_
        rcases tf (x0 == (5 : Int)) with h2719 | h2719
        · rw [ite_t h2719] at h; refine Rn.t h2719 ?_
          refine Run.exit ?_
          refine Rn.c (mkE [(1, (V.int .u64 x1))] 30) ?_
          refine Rn.g ?_
          refine Ro.t 3 ?_
          refine Ro.d (mkE [(1, (V.int .u64 x1)), (3, (V.fl (some (Int.toNat x1))))] 26) ?_
          refine Rn.g ?_
          refine Ro.t 3 ?_
          refine Ro.d (mkE [(1, (V.int .u64 x1)), (28, (V.bool (flO (some (Int.toNat x1)) (some (Int.toNat x1)) != some Ordering.eq)))] 1) ?_
          rcases tf (flO (some (Int.toNat x1)) (some (Int.toNat x1)) != some Ordering.eq) with h2720 | h2720
          · rw [ite_t h2720] at h; refine Rn.t h2720 ?_
            refine Rn.g ?_
            refine Ro.t 1 ?_
            refine Ro.d (mkE [(4, (V.int .u64 (9221120237041090560 : Int)))] 27) ?_
            refine Run.ret ?_
            have h := Option.some.inj h; subst h
            exact ⟨(V.int .u64 (9221120237041090560 : Int)), (by kernel_rfl), (by kernel_rfl), hp⟩
          · rw [ite_f h2720] at h; refine Rn.f h2720 ?_
            refine Run.skip ?_
            refine Rn.c (mkE [(1, (V.int .u64 x1))] 30) ?_
            exact w74_j1 h hp
        · rw [ite_f h2719] at h; refine Rn.f h2719 ?_
          refine Run.skip ?_
          refine Rn.c (mkE [(1, (V.int .u64 x1)), (4, (V.int .u8 x0))] 25) ?_
          refine Rn.g ?_
          refine Ro.t 2 ?_
          refine Ro.d (mkE [(1, (V.int .u64 x1)), (13, (V.bool (x0 == (4 : Int))))] 16) ?_
          rcases tf (x0 == (4 : Int)) with h2721 | h2721
          · rw [ite_t h2721] at h; refine Rn.t h2721 ?_
            refine Run.exit ?_
            refine Rn.c (mkE [(1, (V.int .u64 x1))] 30) ?_
            exact w74_j1 h hp
          · rw [ite_f h2721] at h; refine Rn.f h2721 ?_
            refine Run.skip ?_
            refine Run.clrE (ts := [1, 6, 7, 8, 9, 10, 11, 12, 13, 14, 15, 16]) (b := (.exit 0)) (Q := (blk 1 (thn T (.clr [6, 7, 8, 9, 10, 11, 12, 13, 14, 15, 16] i74n25) (blk 2 (thn T (.clr [4, 6, 7, 8, 9, 10, 11, 12, 13, 14, 15, 16, 17, 18] i74n30) (blk 3 (thn T (.clr [4, 6, 7, 8, 9, 10, 11, 12, 13, 14, 15, 16, 17, 18, 19, 20, 21] i74n35) (blk 4 (thn T (.clr [4, 6, 7, 8, 9, 10, 11, 12, 13, 14, 15, 16, 17, 18, 19, 20, 21, 22, 23, 24, 25] i74n44) (blk 5 (thn T (.clr [4, 5, 6, 7, 8, 9, 10, 11, 12, 13, 14, 15, 16, 17, 18, 19, 20, 21, 22, 23, 24, 25, 26, 27, 28, 29, 30] i74n49) (blk 0 (thn T (.clr [0, 1, 4, 5, 6, 7, 8, 9, 10, 11, 12, 13, 14, 15, 16, 17, 18, 19, 20, 21, 22, 23, 24, 25, 26, 27, 28, 29, 30, 31] i74n54) (finE none [4] (Q74 L r))))))))))))))) (e' := (mkE [] 32)) (by kernel_rfl) ?_
            refine Run.exit ?_
            refine Rn.c (mkE [] 32) ?_
            refine Rn.g ?_
            refine Ro.t 1 ?_
            refine Ro.d (mkE [(4, (V.int .u64 (0 : Int)))] 27) ?_
            refine Run.ret ?_
            have h := Option.some.inj h; subst h
            exact ⟨(V.int .u64 (0 : Int)), (by kernel_rfl), (by kernel_rfl), hp⟩

theorem c74 {x0 : Int} {x1 : Int} {r : Int} (h : F74 x0 x1 = some r) (s : Bool) : Fn T 74 [(V.int .u8 x0), (V.int .u64 x1)] [] (fun v hh => deep s hh deepN v = some ((EI .u64).e r)) := by
  refine (w74 h HP.nil).mono ?_
  rintro v hh ⟨rfl, hp⟩
  exact (EI .u64).hd s hh 38 _ (.inr rfl)

/- smithy/scalar.Right -/
abbrev Q55 (L : List Ob) (r : Bool) : V → Heap → Prop := fun v h => v = EB.e r ∧ HP h (L)
abbrev RR55 (L : List Ob) (r : Bool) : List V → Heap → Prop := fun e h => endR none [4] (Q55 L r) e h

def F55 (x0 : Int) (x1 : Int) : Option Bool :=
  if (decide (x0 ≥ (1 : Int))) then
    if (decide (x0 ≤ (5 : Int))) then
      (F74 x0 x1).bind fun y2726 =>
      some (y2726 == x1)
    else
      some false
  else
    some false

theorem w55 {x0 : Int} {x1 : Int} {r : Bool} (h : F55 x0 x1 = some r) {H : Heap} {L : List Ob} (hp : HP H (L)) : Fn T 55 [(V.int .u8 x0), (V.int .u64 x1)] H (Q55 L r) := by
  refine Fn.enterE t55 (e0 := (mkE [(0, (V.int .u8 x0)), (0, (V.int .u64 x1))] 16)) (by kernel_rfl) ?_
  show Run T (.clr [] i55n3) _ _ (finE none [4] (Q55 L r))
  refine Rn.k (mkE [(0, (V.int .u8 x0)), (0, (V.int .u64 x1))] 16) ?_
  unfold F55 at h
  refine Rn.g ?_
  refine Ro.t 1 ?_
  refine Ro.d (mkE [(0, (V.int .u8 x0)), (0, (V.int .u64 x1))] 16) ?_
  refine Rn.g ?_
  refine Ro.t 1 ?_
  rcases tf (decide (x0 ≥ (1 : Int))) with h2724 | h2724
  · rw [ite_t h2724] at h; refine Ro.p (bool_of h2724) ?_
    refine Ro.t 2 ?_
    rcases tf (decide (x0 ≤ (5 : Int))) with h2725 | h2725
    · rw [ite_t h2725] at h; refine Ro.p (bool_of h2725) ?_
      refine Ro.t 4 ?_
      obtain ⟨y2726, h2727, h⟩ := bind_some h
      refine RunO.c1 (by kernel_rfl) (by kernel_rfl) (c74 h2727 _) ?_
      refine Ro.t 4 ?_
      refine Ro.d (mkE [(4, (V.bool (y2726 == x1)))] 13) ?_
      refine Run.ret ?_
      have h := Option.some.inj h; subst h
      exact ⟨(V.bool (y2726 == x1)), (by kernel_rfl), (by kernel_rfl), hp⟩
    · rw [ite_f h2725] at h; refine Ro.p (bool_of h2725) ?_
      refine Ro.t 9 ?_
      refine Ro.d (mkE [(4, (V.bool false))] 13) ?_
      refine Run.ret ?_
      have h := Option.some.inj h; subst h
      exact ⟨(V.bool false), (by kernel_rfl), (by kernel_rfl), hp⟩
  · rw [ite_f h2724] at h; refine Ro.p (bool_of h2724) ?_
    refine Ro.t 12 ?_
    refine Ro.d (mkE [(4, (V.bool false))] 13) ?_
    refine Run.ret ?_
    have h := Option.some.inj h; subst h
    exact ⟨(V.bool false), (by kernel_rfl), (by kernel_rfl), hp⟩

theorem c55 {x0 : Int} {x1 : Int} {r : Bool} (h : F55 x0 x1 = some r) (s : Bool) : Fn T 55 [(V.int .u8 x0), (V.int .u64 x1)] [] (fun v hh => deep s hh deepN v = some (EB.e r)) := by
  refine (w55 h HP.nil).mono ?_
  rintro v hh ⟨rfl, hp⟩
  exact EB.hd s hh 38 _ (.inr rfl)

/- smithy/scalar.whole -/
abbrev Q76 (L : List Ob) (r : Bool) : V → Heap → Prop := fun v h => v = EB.e r ∧ HP h (L)
abbrev RR76 (L : List Ob) (r : Bool) : List V → Heap → Prop := fun e h => endR none [2] (Q76 L r) e h

def F76 (x0 : Int) : Option Bool :=
  if (x0 == (2 : Int)) then
    some true
  else
    if (x0 == (3 : Int)) then
      some true
    else
      some (x0 == (4 : Int))

theorem w76 {x0 : Int} {r : Bool} (h : F76 x0 = some r) {H : Heap} {L : List Ob} (hp : HP H (L)) : Fn T 76 [(V.int .u8 x0)] H (Q76 L r) := by
  refine Fn.enterE t76 (e0 := (mkE [(0, (V.int .u8 x0))] 12)) (by kernel_rfl) ?_
  show Run T (.clr [] i76n3) _ _ (finE none [2] (Q76 L r))
  refine Rn.k (mkE [(0, (V.int .u8 x0))] 12) ?_
  unfold F76 at h
  refine Rn.g ?_
  refine Ro.t 1 ?_
  refine Ro.d (mkE [(0, (V.int .u8 x0))] 12) ?_
  refine Rn.g ?_
  refine Ro.t 1 ?_
  rcases tf (x0 == (2 : Int)) with h2871 | h2871
  · rw [ite_t h2871] at h; refine Ro.p (bool_of h2871) ?_
    refine Ro.t 9 ?_
    refine Ro.d (mkE [(2, (V.bool true))] 10) ?_
    refine Run.ret ?_
    have h := Option.some.inj h; subst h
    exact ⟨(V.bool true), (by kernel_rfl), (by kernel_rfl), hp⟩
  · rw [ite_f h2871] at h; refine Ro.p (bool_of h2871) ?_
    refine Ro.t 2 ?_
    rcases tf (x0 == (3 : Int)) with h2872 | h2872
    · rw [ite_t h2872] at h; refine Ro.p (bool_of h2872) ?_
      refine Ro.t 6 ?_
      refine Ro.d (mkE [(2, (V.bool true))] 10) ?_
      refine Run.ret ?_
      have h := Option.some.inj h; subst h
      exact ⟨(V.bool true), (by kernel_rfl), (by kernel_rfl), hp⟩
    · rw [ite_f h2872] at h; refine Ro.p (bool_of h2872) ?_
      refine Ro.t 6 ?_
      refine Ro.d (mkE [(2, (V.bool (x0 == (4 : Int))))] 10) ?_
      refine Run.ret ?_
      have h := Option.some.inj h; subst h
      exact ⟨(V.bool (x0 == (4 : Int))), (by kernel_rfl), (by kernel_rfl), hp⟩

theorem c76 {x0 : Int} {r : Bool} (h : F76 x0 = some r) (s : Bool) : Fn T 76 [(V.int .u8 x0)] [] (fun v hh => deep s hh deepN v = some (EB.e r)) := by
  refine (w76 h HP.nil).mono ?_
  rintro v hh ⟨rfl, hp⟩
  exact EB.hd s hh 38 _ (.inr rfl)

end Go.Eng.Gra
