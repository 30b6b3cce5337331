/- Functions of this seat, run on unknown values by the rules of the small machine (no condition beyond those stated). -/
import Derived.Test.YtfkakbipedafiaaDoorGtrIr
import Derived.Test.YtfkakbipedafiaaDoorGtrTyUp
import Derived.Test.YtfkakbipedafiaaDoorGtrOUp
namespace Go.Eng.Gra
open Go Go.Eng
set_option linter.unusedSectionVars false
set_option linter.unusedVariables false
set_option linter.unusedSimpArgs false
set_option maxRecDepth 20000
abbrev Q12 (L : List Ob) (r : Bool) : V → Heap → Prop := fun v h => v = EB.e r ∧ HP h (L)
abbrev RR12 (L : List Ob) (r : Bool) : List V → Heap → Prop := fun e h => endR none [2] (Q12 L r) e h
abbrev I12_1 (x0 : T_Graph) (L : List Ob) : (Int × Int) → List V → Heap → Prop := fun s e h => e = (mkE [(1,(V.fp (E_Graph.e x0))),(1,(i6 s.1)),(0,(i6 s.2))] 69) ∧ HP h (L)
abbrev J12_1 (x0 : T_Graph) (L : List Ob) : Unit → Nat → List V → Heap → Prop := fun a i e h => i = 0 ∧ clrEnv [1,2,3,4,5,28,29,30,31,32,33,34,35,36,37,38,39,40,41,42,43,44,45,46,47,48,49,50,51,52,53,54,55,56,57,58,59,60,61,62,63,64,65,66,67,68,69,70,71,72,73] e = (mkE [] 74) ∧ HP h (L)
abbrev I12_2 (x0 : T_Graph) (y206 : Int) (L : List Ob) : (Int × Int) → List V → Heap → Prop := fun s e h => e = (mkE [(1,(V.fp (E_Graph.e x0))),(1,(i6 s.1)),(0,(i6 y206)),(0,(i6 s.2))] 68) ∧ HP h (L)
abbrev J12_2 (x0 : T_Graph) (y206 : Int) (L : List Ob) : (Int) → Nat → List V → Heap → Prop := fun a i e h => i = 2 ∧ clrEnv [5,44,45,46,47,48,49,50,51,52,53,54,55,56,57,58,59,60,61,62,63,64,65,66,67,68,69,70,71] e = (mkE [(1,(V.fp (E_Graph.e x0))),(1,(i6 a)),(0,(i6 y206))] 69) ∧ HP h (L)
def F12_2_b (x0 : T_Graph) (y206 : Int) (y315 : Int) (y316 : Int) : Option (Stp (Int × Int) Bool (Int)) :=
  (idx x0.fBlocks y206).bind fun y334 =>
  if (decide (y316 < ((List.length y334.fIns : Nat) : Int))) then
    if (decide (y315 ≤ (2000 : Int))) then
      (idx x0.fBlocks y206).bind fun y338 =>
      (idx y338.fIns y316).bind fun y340 =>
      some (.next ((IntKind.i64.wrap (y315 + ((List.length y340.fArgs : Nat) : Int))),(IntKind.i64.wrap (y316 + (1 : Int)))))
    else
      some (.go (y315))
  else
    some (.go (y315))
theorem w12_2_b {x0 : T_Graph} {y206 : Int} {y315 : Int} {y316 : Int} {t : (Stp (Int × Int) Bool (Int))} (h : F12_2_b x0 y206 y315 y316 = some t) {H : Heap} {L : List Ob} (hp : HP H (L)) :
    Run T i12n20 (mkE [(1,(V.fp (E_Graph.e x0))),(1,(i6 y315)),(0,(i6 y206)),(0,(i6 y316))] 68) H (stp [44,45,46,47,48,49,50,51,52,53,54,55,56,57,58,59,60,61,62,63,64,65,66,67,68,69,70,71] (I12_2 x0 y206 L) (RR12 L) (J12_2 x0 y206 L) t) := by
  unfold F12_2_b at h;refine Run.seq ?_;refine Rn.g ?_;refine Ro.t 4 ?_;obtain ⟨y334,h335,h⟩ := bind_some h;refine Ro.p (idx_fz E_Block .i64 h335) ?_;refine Ro.t 2 ?_;refine Ro.p (len_fz E_Ins y334.fIns) ?_;rcases tf (decide (y316 < (ln y334.fIns))) with h336 | h336
  · rw [ite_t h336] at h; refine Ro.p (bool_of h336) ?_;refine Ro.t 4 ?_;refine Ro.d (mkE [(1,(V.fp (E_Graph.e x0))),(1,(i6 y315)),(0,(i6 y206)),(0,(i6 y316)),(50,(V.bool (decide (y315 ≤ (2000 : Int)))))] 17) ?_;rcases tf (decide (y315 ≤ (2000 : Int))) with h337 | h337
    · rw [ite_t h337] at h; refine Rn.t h337 ?_;refine Run.skip ?_;refine Rn.c (mkE [(1,(V.fp (E_Graph.e x0))),(1,(i6 y315)),(0,(i6 y206)),(0,(i6 y316))] 68) ?_;refine Run.seq ?_;refine Run.block ?_;refine Run.rgn ?_;refine Ro.t 4 ?_;obtain ⟨y338,h339,h⟩ := bind_some h;refine Ro.p (idx_fz E_Block .i64 h339) ?_;refine Ro.t 3 ?_;obtain ⟨y340,h341,h⟩ := bind_some h;refine Ro.p (idx_fz E_Ins .i64 h341) ?_;refine Ro.t 2 ?_;refine Ro.p (len_fz (EI .i64) y340.fArgs) ?_;refine Ro.t 2 ?_;refine RunO.nil ?_;refine Run.clrE (ts := [59,60,61,62,63,64,65,66,67,68,69,70,71]) (b := (.rgn i12r18)) (Q := (stp [44,45,46,47,48,49,50,51,52,53,54,55,56,57,58,59,60,61,62,63,64,65,66,67,68,69,70,71] (I12_2 x0 y206 L) (RR12 L) (J12_2 x0 y206 L) t)) (e' := (mkE [(1,(V.fp (E_Graph.e x0))),(1,(i6 (IntKind.i64.wrap (y315 + (ln y340.fArgs))))),(0,(i6 y206)),(0,(i6 y316))] 68)) (by kernel_rfl) ?_;refine Run.rgn ?_;refine Ro.t 3 ?_;refine RunO.nil ?_;have h := Option.some.inj h; subst h;show I12_2 x0 y206 L _ _ _;exact ⟨(by kernel_rfl),hp⟩
    · rw [ite_f h337] at h; refine Rn.f h337 ?_;refine Run.exit ?_;have h := Option.some.inj h; subst h;show J12_2 x0 y206 L _ _ _ _;exact ⟨rfl,(by kernel_rfl),hp⟩
  · rw [ite_f h336] at h; refine Ro.p (bool_of h336) ?_;refine Ro.t 4 ?_;refine Ro.d (mkE [(1,(V.fp (E_Graph.e x0))),(1,(i6 y315)),(0,(i6 y206)),(0,(i6 y316)),(50,(V.bool false))] 17) ?_;refine Run.condF (by kernel_rfl) ?_;refine Run.exit ?_;have h := Option.some.inj h; subst h;show J12_2 x0 y206 L _ _ _ _;exact ⟨rfl,(by kernel_rfl),hp⟩
def F12_1_b (x0 : T_Graph) (y205 : Int) (y206 : Int) : Option (Stp (Int × Int) Bool Unit) :=
  if (decide (y206 < ((List.length x0.fBlocks : Nat) : Int))) then
    (idx x0.fBlocks y206).bind fun y301 =>
    (iter (fun s : (Int × Int) => F12_2_b x0 y206 s.1 s.2) FUEL ((IntKind.i64.wrap (y205 + ((List.length y301.fIns : Nat) : Int))),(0 : Int))).bind fun o => match o with
    | .ret r => some (.ret r)
    | .go (y329) =>
      if (decide (y329 > (2000 : Int))) then
        some (.ret true)
      else
        some (.next (y329,(IntKind.i64.wrap (y206 + (1 : Int)))))
  else
    some (.go ())
theorem w12_1_b {x0 : T_Graph} {y205 : Int} {y206 : Int} {t : (Stp (Int × Int) Bool Unit)} (h : F12_1_b x0 y205 y206 = some t) {H : Heap} {L : List Ob} (hp : HP H (L)) :
    Run T i12n34 (mkE [(1,(V.fp (E_Graph.e x0))),(1,(i6 y205)),(0,(i6 y206))] 69) H (stp [2,5,28,29,30,31,32,33,34,35,36,37,38,39,40,41,42,43,44,45,46,47,48,49,50,51,52,53,54,55,56,57,58,59,60,61,62,63,64,65,66,67,68,69,70,71,72,73] (I12_1 x0 L) (RR12 L) (J12_1 x0 L) t) := by
  unfold F12_1_b at h;refine Run.seq ?_;refine Rn.g ?_;refine Ro.t 3 ?_;refine Ro.p (len_fz E_Block x0.fBlocks) ?_;refine Ro.t 1 ?_;refine Ro.d (mkE [(1,(V.fp (E_Graph.e x0))),(1,(i6 y205)),(0,(i6 y206)),(27,(V.bool (decide (y206 < (ln x0.fBlocks)))))] 41) ?_;rcases tf (decide (y206 < (ln x0.fBlocks))) with h270 | h270
  · rw [ite_t h270] at h; refine Rn.t h270 ?_;refine Run.skip ?_;refine Rn.c (mkE [(1,(V.fp (E_Graph.e x0))),(1,(i6 y205)),(0,(i6 y206))] 69) ?_;refine Run.seq ?_;refine Run.block ?_;refine Rn.g ?_;refine Ro.t 4 ?_;obtain ⟨y301,h302,h⟩ := bind_some h;refine Ro.p (idx_fz E_Block .i64 h302) ?_;refine Ro.t 2 ?_;refine Ro.p (len_fz E_Ins y301.fIns) ?_;refine Ro.t 2 ?_;refine Ro.d (mkE [(1,(V.fp (E_Graph.e x0))),(1,(i6 (IntKind.i64.wrap (y205 + (ln y301.fIns))))),(0,(i6 y206))] 69) ?_;refine Run.seq ?_;refine Rn.g ?_;refine Ro.t 1 ?_;refine Ro.d (mkE [(1,(V.fp (E_Graph.e x0))),(1,(i6 (IntKind.i64.wrap (y205 + (ln y301.fIns))))),(0,(i6 y206)),(0,(i6 (0 : Int)))] 68) ?_;refine Run.block ?_;obtain ⟨o,h342,h⟩ := bind_some h;refine (Run.iter (I := I12_2 x0 y206 L) (RR := RR12 L) (J := J12_2 x0 y206 L) (fun s e h' t hI hf => ?_) FUEL h342 (by exact ⟨(by kernel_rfl),hp⟩)).mono ?_
    · obtain ⟨rfl,hp⟩ := hI; exact w12_2_b hf hp
    · rintro X e' H hq;cases o with
      | ret r => cases X <;> first | exact hq.elim | (cases h; exact hq)
      | go y329 =>
        cases X with | nrm => exact hq.elim | ret => exact hq.elim | ext i => ?_;obtain ⟨rfl,he,hp⟩ := hq
        dsimp only at h
        refine Run.clrE (ts := [5,44,45,46,47,48,49,50,51,52,53,54,55,56,57,58,59,60,61,62,63,64,65,66,67,68,69,70,71]) (b := i12n28) (Q := (blk 1 (thn T (.clr [2,5,35,36,37,38,39,40,41,42,43,44,45,46,47,48,49,50,51,52,53,54,55,56,57,58,59,60,61,62,63,64,65,66,67,68,69,70,71,72,73] (.rgn i12r32)) (stp [2,5,28,29,30,31,32,33,34,35,36,37,38,39,40,41,42,43,44,45,46,47,48,49,50,51,52,53,54,55,56,57,58,59,60,61,62,63,64,65,66,67,68,69,70,71,72,73] (I12_1 x0 L) (RR12 L) (J12_1 x0 L) t)))) he ?_;refine Rn.g ?_;refine Ro.t 2 ?_;refine Ro.d (mkE [(1,(V.fp (E_Graph.e x0))),(1,(i6 y329)),(0,(i6 y206)),(68,(V.bool (decide (y329 > (2000 : Int)))))] 0) ?_;rcases tf (decide (y329 > (2000 : Int))) with h343 | h343
        · rw [ite_t h343] at h; refine Rn.t h343 ?_;refine Rn.g ?_;refine Ro.t 1 ?_;refine Ro.d (mkE [(2,(V.bool true))] 71) ?_;refine Run.ret ?_;have h := Option.some.inj h; subst h;show RR12 L _ _ _;exact ⟨(V.bool true),(by kernel_rfl),(by kernel_rfl),hp⟩
        · rw [ite_f h343] at h; refine Rn.f h343 ?_;refine Run.skip ?_;refine Run.clrE (ts := [2,5,35,36,37,38,39,40,41,42,43,44,45,46,47,48,49,50,51,52,53,54,55,56,57,58,59,60,61,62,63,64,65,66,67,68,69,70,71,72,73]) (b := (.rgn i12r32)) (Q := (stp [2,5,28,29,30,31,32,33,34,35,36,37,38,39,40,41,42,43,44,45,46,47,48,49,50,51,52,53,54,55,56,57,58,59,60,61,62,63,64,65,66,67,68,69,70,71,72,73] (I12_1 x0 L) (RR12 L) (J12_1 x0 L) t)) (e' := (mkE [(1,(V.fp (E_Graph.e x0))),(1,(i6 y329)),(0,(i6 y206))] 69)) (by kernel_rfl) ?_;refine Run.rgn ?_;refine Ro.t 3 ?_;refine RunO.nil ?_;have h := Option.some.inj h; subst h;show I12_1 x0 L _ _ _;exact ⟨(by kernel_rfl),hp⟩
  · rw [ite_f h270] at h; refine Rn.f h270 ?_;refine Run.exit ?_;have h := Option.some.inj h; subst h;show J12_1 x0 L () _ _ _;exact ⟨rfl,(by kernel_rfl),hp⟩
def F12 (x0 : T_Graph) : Option Bool :=
  if (decide (((List.length x0.fBlocks : Nat) : Int) > (400 : Int))) then
    some true
  else
    if (decide (((List.length x0.fVars : Nat) : Int) > (2000 : Int))) then
      some true
    else
      if (decide (((List.length x0.fArrays : Nat) : Int) > (2000 : Int))) then
        some true
      else
        if (decide (((List.length x0.fParams : Nat) : Int) > (2000 : Int))) then
          some true
        else
          (iter (fun s : (Int × Int) => F12_1_b x0 s.1 s.2) FUEL ((0 : Int),(0 : Int))).bind fun o => match o with
          | .ret r => some r
          | .go () =>
            some false
theorem w12 {x0 : T_Graph} {r : Bool} (h : F12 x0 = some r) {H : Heap} {L : List Ob} (hp : HP H (L)) : Fn T 12 [(E_Graph.e x0)] H (Q12 L r) := by
  refine Fn.enterE t12 (e0 := (mkE [(0,(E_Graph.e x0))] 73)) (by kernel_rfl) ?_;show Run T (.clr [] i12n43) _ _ (finE none [2] (Q12 L r));refine Rn.k (mkE [(0,(E_Graph.e x0))] 73) ?_;unfold F12 at h;refine Rn.g ?_;refine Ro.t 2 ?_;refine Ro.d (mkE [(1,(V.fp (E_Graph.e x0)))] 72) ?_;refine Run.seq ?_;refine Rn.g ?_;refine Ro.t 2 ?_;refine Ro.p (len_fz E_Block x0.fBlocks) ?_;rcases tf (decide ((ln x0.fBlocks) > (400 : Int))) with h139 | h139
  · rw [ite_t h139] at h; refine Ro.p (bool_of h139) ?_;refine Ro.t 18 ?_;refine Ro.d (mkE [(1,(V.fp (E_Graph.e x0))),(25,(V.bool true))] 46) ?_;refine Run.condT (by kernel_rfl) ?_;refine Rn.g ?_;refine Ro.t 1 ?_;refine Ro.d (mkE [(2,(V.bool true))] 71) ?_;refine Run.ret ?_;have h := Option.some.inj h; subst h;exact ⟨(V.bool true),(by kernel_rfl),(by kernel_rfl),hp⟩
  · rw [ite_f h139] at h; refine Ro.p (bool_of h139) ?_;refine Ro.t 3 ?_;refine Ro.p (len_fz (EI .u8) x0.fVars) ?_;rcases tf (decide ((ln x0.fVars) > (2000 : Int))) with h140 | h140
    · rw [ite_t h140] at h; refine Ro.p (bool_of h140) ?_;refine Ro.t 13 ?_;refine Ro.d (mkE [(1,(V.fp (E_Graph.e x0))),(25,(V.bool true))] 46) ?_;refine Run.condT (by kernel_rfl) ?_;refine Rn.g ?_;refine Ro.t 1 ?_;refine Ro.d (mkE [(2,(V.bool true))] 71) ?_;refine Run.ret ?_;have h := Option.some.inj h; subst h;exact ⟨(V.bool true),(by kernel_rfl),(by kernel_rfl),hp⟩
    · rw [ite_f h140] at h; refine Ro.p (bool_of h140) ?_;refine Ro.t 4 ?_;refine Ro.p (len_fz E_Array x0.fArrays) ?_;rcases tf (decide ((ln x0.fArrays) > (2000 : Int))) with h141 | h141
      · rw [ite_t h141] at h; refine Ro.p (bool_of h141) ?_;refine Ro.t 7 ?_;refine Ro.d (mkE [(1,(V.fp (E_Graph.e x0))),(25,(V.bool true))] 46) ?_;refine Run.condT (by kernel_rfl) ?_;refine Rn.g ?_;refine Ro.t 1 ?_;refine Ro.d (mkE [(2,(V.bool true))] 71) ?_;refine Run.ret ?_;have h := Option.some.inj h; subst h;exact ⟨(V.bool true),(by kernel_rfl),(by kernel_rfl),hp⟩
      · rw [ite_f h141] at h; refine Ro.p (bool_of h141) ?_;refine Ro.t 4 ?_;refine Ro.p (len_fz (EI .i64) x0.fParams) ?_;refine Ro.t 2 ?_;refine Ro.d (mkE [(1,(V.fp (E_Graph.e x0))),(25,(V.bool (decide ((ln x0.fParams) > (2000 : Int)))))] 46) ?_;rcases tf (decide ((ln x0.fParams) > (2000 : Int))) with h142 | h142
        · rw [ite_t h142] at h; refine Rn.t h142 ?_;refine Rn.g ?_;refine Ro.t 1 ?_;refine Ro.d (mkE [(2,(V.bool true))] 71) ?_;refine Run.ret ?_;have h := Option.some.inj h; subst h;exact ⟨(V.bool true),(by kernel_rfl),(by kernel_rfl),hp⟩
        · rw [ite_f h142] at h; refine Rn.f h142 ?_;refine Run.skip ?_;refine Rn.c (mkE [(1,(V.fp (E_Graph.e x0)))] 72) ?_;refine Rn.g ?_;refine Ro.t 1 ?_;refine Ro.d (mkE [(1,(V.fp (E_Graph.e x0))),(1,(i6 (0 : Int)))] 70) ?_;refine Run.seq ?_;refine Rn.g ?_;refine Ro.t 1 ?_;refine Ro.d (mkE [(1,(V.fp (E_Graph.e x0))),(1,(i6 (0 : Int))),(0,(i6 (0 : Int)))] 69) ?_;refine Run.block ?_;obtain ⟨o,h344,h⟩ := bind_some h;refine (Run.iter (I := I12_1 x0 L) (RR := RR12 L) (J := J12_1 x0 L) (fun s e h' t hI hf => ?_) FUEL h344 (by exact ⟨(by kernel_rfl),hp⟩)).mono ?_
          · obtain ⟨rfl,hp⟩ := hI; exact w12_1_b hf hp
          · rintro X e' H hq;cases o with
            | ret r => cases X <;> first | exact hq.elim | (cases h; exact hq)
            | go a =>
              cases X with | nrm => exact hq.elim | ret => exact hq.elim | ext i => ?_;obtain ⟨rfl,he,hp⟩ := hq
              dsimp only at h
              refine Run.clrE (ts := [1,2,3,4,5,28,29,30,31,32,33,34,35,36,37,38,39,40,41,42,43,44,45,46,47,48,49,50,51,52,53,54,55,56,57,58,59,60,61,62,63,64,65,66,67,68,69,70,71,72,73]) (b := i12n39) (Q := (finE none [2] (Q12 L r))) he ?_;refine Rn.g ?_;refine Ro.t 1 ?_;refine Ro.d (mkE [(2,(V.bool false))] 71) ?_;refine Run.ret ?_;have h := Option.some.inj h; subst h;exact ⟨(V.bool false),(by kernel_rfl),(by kernel_rfl),hp⟩
theorem c12 {x0 : T_Graph} {r : Bool} (h : F12 x0 = some r) (s : Bool) : Fn T 12 [(E_Graph.e x0)] [] (fun v hh => deep s hh deepN v = some (EB.e r)) := by
  refine (w12 h HP.nil).mono ?_;rintro v hh ⟨rfl,hp⟩;exact EB.hd s hh 38 _ (.inr rfl)
abbrev Q78 (L : List Ob) (r : Bool) : V → Heap → Prop := fun v h => v = EB.e r ∧ HP h (L)
abbrev RR78 (L : List Ob) (r : Bool) : List V → Heap → Prop := fun e h => endR none [2] (Q78 L r) e h
def F78 (x0 : Int) : Option Bool :=
  if (decide (x0 ≥ (1 : Int))) then
    some (decide (x0 ≤ (5 : Int)))
  else
    some false
theorem w78 {x0 : Int} {r : Bool} (h : F78 x0 = some r) {H : Heap} {L : List Ob} (hp : HP H (L)) : Fn T 78 [(V.int .u8 x0)] H (Q78 L r) := by
  refine Fn.enterE t78 (e0 := (mkE [(0,(V.int .u8 x0))] 8)) (by kernel_rfl) ?_;show Run T (.clr [] i78n3) _ _ (finE none [2] (Q78 L r));refine Rn.k (mkE [(0,(V.int .u8 x0))] 8) ?_;unfold F78 at h;refine Rn.g ?_;refine Ro.t 1 ?_;refine Ro.d (mkE [(0,(V.int .u8 x0))] 8) ?_;refine Rn.g ?_;refine Ro.t 1 ?_;rcases tf (decide (x0 ≥ (1 : Int))) with h362 | h362
  · rw [ite_t h362] at h; refine Ro.p (bool_of h362) ?_;refine Ro.t 5 ?_;refine Ro.d (mkE [(2,(V.bool (decide (x0 ≤ (5 : Int)))))] 6) ?_;refine Run.ret ?_;have h := Option.some.inj h; subst h;exact ⟨(V.bool (decide (x0 ≤ (5 : Int)))),(by kernel_rfl),(by kernel_rfl),hp⟩
  · rw [ite_f h362] at h; refine Ro.p (bool_of h362) ?_;refine Ro.t 5 ?_;refine Ro.d (mkE [(2,(V.bool false))] 6) ?_;refine Run.ret ?_;have h := Option.some.inj h; subst h;exact ⟨(V.bool false),(by kernel_rfl),(by kernel_rfl),hp⟩
theorem c78 {x0 : Int} {r : Bool} (h : F78 x0 = some r) (s : Bool) : Fn T 78 [(V.int .u8 x0)] [] (fun v hh => deep s hh deepN v = some (EB.e r)) := by
  refine (w78 h HP.nil).mono ?_;rintro v hh ⟨rfl,hp⟩;exact EB.hd s hh 38 _ (.inr rfl)
abbrev Q65 (L : List Ob) (r : Int) : V → Heap → Prop := fun v h => v = (EI .i64).e r ∧ HP h (L)
abbrev RR65 (L : List Ob) (r : Int) : List V → Heap → Prop := fun e h => endR none [4] (Q65 L r) e h
abbrev I65_1 (x0 : (List Int)) (x1 : Int) (L : List Ob) : (Int) → List V → Heap → Prop := fun s e h => e = (mkE [(0,(Zl (EI .i64) x0)),(0,(i6 x1)),(5,(i6 (ln x0))),(0,(i6 s))] 10) ∧ HP h (L)
abbrev J65_1 (x0 : (List Int)) (x1 : Int) (L : List Ob) : Unit → Nat → List V → Heap → Prop := fun a i e h => i = 0 ∧ clrEnv [0,1,4,5,6,7,8,9,10,11,12,13,14,15,16,17,18] e = (mkE [] 19) ∧ HP h (L)
def F65_1_b (x0 : (List Int)) (x1 : Int) (y470 : Int) : Option (Stp (Int) Int Unit) :=
  if (decide (y470 < ((List.length x0 : Nat) : Int))) then
    (idx x0 y470).bind fun y484 =>
    if (x1 == y484) then
      some (.ret y470)
    else
      some (.next ((IntKind.i64.wrap (y470 + (1 : Int)))))
  else
    some (.go ())
theorem w65_1_b {x0 : (List Int)} {x1 : Int} {y470 : Int} {t : (Stp (Int) Int Unit)} (h : F65_1_b x0 x1 y470 = some t) {H : Heap} {L : List Ob} (hp : HP H (L)) :
    Run T i65n15 (mkE [(0,(Zl (EI .i64) x0)),(0,(i6 x1)),(5,(i6 (ln x0))),(0,(i6 y470))] 10) H (stp [4,5,9,10,11,12,13,14,15,16,17,18] (I65_1 x0 x1 L) (RR65 L) (J65_1 x0 x1 L) t) := by
  unfold F65_1_b at h;refine Rn.g ?_;refine Ro.t 1 ?_;refine Ro.d (mkE [(0,(Zl (EI .i64) x0)),(0,(i6 x1)),(5,(i6 (ln x0))),(0,(i6 y470)),(0,(V.bool (decide (y470 < (ln x0)))))] 9) ?_;refine Run.seq ?_;rcases tf (decide (y470 < (ln x0))) with h480 | h480
  · rw [ite_t h480] at h; refine Rn.t h480 ?_;refine Run.skip ?_;refine Rn.c (mkE [(0,(Zl (EI .i64) x0)),(0,(i6 x1)),(5,(i6 (ln x0))),(0,(i6 y470))] 10) ?_;refine Run.seq ?_;refine Run.block ?_;refine Rn.g ?_;refine Ro.t 2 ?_;refine Ro.d (mkE [(0,(Zl (EI .i64) x0)),(0,(i6 x1)),(3,(i6 y470)),(1,(i6 (ln x0))),(0,(i6 y470))] 10) ?_;refine Rn.g ?_;refine Ro.t 3 ?_;obtain ⟨y484,h485,h⟩ := bind_some h;refine Ro.p (idx_fz (EI .i64) .i64 h485) ?_;refine Ro.t 2 ?_;refine Ro.d (mkE [(0,(Zl (EI .i64) x0)),(0,(i6 x1)),(3,(i6 y470)),(1,(i6 (ln x0))),(0,(i6 y470)),(7,(V.bool (x1 == y484)))] 2) ?_;rcases tf (x1 == y484) with h486 | h486
    · rw [ite_t h486] at h; refine Rn.t h486 ?_;refine Rn.g ?_;refine Ro.t 2 ?_;refine Ro.d (mkE [(4,(i6 y470))] 14) ?_;refine Run.ret ?_;have h := Option.some.inj h; subst h;show RR65 L _ _ _;exact ⟨(i6 y470),(by kernel_rfl),(by kernel_rfl),hp⟩
    · rw [ite_f h486] at h; refine Rn.f h486 ?_;refine Run.skip ?_;refine Run.clrE (ts := [4,5,10,11,12,13,14,15,16,17]) (b := (.rgn i65r12)) (Q := (stp [4,5,9,10,11,12,13,14,15,16,17,18] (I65_1 x0 x1 L) (RR65 L) (J65_1 x0 x1 L) t)) (e' := (mkE [(0,(Zl (EI .i64) x0)),(0,(i6 x1)),(5,(i6 (ln x0))),(0,(i6 y470))] 10)) (by kernel_rfl) ?_;refine Run.rgn ?_;refine Ro.t 2 ?_;refine RunO.nil ?_;have h := Option.some.inj h; subst h;show I65_1 x0 x1 L _ _ _;exact ⟨(by kernel_rfl),hp⟩
  · rw [ite_f h480] at h; refine Rn.f h480 ?_;refine Run.exit ?_;have h := Option.some.inj h; subst h;show J65_1 x0 x1 L () _ _ _;exact ⟨rfl,(by kernel_rfl),hp⟩
def F65 (x0 : (List Int)) (x1 : Int) : Option Int :=
  (iter (fun s : (Int) => F65_1_b x0 x1 s) FUEL ((0 : Int))).bind fun o => match o with
  | .ret r => some r
  | .go () =>
    some (-1 : Int)
theorem w65 {x0 : (List Int)} {x1 : Int} {r : Int} (h : F65 x0 x1 = some r) {H : Heap} {L : List Ob} (hp : HP H (L)) : Fn T 65 [(Zl (EI .i64) x0),(i6 x1)] H (Q65 L r) := by
  refine Fn.enterE t65 (e0 := (mkE [(0,(Zl (EI .i64) x0)),(0,(i6 x1))] 17)) (by kernel_rfl) ?_;show Run T (.clr [] i65n22) _ _ (finE none [4] (Q65 L r));refine Rn.k (mkE [(0,(Zl (EI .i64) x0)),(0,(i6 x1))] 17) ?_;unfold F65 at h;refine Rn.g ?_;refine Ro.t 1 ?_;refine Ro.d (mkE [(0,(Zl (EI .i64) x0)),(0,(i6 x1))] 17) ?_;refine Run.seq ?_;refine Rn.g ?_;refine Ro.t 1 ?_;refine Ro.p (len_fz (EI .i64) x0) ?_;refine Ro.t 1 ?_;refine Ro.d (mkE [(0,(Zl (EI .i64) x0)),(0,(i6 x1)),(5,(i6 (ln x0))),(0,(i6 (0 : Int)))] 10) ?_;refine Run.block ?_;obtain ⟨o,h487,h⟩ := bind_some h;refine (Run.iter (I := I65_1 x0 x1 L) (RR := RR65 L) (J := J65_1 x0 x1 L) (fun s e h' t hI hf => ?_) FUEL h487 (by exact ⟨(by kernel_rfl),hp⟩)).mono ?_
  · obtain ⟨rfl,hp⟩ := hI; exact w65_1_b hf hp
  · rintro X e' H hq;cases o with
    | ret r => cases X <;> first | exact hq.elim | (cases h; exact hq)
    | go a =>
      cases X with | nrm => exact hq.elim | ret => exact hq.elim | ext i => ?_;obtain ⟨rfl,he,hp⟩ := hq
      dsimp only at h
      refine Run.clrE (ts := [0,1,4,5,6,7,8,9,10,11,12,13,14,15,16,17,18]) (b := i65n20) (Q := (finE none [4] (Q65 L r))) he ?_;refine Rn.g ?_;refine Ro.t 1 ?_;refine Ro.d (mkE [(4,(i6 (-1 : Int)))] 14) ?_;refine Run.ret ?_;have h := Option.some.inj h; subst h;exact ⟨(i6 (-1 : Int)),(by kernel_rfl),(by kernel_rfl),hp⟩
theorem c65 {x0 : (List Int)} {x1 : Int} {r : Int} (h : F65 x0 x1 = some r) (s : Bool) : Fn T 65 [(Zl (EI .i64) x0),(i6 x1)] [] (fun v hh => deep s hh deepN v = some ((EI .i64).e r)) := by
  refine (w65 h HP.nil).mono ?_;rintro v hh ⟨rfl,hp⟩;exact (EI .i64).hd s hh 38 _ (.inr rfl)
abbrev Q79 (L : List Ob) (r : Bool) : V → Heap → Prop := fun v h => v = EB.e r ∧ HP h (L)
abbrev RR79 (L : List Ob) (r : Bool) : List V → Heap → Prop := fun e h => endR none [4] (Q79 L r) e h
def F79 (x0 : (List Int)) (x1 : Int) : Option Bool :=
  (F65 x0 x1).bind fun y490 =>
  some (decide (y490 ≥ (0 : Int)))
theorem w79 {x0 : (List Int)} {x1 : Int} {r : Bool} (h : F79 x0 x1 = some r) {H : Heap} {L : List Ob} (hp : HP H (L)) : Fn T 79 [(Zl (EI .i64) x0),(i6 x1)] H (Q79 L r) := by
  refine Fn.enterE t79 (e0 := (mkE [(0,(Zl (EI .i64) x0)),(0,(i6 x1))] 7)) (by kernel_rfl) ?_;show Run T (.clr [] i79n3) _ _ (finE none [4] (Q79 L r));refine Rn.k (mkE [(0,(Zl (EI .i64) x0)),(0,(i6 x1))] 7) ?_;unfold F79 at h;refine Rn.g ?_;refine Ro.t 1 ?_;refine Ro.d (mkE [(0,(Zl (EI .i64) x0)),(0,(i6 x1))] 7) ?_;refine Rn.g ?_;refine Ro.t 2 ?_;obtain ⟨y490,h491,h⟩ := bind_some h;refine RunO.c1 (by kernel_rfl) (by kernel_rfl) (c65 h491 _) ?_;refine Ro.t 2 ?_;refine Ro.d (mkE [(4,(V.bool (decide (y490 ≥ (0 : Int)))))] 4) ?_;refine Run.ret ?_;have h := Option.some.inj h; subst h;exact ⟨(V.bool (decide (y490 ≥ (0 : Int)))),(by kernel_rfl),(by kernel_rfl),hp⟩
theorem c79 {x0 : (List Int)} {x1 : Int} {r : Bool} (h : F79 x0 x1 = some r) (s : Bool) : Fn T 79 [(Zl (EI .i64) x0),(i6 x1)] [] (fun v hh => deep s hh deepN v = some (EB.e r)) := by
  refine (w79 h HP.nil).mono ?_;rintro v hh ⟨rfl,hp⟩;exact EB.hd s hh 38 _ (.inr rfl)
abbrev Q59 (L : List Ob) (r : Bool) : V → Heap → Prop := fun v h => v = EB.e r ∧ HP h (L)
abbrev RR59 (L : List Ob) (r : Bool) : List V → Heap → Prop := fun e h => endR none [2] (Q59 L r) e h
abbrev I59_1 (x0 : T_Graph) (L : List Ob) : (Int) → List V → Heap → Prop := fun s e h => e = (mkE [(1,(V.fp (E_Graph.e x0))),(1,(V.fn 78 [])),(42,(Zl (EI .u8) x0.fVars)),(0,(i6 (ln x0.fVars))),(0,(i6 s))] 54) ∧ HP h (L)
abbrev J59_1 (x0 : T_Graph) (L : List Ob) : Unit → Nat → List V → Heap → Prop := fun a i e h => i = 0 ∧ clrEnv [2,5,45,46,47,48,49,50,51,52,53,54,55,56] e = (mkE [(1,(V.fp (E_Graph.e x0))),(1,(V.fn 78 []))] 99) ∧ HP h (L)
def F59_1_b (x0 : T_Graph) (y556 : Int) : Option (Stp (Int) Bool Unit) :=
  if (decide (y556 < ((List.length x0.fVars : Nat) : Int))) then
    (idx x0.fVars y556).bind fun y576 =>
    (F78 y576).bind fun y578 =>
    if (!y578) then
      some (.ret false)
    else
      some (.next ((IntKind.i64.wrap (y556 + (1 : Int)))))
  else
    some (.go ())
theorem w59_1_b {x0 : T_Graph} {y556 : Int} {t : (Stp (Int) Bool Unit)} (h : F59_1_b x0 y556 = some t) {H : Heap} {L : List Ob} (hp : HP H (L)) :
    Run T i59n21 (mkE [(1,(V.fp (E_Graph.e x0))),(1,(V.fn 78 [])),(42,(Zl (EI .u8) x0.fVars)),(0,(i6 (ln x0.fVars))),(0,(i6 y556))] 54) H (stp [2,5,49,50,51,52,53,54,55,56] (I59_1 x0 L) (RR59 L) (J59_1 x0 L) t) := by
  unfold F59_1_b at h;refine Rn.g ?_;refine Ro.t 1 ?_;refine Ro.d (mkE [(1,(V.fp (E_Graph.e x0))),(1,(V.fn 78 [])),(42,(Zl (EI .u8) x0.fVars)),(0,(i6 (ln x0.fVars))),(0,(i6 y556)),(0,(V.bool (decide (y556 < (ln x0.fVars)))))] 53) ?_;refine Run.seq ?_;rcases tf (decide (y556 < (ln x0.fVars))) with h570 | h570
  · rw [ite_t h570] at h; refine Rn.t h570 ?_;refine Run.skip ?_;refine Rn.c (mkE [(1,(V.fp (E_Graph.e x0))),(1,(V.fn 78 [])),(42,(Zl (EI .u8) x0.fVars)),(0,(i6 (ln x0.fVars))),(0,(i6 y556))] 54) ?_;refine Run.seq ?_;refine Run.block ?_;refine Rn.g ?_;obtain ⟨y576,h577,h⟩ := bind_some h;refine Ro.p (idx_fz (EI .u8) .i64 h577) ?_;refine Ro.t 2 ?_;refine Ro.d (mkE [(1,(V.fp (E_Graph.e x0))),(1,(V.fn 78 [])),(1,(V.int .u8 y576)),(40,(Zl (EI .u8) x0.fVars)),(0,(i6 (ln x0.fVars))),(0,(i6 y556))] 54) ?_;refine Rn.g ?_;refine Ro.t 2 ?_;obtain ⟨y578,h579,h⟩ := bind_some h;refine RunO.h1 (n := 78) (caps := []) (us := [(V.int .u8 y576)]) (by kernel_rfl) (by kernel_rfl) (by kernel_rfl) ((w78 h579 hp).mono ?_);rintro _ H ⟨rfl,hp⟩;have hp : HP H (L) := hp;refine Ro.t 1 ?_;refine Ro.d (mkE [(1,(V.fp (E_Graph.e x0))),(1,(V.fn 78 [])),(42,(Zl (EI .u8) x0.fVars)),(0,(i6 (ln x0.fVars))),(0,(i6 y556)),(6,(V.bool (!y578)))] 47) ?_;rcases tf (!y578) with h580 | h580
    · rw [ite_t h580] at h; refine Rn.t h580 ?_;refine Rn.g ?_;refine Ro.t 1 ?_;refine Ro.d (mkE [(2,(V.bool false))] 100) ?_;refine Run.ret ?_;have h := Option.some.inj h; subst h;show RR59 L _ _ _;exact ⟨(V.bool false),(by kernel_rfl),(by kernel_rfl),hp⟩
    · rw [ite_f h580] at h; refine Rn.f h580 ?_;refine Run.skip ?_;refine Run.clrE (ts := [2,5,50,51,52,53,54,55]) (b := (.rgn i59r18)) (Q := (stp [2,5,49,50,51,52,53,54,55,56] (I59_1 x0 L) (RR59 L) (J59_1 x0 L) t)) (e' := (mkE [(1,(V.fp (E_Graph.e x0))),(1,(V.fn 78 [])),(42,(Zl (EI .u8) x0.fVars)),(0,(i6 (ln x0.fVars))),(0,(i6 y556))] 54)) (by kernel_rfl) ?_;refine Run.rgn ?_;refine Ro.t 2 ?_;refine RunO.nil ?_;have h := Option.some.inj h; subst h;show I59_1 x0 L _ _ _;exact ⟨(by kernel_rfl),hp⟩
  · rw [ite_f h570] at h; refine Rn.f h570 ?_;refine Run.exit ?_;have h := Option.some.inj h; subst h;show J59_1 x0 L () _ _ _;exact ⟨rfl,(by kernel_rfl),hp⟩
abbrev I59_2 (x0 : T_Graph) (L : List Ob) : (Int) → List V → Heap → Prop := fun s e h => e = (mkE [(1,(V.fp (E_Graph.e x0))),(1,(V.fn 78 [])),(54,(Zl E_Array x0.fArrays)),(0,(i6 (ln x0.fArrays))),(0,(i6 s))] 42) ∧ HP h (L)
abbrev J59_2 (x0 : T_Graph) (L : List Ob) : Unit → Nat → List V → Heap → Prop := fun a i e h => i = 2 ∧ clrEnv [2,3,7,57,58,59,60,61,62,63,64,65,66,67,68,69,70,71,72,73,74,75,76,77,78,79] e = (mkE [(1,(V.fp (E_Graph.e x0)))] 101) ∧ HP h (L)
def F59_2_b (x0 : T_Graph) (y600 : Int) : Option (Stp (Int) Bool Unit) :=
  if (decide (y600 < ((List.length x0.fArrays : Nat) : Int))) then
    (idx x0.fArrays y600).bind fun y629 =>
    (F78 y629.fType).bind fun y632 =>
    if y632 then
      if (decide (y629.fSize < (1 : Int))) then
        some (.ret false)
      else
        if (decide (y629.fSize > (256 : Int))) then
          some (.ret false)
        else
          some (.next ((IntKind.i64.wrap (y600 + (1 : Int)))))
    else
      some (.ret false)
  else
    some (.go ())
theorem w59_2_b {x0 : T_Graph} {y600 : Int} {t : (Stp (Int) Bool Unit)} (h : F59_2_b x0 y600 = some t) {H : Heap} {L : List Ob} (hp : HP H (L)) :
    Run T i59n39 (mkE [(1,(V.fp (E_Graph.e x0))),(1,(V.fn 78 [])),(54,(Zl E_Array x0.fArrays)),(0,(i6 (ln x0.fArrays))),(0,(i6 y600))] 42) H (stp [2,7,61,62,63,64,65,66,67,68,69,70,71,72,73,74,75,76,77,78,79] (I59_2 x0 L) (RR59 L) (J59_2 x0 L) t) := by
  unfold F59_2_b at h;refine Rn.g ?_;refine Ro.t 1 ?_;refine Ro.d (mkE [(1,(V.fp (E_Graph.e x0))),(1,(V.fn 78 [])),(54,(Zl E_Array x0.fArrays)),(0,(i6 (ln x0.fArrays))),(0,(i6 y600)),(0,(V.bool (decide (y600 < (ln x0.fArrays)))))] 41) ?_;refine Run.seq ?_;rcases tf (decide (y600 < (ln x0.fArrays))) with h620 | h620
  · rw [ite_t h620] at h; refine Rn.t h620 ?_;refine Run.skip ?_;refine Rn.c (mkE [(1,(V.fp (E_Graph.e x0))),(1,(V.fn 78 [])),(54,(Zl E_Array x0.fArrays)),(0,(i6 (ln x0.fArrays))),(0,(i6 y600))] 42) ?_;refine Run.seq ?_;refine Run.block ?_;refine Rn.g ?_;obtain ⟨y629,h630,h⟩ := bind_some h;refine Ro.p (idx_fz E_Array .i64 h630) ?_;refine Ro.t 1 ?_;refine RunO.alloc hp (by kernel_rfl) ?_;intro b631 H hp;have hp : HP H ((some (b631,0),[(V.int .u8 (0 : Int)),(i6 (0 : Int))]) :: L) := hp;refine RunO.st hp (by kernel_rfl) 0 (off := 0) (v := (E_Array.e y629)) (cs' := [(V.int .u8 y629.fType),(i6 y629.fSize)]) rfl (by kernel_rfl) (by kernel_rfl) (by kernel_rfl) ?_;intro H hp;refine Ro.d (mkE [(1,(V.fp (E_Graph.e x0))),(1,(V.fn 78 [])),(3,(V.ptr b631 0 0)),(50,(Zl E_Array x0.fArrays)),(0,(i6 (ln x0.fArrays))),(0,(i6 y600))] 42) ?_;refine Rn.g ?_;refine Ro.t 2 ?_;refine Ro.p (hp.ld 0 (off := 0) (n := none) (v := (V.int .u8 y629.fType)) rfl (by kernel_rfl)) ?_;obtain ⟨y632,h633,h⟩ := bind_some h;rcases tf y632 with h634 | h634
    · subst h634; rw [if_pos rfl] at h;refine RunO.h1 (n := 78) (caps := []) (us := [(V.int .u8 y629.fType)]) (by kernel_rfl) (by kernel_rfl) (by kernel_rfl) ((w78 h633 hp).mono ?_);rintro _ H ⟨rfl,hp⟩;have hp : HP H ((some (b631,0),[(V.int .u8 y629.fType),(i6 y629.fSize)]) :: L) := hp;refine Ro.t 3 ?_;refine Ro.p (hp.ld 0 (off := 1) (n := none) (v := (i6 y629.fSize)) rfl (by kernel_rfl)) ?_;rcases tf (decide (y629.fSize < (1 : Int))) with h635 | h635
      · rw [ite_t h635] at h; refine Ro.p (bool_of h635) ?_;refine Ro.t 6 ?_;refine Ro.d (mkE [(1,(V.fp (E_Graph.e x0))),(1,(V.fn 78 [])),(54,(Zl E_Array x0.fArrays)),(0,(i6 (ln x0.fArrays))),(0,(i6 y600)),(17,(V.bool true))] 24) ?_;refine Run.condT (by kernel_rfl) ?_;refine Rn.g ?_;refine Ro.t 1 ?_;refine Ro.d (mkE [(2,(V.bool false))] 100) ?_;refine Run.ret ?_;have h := Option.some.inj h; subst h;show RR59 L _ _ _;have hp := hp.del 0;exact ⟨(V.bool false),(by kernel_rfl),(by kernel_rfl),hp⟩
      · rw [ite_f h635] at h; refine Ro.p (bool_of h635) ?_;refine Ro.t 3 ?_;refine Ro.p (hp.ld 0 (off := 1) (n := none) (v := (i6 y629.fSize)) rfl (by kernel_rfl)) ?_;refine Ro.t 2 ?_;refine Ro.d (mkE [(1,(V.fp (E_Graph.e x0))),(1,(V.fn 78 [])),(54,(Zl E_Array x0.fArrays)),(0,(i6 (ln x0.fArrays))),(0,(i6 y600)),(17,(V.bool (decide (y629.fSize > (256 : Int)))))] 24) ?_;rcases tf (decide (y629.fSize > (256 : Int))) with h636 | h636
        · rw [ite_t h636] at h; refine Rn.t h636 ?_;refine Rn.g ?_;refine Ro.t 1 ?_;refine Ro.d (mkE [(2,(V.bool false))] 100) ?_;refine Run.ret ?_;have h := Option.some.inj h; subst h;show RR59 L _ _ _;have hp := hp.del 0;exact ⟨(V.bool false),(by kernel_rfl),(by kernel_rfl),hp⟩
        · rw [ite_f h636] at h; refine Rn.f h636 ?_;refine Run.skip ?_;refine Run.clrE (ts := [2,7,62,63,64,65,66,67,68,69,70,71,72,73,74,75,76,77,78]) (b := (.rgn i59r36)) (Q := (stp [2,7,61,62,63,64,65,66,67,68,69,70,71,72,73,74,75,76,77,78,79] (I59_2 x0 L) (RR59 L) (J59_2 x0 L) t)) (e' := (mkE [(1,(V.fp (E_Graph.e x0))),(1,(V.fn 78 [])),(54,(Zl E_Array x0.fArrays)),(0,(i6 (ln x0.fArrays))),(0,(i6 y600))] 42)) (by kernel_rfl) ?_;refine Run.rgn ?_;refine Ro.t 2 ?_;refine RunO.nil ?_;have h := Option.some.inj h; subst h;have hp := hp.del 0;show I59_2 x0 L _ _ _;exact ⟨(by kernel_rfl),hp⟩
    · subst h634; rw [if_neg (by decide)] at h;refine RunO.h1 (n := 78) (caps := []) (us := [(V.int .u8 y629.fType)]) (by kernel_rfl) (by kernel_rfl) (by kernel_rfl) ((w78 h633 hp).mono ?_);rintro _ H ⟨rfl,hp⟩;have hp : HP H ((some (b631,0),[(V.int .u8 y629.fType),(i6 y629.fSize)]) :: L) := hp;refine Ro.t 11 ?_;refine Ro.d (mkE [(1,(V.fp (E_Graph.e x0))),(1,(V.fn 78 [])),(54,(Zl E_Array x0.fArrays)),(0,(i6 (ln x0.fArrays))),(0,(i6 y600)),(17,(V.bool true))] 24) ?_;refine Run.condT (by kernel_rfl) ?_;refine Rn.g ?_;refine Ro.t 1 ?_;refine Ro.d (mkE [(2,(V.bool false))] 100) ?_;refine Run.ret ?_;have h := Option.some.inj h; subst h;show RR59 L _ _ _;have hp := hp.del 0;exact ⟨(V.bool false),(by kernel_rfl),(by kernel_rfl),hp⟩
  · rw [ite_f h620] at h; refine Rn.f h620 ?_;refine Run.exit ?_;have h := Option.some.inj h; subst h;show J59_2 x0 L () _ _ _;exact ⟨rfl,(by kernel_rfl),hp⟩
abbrev I59_3 (x0 : T_Graph) (L : List Ob) : (Int) → List V → Heap → Prop := fun s e h => e = (mkE [(1,(V.fp (E_Graph.e x0))),(79,(Zl (EI .i64) x0.fParams)),(0,(i6 (ln x0.fParams))),(0,(i6 s))] 19) ∧ HP h (L)
abbrev J59_3 (x0 : T_Graph) (L : List Ob) : Unit → Nat → List V → Heap → Prop := fun a i e h => i = 4 ∧ clrEnv [1,2,8,9,80,81,82,83,84,85,86,87,88,89,90,91,92,93,94,95,96,97,98,99,100,101,102] e = (mkE [] 103) ∧ HP h (L)
def F59_3_b (x0 : T_Graph) (y660 : Int) : Option (Stp (Int) Bool Unit) :=
  if (decide (y660 < ((List.length x0.fParams : Nat) : Int))) then
    (idx x0.fParams y660).bind fun y695 =>
    (F34 y695 ((List.length x0.fVars : Nat) : Int)).bind fun y697 =>
    if y697 then
      (part x0.fParams 0 y660).bind fun y700 =>
      (F79 y700 y695).bind fun y702 =>
      if y702 then
        some (.ret false)
      else
        some (.next ((IntKind.i64.wrap (y660 + (1 : Int)))))
    else
      some (.ret false)
  else
    some (.go ())
theorem w59_3_b {x0 : T_Graph} {y660 : Int} {t : (Stp (Int) Bool Unit)} (h : F59_3_b x0 y660 = some t) {H : Heap} {L : List Ob} (hp : HP H (L)) :
    Run T i59n57 (mkE [(1,(V.fp (E_Graph.e x0))),(79,(Zl (EI .i64) x0.fParams)),(0,(i6 (ln x0.fParams))),(0,(i6 y660))] 19) H (stp [2,8,9,84,85,86,87,88,89,90,91,92,93,94,95,96,97,98,99,100,101,102] (I59_3 x0 L) (RR59 L) (J59_3 x0 L) t) := by
  unfold F59_3_b at h;refine Rn.g ?_;refine Ro.t 1 ?_;refine Ro.d (mkE [(1,(V.fp (E_Graph.e x0))),(79,(Zl (EI .i64) x0.fParams)),(0,(i6 (ln x0.fParams))),(0,(i6 y660)),(0,(V.bool (decide (y660 < (ln x0.fParams)))))] 18) ?_;refine Run.seq ?_;rcases tf (decide (y660 < (ln x0.fParams))) with h684 | h684
  · rw [ite_t h684] at h; refine Rn.t h684 ?_;refine Run.skip ?_;refine Rn.c (mkE [(1,(V.fp (E_Graph.e x0))),(79,(Zl (EI .i64) x0.fParams)),(0,(i6 (ln x0.fParams))),(0,(i6 y660))] 19) ?_;refine Run.seq ?_;refine Run.block ?_;refine Rn.g ?_;refine Ro.t 1 ?_;obtain ⟨y695,h696,h⟩ := bind_some h;refine Ro.p (idx_fz (EI .i64) .i64 h696) ?_;refine Ro.t 3 ?_;refine Ro.d (mkE [(1,(V.fp (E_Graph.e x0))),(6,(i6 y660)),(0,(i6 y695)),(71,(Zl (EI .i64) x0.fParams)),(0,(i6 (ln x0.fParams))),(0,(i6 y660))] 19) ?_;refine Rn.g ?_;refine Ro.t 3 ?_;refine Ro.p (len_fz (EI .u8) x0.fVars) ?_;obtain ⟨y697,h698,h⟩ := bind_some h;rcases tf y697 with h699 | h699
    · subst h699; rw [if_pos rfl] at h;refine RunO.c1 (by kernel_rfl) (by kernel_rfl) (c34 h698 _) ?_;refine Ro.t 5 ?_;obtain ⟨y700,h701,h⟩ := bind_some h;refine Ro.p (slc_fz0 (EI .i64) .i64 (by decide) h701) ?_;refine Ro.t 1 ?_;obtain ⟨y702,h703,h⟩ := bind_some h;refine RunO.c1 (by kernel_rfl) (by kernel_rfl) (c79 h703 _) ?_;refine Ro.t 1 ?_;refine Ro.d (mkE [(1,(V.fp (E_Graph.e x0))),(79,(Zl (EI .i64) x0.fParams)),(0,(i6 (ln x0.fParams))),(0,(i6 y660)),(17,(V.bool y702))] 1) ?_;rcases tf y702 with h704 | h704
      · rw [ite_t h704] at h; refine Rn.t h704 ?_;refine Rn.g ?_;refine Ro.t 1 ?_;refine Ro.d (mkE [(2,(V.bool false))] 100) ?_;refine Run.ret ?_;have h := Option.some.inj h; subst h;show RR59 L _ _ _;exact ⟨(V.bool false),(by kernel_rfl),(by kernel_rfl),hp⟩
      · rw [ite_f h704] at h; refine Rn.f h704 ?_;refine Run.skip ?_;refine Run.clrE (ts := [2,8,9,85,86,87,88,89,90,91,92,93,94,95,96,97,98,99,100,101]) (b := (.rgn i59r54)) (Q := (stp [2,8,9,84,85,86,87,88,89,90,91,92,93,94,95,96,97,98,99,100,101,102] (I59_3 x0 L) (RR59 L) (J59_3 x0 L) t)) (e' := (mkE [(1,(V.fp (E_Graph.e x0))),(79,(Zl (EI .i64) x0.fParams)),(0,(i6 (ln x0.fParams))),(0,(i6 y660))] 19)) (by kernel_rfl) ?_;refine Run.rgn ?_;refine Ro.t 2 ?_;refine RunO.nil ?_;have h := Option.some.inj h; subst h;show I59_3 x0 L _ _ _;exact ⟨(by kernel_rfl),hp⟩
    · subst h699; rw [if_neg (by decide)] at h;refine RunO.c1 (by kernel_rfl) (by kernel_rfl) (c34 h698 _) ?_;refine Ro.t 9 ?_;refine Ro.d (mkE [(1,(V.fp (E_Graph.e x0))),(79,(Zl (EI .i64) x0.fParams)),(0,(i6 (ln x0.fParams))),(0,(i6 y660)),(17,(V.bool true))] 1) ?_;refine Run.condT (by kernel_rfl) ?_;refine Rn.g ?_;refine Ro.t 1 ?_;refine Ro.d (mkE [(2,(V.bool false))] 100) ?_;refine Run.ret ?_;have h := Option.some.inj h; subst h;show RR59 L _ _ _;exact ⟨(V.bool false),(by kernel_rfl),(by kernel_rfl),hp⟩
  · rw [ite_f h684] at h; refine Rn.f h684 ?_;refine Run.exit ?_;have h := Option.some.inj h; subst h;show J59_3 x0 L () _ _ _;exact ⟨rfl,(by kernel_rfl),hp⟩
def F59 (x0 : T_Graph) : Option Bool :=
  if (decide (((List.length x0.fBlocks : Nat) : Int) < (1 : Int))) then
    some false
  else
    if (decide (((List.length x0.fBlocks : Nat) : Int) > (1048576 : Int))) then
      some false
    else
      if (decide (((List.length x0.fVars : Nat) : Int) > (1048576 : Int))) then
        some false
      else
        if (decide (((List.length x0.fArrays : Nat) : Int) > (1048576 : Int))) then
          some false
        else
          if (decide (((List.length x0.fParams : Nat) : Int) > (8 : Int))) then
            some false
          else
            (F78 x0.fResult).bind fun y541 =>
            if (!y541) then
              some false
            else
              (iter (fun s : (Int) => F59_1_b x0 s) FUEL ((0 : Int))).bind fun o => match o with
              | .ret r => some r
              | .go () =>
                (iter (fun s : (Int) => F59_2_b x0 s) FUEL ((0 : Int))).bind fun o => match o with
                | .ret r => some r
                | .go () =>
                  (iter (fun s : (Int) => F59_3_b x0 s) FUEL ((0 : Int))).bind fun o => match o with
                  | .ret r => some r
                  | .go () =>
                    some true
theorem w59 {x0 : T_Graph} {r : Bool} (h : F59 x0 = some r) {H : Heap} {L : List Ob} (hp : HP H (L)) : Fn T 59 [(E_Graph.e x0)] H (Q59 L r) := by
  refine Fn.enterE t59 (e0 := (mkE [(0,(E_Graph.e x0))] 102)) (by kernel_rfl) ?_;show Run T (.clr [] i59n68) _ _ (finE none [2] (Q59 L r));refine Rn.k (mkE [(0,(E_Graph.e x0))] 102) ?_;unfold F59 at h;refine Rn.g ?_;refine Ro.t 2 ?_;refine Ro.d (mkE [(1,(V.fp (E_Graph.e x0)))] 101) ?_;refine Rn.g ?_;refine Ro.t 1 ?_;refine Ro.d (mkE [(1,(V.fp (E_Graph.e x0))),(1,(V.fn 78 []))] 99) ?_;refine Run.seq ?_;refine Rn.g ?_;refine Ro.t 2 ?_;refine Ro.p (len_fz E_Block x0.fBlocks) ?_;rcases tf (decide ((ln x0.fBlocks) < (1 : Int))) with h536 | h536
  · rw [ite_t h536] at h; refine Ro.p (bool_of h536) ?_;refine Ro.t 31 ?_;refine Ro.d (mkE [(1,(V.fp (E_Graph.e x0))),(1,(V.fn 78 [])),(40,(V.bool true))] 58) ?_;refine Run.condT (by kernel_rfl) ?_;refine Rn.g ?_;refine Ro.t 1 ?_;refine Ro.d (mkE [(2,(V.bool false))] 100) ?_;refine Run.ret ?_;have h := Option.some.inj h; subst h;exact ⟨(V.bool false),(by kernel_rfl),(by kernel_rfl),hp⟩
  · rw [ite_f h536] at h; refine Ro.p (bool_of h536) ?_;refine Ro.t 3 ?_;refine Ro.p (len_fz E_Block x0.fBlocks) ?_;rcases tf (decide ((ln x0.fBlocks) > (1048576 : Int))) with h537 | h537
    · rw [ite_t h537] at h; refine Ro.p (bool_of h537) ?_;refine Ro.t 26 ?_;refine Ro.d (mkE [(1,(V.fp (E_Graph.e x0))),(1,(V.fn 78 [])),(40,(V.bool true))] 58) ?_;refine Run.condT (by kernel_rfl) ?_;refine Rn.g ?_;refine Ro.t 1 ?_;refine Ro.d (mkE [(2,(V.bool false))] 100) ?_;refine Run.ret ?_;have h := Option.some.inj h; subst h;exact ⟨(V.bool false),(by kernel_rfl),(by kernel_rfl),hp⟩
    · rw [ite_f h537] at h; refine Ro.p (bool_of h537) ?_;refine Ro.t 4 ?_;refine Ro.p (len_fz (EI .u8) x0.fVars) ?_;rcases tf (decide ((ln x0.fVars) > (1048576 : Int))) with h538 | h538
      · rw [ite_t h538] at h; refine Ro.p (bool_of h538) ?_;refine Ro.t 20 ?_;refine Ro.d (mkE [(1,(V.fp (E_Graph.e x0))),(1,(V.fn 78 [])),(40,(V.bool true))] 58) ?_;refine Run.condT (by kernel_rfl) ?_;refine Rn.g ?_;refine Ro.t 1 ?_;refine Ro.d (mkE [(2,(V.bool false))] 100) ?_;refine Run.ret ?_;have h := Option.some.inj h; subst h;exact ⟨(V.bool false),(by kernel_rfl),(by kernel_rfl),hp⟩
      · rw [ite_f h538] at h; refine Ro.p (bool_of h538) ?_;refine Ro.t 4 ?_;refine Ro.p (len_fz E_Array x0.fArrays) ?_;rcases tf (decide ((ln x0.fArrays) > (1048576 : Int))) with h539 | h539
        · rw [ite_t h539] at h; refine Ro.p (bool_of h539) ?_;refine Ro.t 14 ?_;refine Ro.d (mkE [(1,(V.fp (E_Graph.e x0))),(1,(V.fn 78 [])),(40,(V.bool true))] 58) ?_;refine Run.condT (by kernel_rfl) ?_;refine Rn.g ?_;refine Ro.t 1 ?_;refine Ro.d (mkE [(2,(V.bool false))] 100) ?_;refine Run.ret ?_;have h := Option.some.inj h; subst h;exact ⟨(V.bool false),(by kernel_rfl),(by kernel_rfl),hp⟩
        · rw [ite_f h539] at h; refine Ro.p (bool_of h539) ?_;refine Ro.t 4 ?_;refine Ro.p (len_fz (EI .i64) x0.fParams) ?_;rcases tf (decide ((ln x0.fParams) > (8 : Int))) with h540 | h540
          · rw [ite_t h540] at h; refine Ro.p (bool_of h540) ?_;refine Ro.t 8 ?_;refine Ro.d (mkE [(1,(V.fp (E_Graph.e x0))),(1,(V.fn 78 [])),(40,(V.bool true))] 58) ?_;refine Run.condT (by kernel_rfl) ?_;refine Rn.g ?_;refine Ro.t 1 ?_;refine Ro.d (mkE [(2,(V.bool false))] 100) ?_;refine Run.ret ?_;have h := Option.some.inj h; subst h;exact ⟨(V.bool false),(by kernel_rfl),(by kernel_rfl),hp⟩
          · rw [ite_f h540] at h; refine Ro.p (bool_of h540) ?_;refine Ro.t 5 ?_;obtain ⟨y541,h542,h⟩ := bind_some h;refine RunO.h1 (n := 78) (caps := []) (us := [(V.int .u8 x0.fResult)]) (by kernel_rfl) (by kernel_rfl) (by kernel_rfl) ((w78 h542 hp).mono ?_);rintro _ H ⟨rfl,hp⟩;have hp : HP H (L) := hp;refine Ro.t 2 ?_;refine Ro.d (mkE [(1,(V.fp (E_Graph.e x0))),(1,(V.fn 78 [])),(40,(V.bool (!y541)))] 58) ?_;rcases tf (!y541) with h543 | h543
            · rw [ite_t h543] at h; refine Rn.t h543 ?_;refine Rn.g ?_;refine Ro.t 1 ?_;refine Ro.d (mkE [(2,(V.bool false))] 100) ?_;refine Run.ret ?_;have h := Option.some.inj h; subst h;exact ⟨(V.bool false),(by kernel_rfl),(by kernel_rfl),hp⟩
            · rw [ite_f h543] at h; refine Rn.f h543 ?_;refine Run.skip ?_;refine Rn.c (mkE [(1,(V.fp (E_Graph.e x0))),(1,(V.fn 78 []))] 99) ?_;refine Run.seq ?_;refine Rn.g ?_;refine Ro.t 2 ?_;refine Ro.p (len_fz (EI .u8) x0.fVars) ?_;refine Ro.t 1 ?_;refine Ro.d (mkE [(1,(V.fp (E_Graph.e x0))),(1,(V.fn 78 [])),(42,(Zl (EI .u8) x0.fVars)),(0,(i6 (ln x0.fVars))),(0,(i6 (0 : Int)))] 54) ?_;refine Run.block ?_;obtain ⟨o,h581,h⟩ := bind_some h;refine (Run.iter (I := I59_1 x0 L) (RR := RR59 L) (J := J59_1 x0 L) (fun s e h' t hI hf => ?_) FUEL h581 (by exact ⟨(by kernel_rfl),hp⟩)).mono ?_
              · obtain ⟨rfl,hp⟩ := hI; exact w59_1_b hf hp
              · rintro X e' H hq;cases o with
                | ret r => cases X <;> first | exact hq.elim | (cases h; exact hq)
                | go a =>
                  cases X with | nrm => exact hq.elim | ret => exact hq.elim | ext i => ?_;obtain ⟨rfl,he,hp⟩ := hq
                  dsimp only at h
                  refine Run.clrE (ts := [2,5,45,46,47,48,49,50,51,52,53,54,55,56]) (b := i59n64) (Q := (finE none [2] (Q59 L r))) he ?_;refine Run.seq ?_;refine Rn.g ?_;refine Ro.t 2 ?_;refine Ro.p (len_fz E_Array x0.fArrays) ?_;refine Ro.t 1 ?_;refine Ro.d (mkE [(1,(V.fp (E_Graph.e x0))),(1,(V.fn 78 [])),(54,(Zl E_Array x0.fArrays)),(0,(i6 (ln x0.fArrays))),(0,(i6 (0 : Int)))] 42) ?_;refine Run.block ?_;obtain ⟨o,h637,h⟩ := bind_some h;refine (Run.iter (I := I59_2 x0 L) (RR := RR59 L) (J := J59_2 x0 L) (fun s e h' t hI hf => ?_) FUEL h637 (by exact ⟨(by kernel_rfl),hp⟩)).mono ?_
                  · obtain ⟨rfl,hp⟩ := hI; exact w59_2_b hf hp
                  · rintro X e' H hq;cases o with
                    | ret r => cases X <;> first | exact hq.elim | (cases h; exact hq)
                    | go a =>
                      cases X with | nrm => exact hq.elim | ret => exact hq.elim | ext i => ?_;obtain ⟨rfl,he,hp⟩ := hq
                      dsimp only at h
                      refine Run.clrE (ts := [2,3,7,57,58,59,60,61,62,63,64,65,66,67,68,69,70,71,72,73,74,75,76,77,78,79]) (b := i59n63) (Q := (finE none [2] (Q59 L r))) he ?_;refine Run.seq ?_;refine Rn.g ?_;refine Ro.t 2 ?_;refine Ro.p (len_fz (EI .i64) x0.fParams) ?_;refine Ro.t 1 ?_;refine Ro.d (mkE [(1,(V.fp (E_Graph.e x0))),(79,(Zl (EI .i64) x0.fParams)),(0,(i6 (ln x0.fParams))),(0,(i6 (0 : Int)))] 19) ?_;refine Run.block ?_;obtain ⟨o,h705,h⟩ := bind_some h;refine (Run.iter (I := I59_3 x0 L) (RR := RR59 L) (J := J59_3 x0 L) (fun s e h' t hI hf => ?_) FUEL h705 (by exact ⟨(by kernel_rfl),hp⟩)).mono ?_
                      · obtain ⟨rfl,hp⟩ := hI; exact w59_3_b hf hp
                      · rintro X e' H hq;cases o with
                        | ret r => cases X <;> first | exact hq.elim | (cases h; exact hq)
                        | go a =>
                          cases X with | nrm => exact hq.elim | ret => exact hq.elim | ext i => ?_;obtain ⟨rfl,he,hp⟩ := hq
                          dsimp only at h
                          refine Run.clrE (ts := [1,2,8,9,80,81,82,83,84,85,86,87,88,89,90,91,92,93,94,95,96,97,98,99,100,101,102]) (b := i59n62) (Q := (finE none [2] (Q59 L r))) he ?_;refine Rn.g ?_;refine Ro.t 1 ?_;refine Ro.d (mkE [(2,(V.bool true))] 100) ?_;refine Run.ret ?_;have h := Option.some.inj h; subst h;exact ⟨(V.bool true),(by kernel_rfl),(by kernel_rfl),hp⟩
theorem c59 {x0 : T_Graph} {r : Bool} (h : F59 x0 = some r) (s : Bool) : Fn T 59 [(E_Graph.e x0)] [] (fun v hh => deep s hh deepN v = some (EB.e r)) := by
  refine (w59 h HP.nil).mono ?_;rintro v hh ⟨rfl,hp⟩;exact EB.hd s hh 38 _ (.inr rfl)
abbrev Q80 (L : List Ob) (r : Bool) : V → Heap → Prop := fun v h => v = EB.e r ∧ HP h (L)
abbrev RR80 (L : List Ob) (r : Bool) : List V → Heap → Prop := fun e h => endR none [3] (Q80 L r) e h
def F80 (x0 : Int) (x1 : T_Graph) : Option Bool :=
  if (decide (x0 > (0 : Int))) then
    some (decide (x0 < ((List.length x1.fBlocks : Nat) : Int)))
  else
    some false
theorem w80 {x0 : Int} {x1 : T_Graph} {r : Bool} (h : F80 x0 x1 = some r) {H : Heap} {L : List Ob} (hp : HP H (L)) : Fn T 80 [(i6 x0),(V.fp (E_Graph.e x1))] H (Q80 L r) := by
  refine Fn.enterE t80 (e0 := (mkE [(0,(i6 x0)),(0,(V.fp (E_Graph.e x1)))] 11)) (by kernel_rfl) ?_;show Run T (.clr [] i80n3) _ _ (finE none [3] (Q80 L r));refine Rn.k (mkE [(0,(i6 x0)),(0,(V.fp (E_Graph.e x1)))] 11) ?_;unfold F80 at h;refine Rn.g ?_;refine Ro.t 1 ?_;refine Ro.d (mkE [(0,(i6 x0)),(0,(V.fp (E_Graph.e x1)))] 11) ?_;refine Rn.g ?_;refine Ro.t 1 ?_;rcases tf (decide (x0 > (0 : Int))) with h721 | h721
  · rw [ite_t h721] at h; refine Ro.p (bool_of h721) ?_;refine Ro.t 4 ?_;refine Ro.p (len_fz E_Block x1.fBlocks) ?_;refine Ro.t 3 ?_;refine Ro.d (mkE [(3,(V.bool (decide (x0 < (ln x1.fBlocks)))))] 9) ?_;refine Run.ret ?_;have h := Option.some.inj h; subst h;exact ⟨(V.bool (decide (x0 < (ln x1.fBlocks)))),(by kernel_rfl),(by kernel_rfl),hp⟩
  · rw [ite_f h721] at h; refine Ro.p (bool_of h721) ?_;refine Ro.t 8 ?_;refine Ro.d (mkE [(3,(V.bool false))] 9) ?_;refine Run.ret ?_;have h := Option.some.inj h; subst h;exact ⟨(V.bool false),(by kernel_rfl),(by kernel_rfl),hp⟩
theorem c80 {x0 : Int} {x1 : T_Graph} {r : Bool} (h : F80 x0 x1 = some r) (s : Bool) : Fn T 80 [(i6 x0),(V.fp (E_Graph.e x1))] [] (fun v hh => deep s hh deepN v = some (EB.e r)) := by
  refine (w80 h HP.nil).mono ?_;rintro v hh ⟨rfl,hp⟩;exact EB.hd s hh 38 _ (.inr rfl)
abbrev Q81 (L : List Ob) (r : Bool) : V → Heap → Prop := fun v h => v = EB.e r ∧ HP h (L)
abbrev RR81 (L : List Ob) (r : Bool) : List V → Heap → Prop := fun e h => endR none [4] (Q81 L r) e h
def F81 (x0 : Int) (x1 : T_Term) (x2 : T_Graph) : Option Bool :=
  (F34 x1.fArg ((List.length x2.fVars : Nat) : Int)).bind fun y739 =>
  if y739 then
    (idx x2.fVars x1.fArg).bind fun y742 =>
    some (y742 == x0)
  else
    some false
theorem w81 {x0 : Int} {x1 : T_Term} {x2 : T_Graph} {r : Bool} (h : F81 x0 x1 x2 = some r) {H : Heap} {L : List Ob} (hp : HP H (L)) : Fn T 81 [(V.int .u8 x0),(V.fp (E_Term.e x1)),(V.fp (E_Graph.e x2))] H (Q81 L r) := by
  refine Fn.enterE t81 (e0 := (mkE [(0,(V.int .u8 x0)),(0,(V.fp (E_Term.e x1))),(0,(V.fp (E_Graph.e x2)))] 18)) (by kernel_rfl) ?_;show Run T (.clr [] i81n3) _ _ (finE none [4] (Q81 L r));refine Rn.k (mkE [(0,(V.int .u8 x0)),(0,(V.fp (E_Term.e x1))),(0,(V.fp (E_Graph.e x2)))] 18) ?_;unfold F81 at h;refine Rn.g ?_;refine Ro.t 1 ?_;refine Ro.d (mkE [(0,(V.int .u8 x0)),(0,(V.fp (E_Term.e x1))),(0,(V.fp (E_Graph.e x2)))] 18) ?_;refine Rn.g ?_;refine Ro.t 4 ?_;refine Ro.p (len_fz (EI .u8) x2.fVars) ?_;obtain ⟨y739,h740,h⟩ := bind_some h;rcases tf y739 with h741 | h741
  · subst h741; rw [if_pos rfl] at h;refine RunO.c1 (by kernel_rfl) (by kernel_rfl) (c34 h740 _) ?_;refine Ro.t 5 ?_;obtain ⟨y742,h743,h⟩ := bind_some h;refine Ro.p (idx_fz (EI .u8) .i64 h743) ?_;refine Ro.t 5 ?_;refine Ro.d (mkE [(4,(V.bool (y742 == x0)))] 16) ?_;refine Run.ret ?_;have h := Option.some.inj h; subst h;exact ⟨(V.bool (y742 == x0)),(by kernel_rfl),(by kernel_rfl),hp⟩
  · subst h741; rw [if_neg (by decide)] at h;refine RunO.c1 (by kernel_rfl) (by kernel_rfl) (c34 h740 _) ?_;refine Ro.t 11 ?_;refine Ro.d (mkE [(4,(V.bool false))] 16) ?_;refine Run.ret ?_;have h := Option.some.inj h; subst h;exact ⟨(V.bool false),(by kernel_rfl),(by kernel_rfl),hp⟩
theorem c81 {x0 : Int} {x1 : T_Term} {x2 : T_Graph} {r : Bool} (h : F81 x0 x1 x2 = some r) (s : Bool) : Fn T 81 [(V.int .u8 x0),(V.fp (E_Term.e x1)),(V.fp (E_Graph.e x2))] [] (fun v hh => deep s hh deepN v = some (EB.e r)) := by
  refine (w81 h HP.nil).mono ?_;rintro v hh ⟨rfl,hp⟩;exact EB.hd s hh 38 _ (.inr rfl)
abbrev Q60 (L : List Ob) (r : Bool) : V → Heap → Prop := fun v h => v = EB.e r ∧ HP h (L)
abbrev RR60 (L : List Ob) (r : Bool) : List V → Heap → Prop := fun e h => endR none [4] (Q60 L r) e h
def F60 (x0 : T_Graph) (x1 : T_Term) : Option Bool :=
  if (x1.fKind == (1 : Int)) then
    (F80 x1.fTo.a0 x0).bind fun y807 =>
    if y807 then
      if (x1.fTo.a1 == (0 : Int)) then
        if (x1.fArg == (0 : Int)) then
          some (x1.fTrap == (0 : Int))
        else
          some false
      else
        some false
    else
      some false
  else
    if (x1.fKind == (2 : Int)) then
      (F80 x1.fTo.a0 x0).bind fun y813 =>
      if y813 then
        (F80 x1.fTo.a1 x0).bind fun y816 =>
        if y816 then
          (F81 (1 : Int) x1 x0).bind fun y819 =>
          if y819 then
            some (x1.fTrap == (0 : Int))
          else
            some false
        else
          some false
      else
        some false
    else
      if (x1.fKind == (3 : Int)) then
        (F81 x0.fResult x1 x0).bind fun y823 =>
        if y823 then
          if (decide (x1.fTo = (⟨(0 : Int),(0 : Int)⟩ : T_2int))) then
            some (x1.fTrap == (0 : Int))
          else
            some false
        else
          some false
      else
        if (x1.fKind == (4 : Int)) then
          if (decide (x1.fTrap ≥ (1 : Int))) then
            if (decide (x1.fTrap ≤ (3 : Int))) then
              if (x1.fArg == (0 : Int)) then
                some (decide (x1.fTo = (⟨(0 : Int),(0 : Int)⟩ : T_2int)))
              else
                some false
            else
              some false
          else
            some false
        else
          some false
theorem w60 {x0 : T_Graph} {x1 : T_Term} {r : Bool} (h : F60 x0 x1 = some r) {H : Heap} {L : List Ob} (hp : HP H (L)) : Fn T 60 [(E_Graph.e x0),(E_Term.e x1)] H (Q60 L r) := by
  refine Fn.enterE t60 (e0 := (mkE [(0,(E_Graph.e x0)),(0,(E_Term.e x1))] 93)) (by kernel_rfl) ?_;show Run T (.clr [] i60n31) _ _ (finE none [4] (Q60 L r));refine Rn.k (mkE [(0,(E_Graph.e x0)),(0,(E_Term.e x1))] 93) ?_;unfold F60 at h;refine Rn.g ?_;refine Ro.t 3 ?_;refine Ro.d (mkE [(2,(V.fp (E_Graph.e x0))),(0,(V.fp (E_Term.e x1)))] 91) ?_;refine Rn.g ?_;refine Ro.t 2 ?_;refine Ro.d (mkE [(2,(V.fp (E_Graph.e x0))),(0,(V.fp (E_Term.e x1))),(1,(V.fn 80 [(V.fp (E_Graph.e x0))]))] 89) ?_;refine Rn.g ?_;refine Ro.t 2 ?_;refine Ro.d (mkE [(2,(V.fp (E_Graph.e x0))),(0,(V.fp (E_Term.e x1))),(1,(V.fn 80 [(V.fp (E_Graph.e x0))])),(0,(V.fn 81 [(V.fp (E_Term.e x1)),(V.fp (E_Graph.e x0))]))] 88) ?_;refine Run.seq ?_;refine Rn.g ?_;refine Ro.t 2 ?_;refine Ro.d (mkE [(2,(V.fp (E_Graph.e x0))),(0,(V.fp (E_Term.e x1))),(1,(V.fn 80 [(V.fp (E_Graph.e x0))])),(0,(V.fn 81 [(V.fp (E_Term.e x1)),(V.fp (E_Graph.e x0))])),(3,(V.int .u8 x1.fKind))] 84) ?_;refine Run.block ?_;refine Rn.g ?_;refine Ro.t 2 ?_;refine Ro.d (mkE [(2,(V.fp (E_Graph.e x0))),(0,(V.fp (E_Term.e x1))),(1,(V.fn 80 [(V.fp (E_Graph.e x0))])),(0,(V.fn 81 [(V.fp (E_Term.e x1)),(V.fp (E_Graph.e x0))])),(3,(V.int .u8 x1.fKind)),(0,(V.bool (x1.fKind == (1 : Int))))] 83) ?_;rcases tf (x1.fKind == (1 : Int)) with h806 | h806
  · rw [ite_t h806] at h; refine Rn.t h806 ?_;refine Rn.g ?_;refine Ro.t 4 ?_;obtain ⟨y807,h808,h⟩ := bind_some h;rcases tf y807 with h809 | h809
    · subst h809; rw [if_pos rfl] at h;refine RunO.h1 (n := 80) (caps := [(V.fp (E_Graph.e x0))]) (us := [(i6 x1.fTo.a0),(V.fp (E_Graph.e x0))]) (by kernel_rfl) (by kernel_rfl) (by kernel_rfl) ((w80 h808 hp).mono ?_);rintro _ H ⟨rfl,hp⟩;have hp : HP H (L) := hp;refine Ro.t 4 ?_;rcases tf (x1.fTo.a1 == (0 : Int)) with h810 | h810
      · rw [ite_t h810] at h; refine Ro.p (bool_of h810) ?_;refine Ro.t 4 ?_;rcases tf (x1.fArg == (0 : Int)) with h811 | h811
        · rw [ite_t h811] at h; refine Ro.p (bool_of h811) ?_;refine Ro.t 7 ?_;refine Ro.d (mkE [(4,(V.bool (x1.fTrap == (0 : Int))))] 90) ?_;refine Run.ret ?_;have h := Option.some.inj h; subst h;exact ⟨(V.bool (x1.fTrap == (0 : Int))),(by kernel_rfl),(by kernel_rfl),hp⟩
        · rw [ite_f h811] at h; refine Ro.p (bool_of h811) ?_;refine Ro.t 7 ?_;refine Ro.d (mkE [(4,(V.bool false))] 90) ?_;refine Run.ret ?_;have h := Option.some.inj h; subst h;exact ⟨(V.bool false),(by kernel_rfl),(by kernel_rfl),hp⟩
      · rw [ite_f h810] at h; refine Ro.p (bool_of h810) ?_;refine Ro.t 12 ?_;refine Ro.d (mkE [(4,(V.bool false))] 90) ?_;refine Run.ret ?_;have h := Option.some.inj h; subst h;exact ⟨(V.bool false),(by kernel_rfl),(by kernel_rfl),hp⟩
    · subst h809; rw [if_neg (by decide)] at h;refine RunO.h1 (n := 80) (caps := [(V.fp (E_Graph.e x0))]) (us := [(i6 x1.fTo.a0),(V.fp (E_Graph.e x0))]) (by kernel_rfl) (by kernel_rfl) (by kernel_rfl) ((w80 h808 hp).mono ?_);rintro _ H ⟨rfl,hp⟩;have hp : HP H (L) := hp;refine Ro.t 17 ?_;refine Ro.d (mkE [(4,(V.bool false))] 90) ?_;refine Run.ret ?_;have h := Option.some.inj h; subst h;exact ⟨(V.bool false),(by kernel_rfl),(by kernel_rfl),hp⟩
  · rw [ite_f h806] at h; refine Rn.f h806 ?_;refine Rn.g ?_;refine Ro.t 2 ?_;refine Ro.d (mkE [(2,(V.fp (E_Graph.e x0))),(0,(V.fp (E_Term.e x1))),(1,(V.fn 80 [(V.fp (E_Graph.e x0))])),(0,(V.fn 81 [(V.fp (E_Term.e x1)),(V.fp (E_Graph.e x0))])),(3,(V.int .u8 x1.fKind)),(23,(V.bool (x1.fKind == (2 : Int))))] 60) ?_;rcases tf (x1.fKind == (2 : Int)) with h812 | h812
    · rw [ite_t h812] at h; refine Rn.t h812 ?_;refine Rn.g ?_;refine Ro.t 4 ?_;obtain ⟨y813,h814,h⟩ := bind_some h;rcases tf y813 with h815 | h815
      · subst h815; rw [if_pos rfl] at h;refine RunO.h1 (n := 80) (caps := [(V.fp (E_Graph.e x0))]) (us := [(i6 x1.fTo.a0),(V.fp (E_Graph.e x0))]) (by kernel_rfl) (by kernel_rfl) (by kernel_rfl) ((w80 h814 hp).mono ?_);rintro _ H ⟨rfl,hp⟩;have hp : HP H (L) := hp;refine Ro.t 5 ?_;obtain ⟨y816,h817,h⟩ := bind_some h;rcases tf y816 with h818 | h818
        · subst h818; rw [if_pos rfl] at h;refine RunO.h1 (n := 80) (caps := [(V.fp (E_Graph.e x0))]) (us := [(i6 x1.fTo.a1),(V.fp (E_Graph.e x0))]) (by kernel_rfl) (by kernel_rfl) (by kernel_rfl) ((w80 h817 hp).mono ?_);rintro _ H ⟨rfl,hp⟩;have hp : HP H (L) := hp;refine Ro.t 3 ?_;obtain ⟨y819,h820,h⟩ := bind_some h;rcases tf y819 with h821 | h821
          · subst h821; rw [if_pos rfl] at h;refine RunO.h1 (n := 81) (caps := [(V.fp (E_Term.e x1)),(V.fp (E_Graph.e x0))]) (us := [(V.int .u8 (1 : Int)),(V.fp (E_Term.e x1)),(V.fp (E_Graph.e x0))]) (by kernel_rfl) (by kernel_rfl) (by kernel_rfl) ((w81 h820 hp).mono ?_);rintro _ H ⟨rfl,hp⟩;have hp : HP H (L) := hp;refine Ro.t 7 ?_;refine Ro.d (mkE [(4,(V.bool (x1.fTrap == (0 : Int))))] 90) ?_;refine Run.ret ?_;have h := Option.some.inj h; subst h;exact ⟨(V.bool (x1.fTrap == (0 : Int))),(by kernel_rfl),(by kernel_rfl),hp⟩
          · subst h821; rw [if_neg (by decide)] at h;refine RunO.h1 (n := 81) (caps := [(V.fp (E_Term.e x1)),(V.fp (E_Graph.e x0))]) (us := [(V.int .u8 (1 : Int)),(V.fp (E_Term.e x1)),(V.fp (E_Graph.e x0))]) (by kernel_rfl) (by kernel_rfl) (by kernel_rfl) ((w81 h820 hp).mono ?_);rintro _ H ⟨rfl,hp⟩;have hp : HP H (L) := hp;refine Ro.t 7 ?_;refine Ro.d (mkE [(4,(V.bool false))] 90) ?_;refine Run.ret ?_;have h := Option.some.inj h; subst h;exact ⟨(V.bool false),(by kernel_rfl),(by kernel_rfl),hp⟩
        · subst h818; rw [if_neg (by decide)] at h;refine RunO.h1 (n := 80) (caps := [(V.fp (E_Graph.e x0))]) (us := [(i6 x1.fTo.a1),(V.fp (E_Graph.e x0))]) (by kernel_rfl) (by kernel_rfl) (by kernel_rfl) ((w80 h817 hp).mono ?_);rintro _ H ⟨rfl,hp⟩;have hp : HP H (L) := hp;refine Ro.t 11 ?_;refine Ro.d (mkE [(4,(V.bool false))] 90) ?_;refine Run.ret ?_;have h := Option.some.inj h; subst h;exact ⟨(V.bool false),(by kernel_rfl),(by kernel_rfl),hp⟩
      · subst h815; rw [if_neg (by decide)] at h;refine RunO.h1 (n := 80) (caps := [(V.fp (E_Graph.e x0))]) (us := [(i6 x1.fTo.a0),(V.fp (E_Graph.e x0))]) (by kernel_rfl) (by kernel_rfl) (by kernel_rfl) ((w80 h814 hp).mono ?_);rintro _ H ⟨rfl,hp⟩;have hp : HP H (L) := hp;refine Ro.t 17 ?_;refine Ro.d (mkE [(4,(V.bool false))] 90) ?_;refine Run.ret ?_;have h := Option.some.inj h; subst h;exact ⟨(V.bool false),(by kernel_rfl),(by kernel_rfl),hp⟩
    · rw [ite_f h812] at h; refine Rn.f h812 ?_;refine Rn.g ?_;refine Ro.t 2 ?_;refine Ro.d (mkE [(2,(V.fp (E_Graph.e x0))),(0,(V.fp (E_Term.e x1))),(2,(V.fn 81 [(V.fp (E_Term.e x1)),(V.fp (E_Graph.e x0))])),(3,(V.int .u8 x1.fKind)),(46,(V.bool (x1.fKind == (3 : Int))))] 37) ?_;rcases tf (x1.fKind == (3 : Int)) with h822 | h822
      · rw [ite_t h822] at h; refine Rn.t h822 ?_;refine Rn.g ?_;refine Ro.t 3 ?_;obtain ⟨y823,h824,h⟩ := bind_some h;rcases tf y823 with h825 | h825
        · subst h825; rw [if_pos rfl] at h;refine RunO.h1 (n := 81) (caps := [(V.fp (E_Term.e x1)),(V.fp (E_Graph.e x0))]) (us := [(V.int .u8 x0.fResult),(V.fp (E_Term.e x1)),(V.fp (E_Graph.e x0))]) (by kernel_rfl) (by kernel_rfl) (by kernel_rfl) ((w81 h824 hp).mono ?_);rintro _ H ⟨rfl,hp⟩;have hp : HP H (L) := hp;refine Ro.t 4 ?_;rcases tf (decide (x1.fTo = (⟨(0 : Int),(0 : Int)⟩ : T_2int))) with h826 | h826
          · rw [ite_t h826] at h; refine Ro.p (Eq.trans (eqs_2int false x1.fTo (⟨(0 : Int),(0 : Int)⟩ : T_2int)) (bool_of h826)) ?_;refine Ro.t 7 ?_;refine Ro.d (mkE [(4,(V.bool (x1.fTrap == (0 : Int))))] 90) ?_;refine Run.ret ?_;have h := Option.some.inj h; subst h;exact ⟨(V.bool (x1.fTrap == (0 : Int))),(by kernel_rfl),(by kernel_rfl),hp⟩
          · rw [ite_f h826] at h; refine Ro.p (Eq.trans (eqs_2int false x1.fTo (⟨(0 : Int),(0 : Int)⟩ : T_2int)) (bool_of h826)) ?_;refine Ro.t 7 ?_;refine Ro.d (mkE [(4,(V.bool false))] 90) ?_;refine Run.ret ?_;have h := Option.some.inj h; subst h;exact ⟨(V.bool false),(by kernel_rfl),(by kernel_rfl),hp⟩
        · subst h825; rw [if_neg (by decide)] at h;refine RunO.h1 (n := 81) (caps := [(V.fp (E_Term.e x1)),(V.fp (E_Graph.e x0))]) (us := [(V.int .u8 x0.fResult),(V.fp (E_Term.e x1)),(V.fp (E_Graph.e x0))]) (by kernel_rfl) (by kernel_rfl) (by kernel_rfl) ((w81 h824 hp).mono ?_);rintro _ H ⟨rfl,hp⟩;have hp : HP H (L) := hp;refine Ro.t 12 ?_;refine Ro.d (mkE [(4,(V.bool false))] 90) ?_;refine Run.ret ?_;have h := Option.some.inj h; subst h;exact ⟨(V.bool false),(by kernel_rfl),(by kernel_rfl),hp⟩
      · rw [ite_f h822] at h; refine Rn.f h822 ?_;refine Rn.g ?_;refine Ro.t 2 ?_;refine Ro.d (mkE [(3,(V.fp (E_Term.e x1))),(70,(V.bool (x1.fKind == (4 : Int))))] 20) ?_;rcases tf (x1.fKind == (4 : Int)) with h827 | h827
        · rw [ite_t h827] at h; refine Rn.t h827 ?_;refine Rn.g ?_;refine Ro.t 2 ?_;rcases tf (decide (x1.fTrap ≥ (1 : Int))) with h828 | h828
          · rw [ite_t h828] at h; refine Ro.p (bool_of h828) ?_;refine Ro.t 3 ?_;rcases tf (decide (x1.fTrap ≤ (3 : Int))) with h829 | h829
            · rw [ite_t h829] at h; refine Ro.p (bool_of h829) ?_;refine Ro.t 4 ?_;rcases tf (x1.fArg == (0 : Int)) with h830 | h830
              · rw [ite_t h830] at h; refine Ro.p (bool_of h830) ?_;refine Ro.t 5 ?_;refine Ro.p (eqs_2int false x1.fTo (⟨(0 : Int),(0 : Int)⟩ : T_2int)) ?_;refine Ro.t 2 ?_;refine Ro.d (mkE [(4,(V.bool (decide (x1.fTo = (⟨(0 : Int),(0 : Int)⟩ : T_2int)))))] 90) ?_;refine Run.ret ?_;have h := Option.some.inj h; subst h;exact ⟨(V.bool (decide (x1.fTo = (⟨(0 : Int),(0 : Int)⟩ : T_2int)))),(by kernel_rfl),(by kernel_rfl),hp⟩
              · rw [ite_f h830] at h; refine Ro.p (bool_of h830) ?_;refine Ro.t 8 ?_;refine Ro.d (mkE [(4,(V.bool false))] 90) ?_;refine Run.ret ?_;have h := Option.some.inj h; subst h;exact ⟨(V.bool false),(by kernel_rfl),(by kernel_rfl),hp⟩
            · rw [ite_f h829] at h; refine Ro.p (bool_of h829) ?_;refine Ro.t 13 ?_;refine Ro.d (mkE [(4,(V.bool false))] 90) ?_;refine Run.ret ?_;have h := Option.some.inj h; subst h;exact ⟨(V.bool false),(by kernel_rfl),(by kernel_rfl),hp⟩
          · rw [ite_f h828] at h; refine Ro.p (bool_of h828) ?_;refine Ro.t 17 ?_;refine Ro.d (mkE [(4,(V.bool false))] 90) ?_;refine Run.ret ?_;have h := Option.some.inj h; subst h;exact ⟨(V.bool false),(by kernel_rfl),(by kernel_rfl),hp⟩
        · rw [ite_f h827] at h; refine Rn.f h827 ?_;refine Run.skip ?_;refine Rn.c (mkE [] 95) ?_;refine Rn.g ?_;refine Ro.t 1 ?_;refine Ro.d (mkE [(4,(V.bool false))] 90) ?_;refine Run.ret ?_;have h := Option.some.inj h; subst h;exact ⟨(V.bool false),(by kernel_rfl),(by kernel_rfl),hp⟩
theorem c60 {x0 : T_Graph} {x1 : T_Term} {r : Bool} (h : F60 x0 x1 = some r) (s : Bool) : Fn T 60 [(E_Graph.e x0),(E_Term.e x1)] [] (fun v hh => deep s hh deepN v = some (EB.e r)) := by
  refine (w60 h HP.nil).mono ?_;rintro v hh ⟨rfl,hp⟩;exact EB.hd s hh 38 _ (.inr rfl)
abbrev Q61 (L : List Ob) (r : Bool) : V → Heap → Prop := fun v h => v = EB.e r ∧ HP h (L)
abbrev RR61 (L : List Ob) (r : Bool) : List V → Heap → Prop := fun e h => endR none [4] (Q61 L r) e h
abbrev I61_1 (x0 : T_Block) (x1 : Int) (L : List Ob) : ((List Int) × Int) → List V → Heap → Prop := fun s e h => ∃ o956 : Option (Nat × Nat),∃ q957 : List V,e = (mkE [(1,(i6 x1)),(3,(slv (EI .i64).z (EI .i64).ag (List.length s.1) o956)),(3,(Zl E_Ins x0.fIns)),(0,(i6 (ln x0.fIns))),(0,(i6 s.2))] 30) ∧ HP h ((o956,List.flatMap (EI .i64).c s.1 ++ q957) :: L)
abbrev J61_1 (x0 : T_Block) (x1 : Int) (L : List Ob) : Unit → Nat → List V → Heap → Prop := fun a i e h => i = 0 ∧ clrEnv [1,2,4,5,6,7,8,9,10,11,12,13,14,15,16,17,18,19,20,21,22,23,24,25,26,27,28,29,30,31,32,33,34,35,36,37,38,39,40,41] e = (mkE [] 42) ∧ HP h (L)
def F61_j1 (x0 : T_Block) (x1 : Int) (y958 : Int) (l1020 : (List Int)) : Option (Stp ((List Int) × Int) Bool Unit) :=
  some (.next (l1020,(IntKind.i64.wrap (y958 + (1 : Int)))))
theorem w61_j1 {x0 : T_Block} {x1 : Int} {y958 : Int} {l1020 : (List Int)} {t : (Stp ((List Int) × Int) Bool Unit)} (h : F61_j1 x0 x1 y958 l1020 = some t) {o1021 : Option (Nat × Nat)} {q1022 : List V} {H : Heap} {L : List Ob} (hp : HP H ((o1021,List.flatMap (EI .i64).c l1020 ++ q1022) :: L)) :
    Run T (.rgn i61r19) (mkE [(1,(i6 x1)),(3,(slv (EI .i64).z (EI .i64).ag (List.length l1020) o1021)),(3,(Zl E_Ins x0.fIns)),(0,(i6 (ln x0.fIns))),(0,(i6 y958))] 30) H (stp [4,6,7,12,13,14,15,16,17,18,19,20,21,22,23,24,25,26,27,28,29,30,31,32,33,34,35,36,37,38,39,40,41] (I61_1 x0 x1 L) (RR61 L) (J61_1 x0 x1 L) t) := by
  unfold F61_j1 at h;refine Run.rgn ?_;refine Ro.t 2 ?_;refine RunO.nil ?_;have h := Option.some.inj h; subst h;show I61_1 x0 x1 L _ _ _;exact ⟨o1021,q1022,(by kernel_rfl),hp⟩
def F61_1_b (x0 : T_Block) (x1 : Int) (l955 : (List Int)) (y958 : Int) : Option (Stp ((List Int) × Int) Bool Unit) :=
  if (decide (y958 < ((List.length x0.fIns : Nat) : Int))) then
    (idx x0.fIns y958).bind fun y1023 =>
    if (y1023.fKind != (1 : Int)) then
      F61_j1 x0 x1 y958 (l955)
    else
      if (y958 != ((List.length l955 : Nat) : Int)) then
        some (.ret false)
      else
        if (((List.length y1023.fArgs : Nat) : Int) != x1) then
          some (.ret false)
        else
          (F79 l955 y1023.fDst).bind fun y1035 =>
          if y1035 then
            some (.ret false)
          else
            (more 8 l955 ([y1023.fDst] : List Int)).bind fun y1038 =>
            F61_j1 x0 x1 y958 (y1038)
  else
    some (.go ())
theorem w61_1_b {x0 : T_Block} {x1 : Int} {l955 : (List Int)} {y958 : Int} {t : (Stp ((List Int) × Int) Bool Unit)} (h : F61_1_b x0 x1 l955 y958 = some t) {o956 : Option (Nat × Nat)} {q957 : List V} {H : Heap} {L : List Ob} (hp : HP H ((o956,List.flatMap (EI .i64).c l955 ++ q957) :: L)) :
    Run T i61n22 (mkE [(1,(i6 x1)),(3,(slv (EI .i64).z (EI .i64).ag (List.length l955) o956)),(3,(Zl E_Ins x0.fIns)),(0,(i6 (ln x0.fIns))),(0,(i6 y958))] 30) H (stp [4,6,7,12,13,14,15,16,17,18,19,20,21,22,23,24,25,26,27,28,29,30,31,32,33,34,35,36,37,38,39,40,41] (I61_1 x0 x1 L) (RR61 L) (J61_1 x0 x1 L) t) := by
  unfold F61_1_b at h;refine Rn.g ?_;refine Ro.t 1 ?_;refine Ro.d (mkE [(1,(i6 x1)),(3,(slv (EI .i64).z (EI .i64).ag (List.length l955) o956)),(3,(Zl E_Ins x0.fIns)),(0,(i6 (ln x0.fIns))),(0,(i6 y958)),(0,(V.bool (decide (y958 < (ln x0.fIns)))))] 29) ?_;refine Run.seq ?_;rcases tf (decide (y958 < (ln x0.fIns))) with h1001 | h1001
  · rw [ite_t h1001] at h; refine Rn.t h1001 ?_;refine Run.skip ?_;refine Rn.c (mkE [(1,(i6 x1)),(3,(slv (EI .i64).z (EI .i64).ag (List.length l955) o956)),(3,(Zl E_Ins x0.fIns)),(0,(i6 (ln x0.fIns))),(0,(i6 y958))] 30) ?_;refine Run.seq ?_;refine Run.block ?_;refine Rn.g ?_;refine Ro.t 1 ?_;obtain ⟨y1023,h1024,h⟩ := bind_some h;refine Ro.p (idx_fz E_Ins .i64 h1024) ?_;refine Ro.t 1 ?_;refine RunO.alloc hp (by kernel_rfl) ?_;intro b1025 H hp;have hp : HP H ((some (b1025,0),[(V.int .u8 (0 : Int)),(V.int .u8 (0 : Int)),(i6 (0 : Int)),(V.fz (List.map (EI .i64).e ([] : List Int))),(V.int .u64 (0 : Int)),(i6 (0 : Int))]) :: (o956,List.flatMap (EI .i64).c l955 ++ q957) :: L) := hp;refine Ro.t 1 ?_;refine RunO.st hp (by kernel_rfl) 0 (off := 0) (v := (E_Ins.e y1023)) (cs' := [(V.int .u8 y1023.fKind),(V.int .u8 y1023.fOp),(i6 y1023.fDst),(Zl (EI .i64) y1023.fArgs),(V.int .u64 y1023.fBits),(i6 y1023.fRef)]) rfl (by kernel_rfl) (by kernel_rfl) (by kernel_rfl) ?_;intro H hp;refine Ro.d (mkE [(1,(i6 x1)),(3,(slv (EI .i64).z (EI .i64).ag (List.length l955) o956)),(0,(i6 y958)),(0,(V.ptr b1025 0 0)),(1,(Zl E_Ins x0.fIns)),(0,(i6 (ln x0.fIns))),(0,(i6 y958))] 30) ?_;refine Run.seq ?_;refine Rn.g ?_;refine Ro.t 1 ?_;refine Ro.p (hp.ld 0 (off := 0) (n := none) (v := (V.int .u8 y1023.fKind)) rfl (by kernel_rfl)) ?_;refine Ro.t 1 ?_;refine Ro.d (mkE [(1,(i6 x1)),(3,(slv (EI .i64).z (EI .i64).ag (List.length l955) o956)),(0,(i6 y958)),(0,(V.ptr b1025 0 0)),(1,(Zl E_Ins x0.fIns)),(0,(i6 (ln x0.fIns))),(0,(i6 y958)),(6,(V.bool (y1023.fKind != (1 : Int))))] 23) ?_;rcases tf (y1023.fKind != (1 : Int)) with h1027 | h1027
    · rw [ite_t h1027] at h; refine Rn.t h1027 ?_;refine Run.exit ?_;refine Run.clrE (ts := [4,6,7,13,14,15,16,17,18,19,20,21,22,23,24,25,26,27,28,29,30,31,32,33,34,35,36,37,38,39,40]) (b := (.rgn i61r19)) (Q := (stp [4,6,7,12,13,14,15,16,17,18,19,20,21,22,23,24,25,26,27,28,29,30,31,32,33,34,35,36,37,38,39,40,41] (I61_1 x0 x1 L) (RR61 L) (J61_1 x0 x1 L) t)) (e' := (mkE [(1,(i6 x1)),(3,(slv (EI .i64).z (EI .i64).ag (List.length l955) o956)),(3,(Zl E_Ins x0.fIns)),(0,(i6 (ln x0.fIns))),(0,(i6 y958))] 30)) (by kernel_rfl) ?_;have hp := hp.del 0;exact w61_j1 h hp
    · rw [ite_f h1027] at h; refine Rn.f h1027 ?_;refine Run.skip ?_;refine Rn.c (mkE [(1,(i6 x1)),(3,(slv (EI .i64).z (EI .i64).ag (List.length l955) o956)),(0,(i6 y958)),(0,(V.ptr b1025 0 0)),(1,(Zl E_Ins x0.fIns)),(0,(i6 (ln x0.fIns))),(0,(i6 y958))] 30) ?_;refine Run.seq ?_;refine Rn.g ?_;refine Ro.t 2 ?_;refine Ro.p (own_len (EI .i64) hp 1 rfl) ?_;rcases tf (y958 != (ln l955)) with h1033 | h1033
      · rw [ite_t h1033] at h; refine Ro.p (bool_of h1033) ?_;refine Ro.t 13 ?_;refine Ro.d (mkE [(1,(i6 x1)),(3,(slv (EI .i64).z (EI .i64).ag (List.length l955) o956)),(1,(V.ptr b1025 0 0)),(1,(Zl E_Ins x0.fIns)),(0,(i6 (ln x0.fIns))),(0,(i6 y958)),(23,(V.bool true))] 6) ?_;refine Run.condT (by kernel_rfl) ?_;refine Rn.g ?_;refine Ro.t 1 ?_;refine Ro.d (mkE [(4,(V.bool false))] 37) ?_;refine Run.ret ?_;have h := Option.some.inj h; subst h;show RR61 L _ _ _;have hp := hp.del 1;have hp := hp.del 0;exact ⟨(V.bool false),(by kernel_rfl),(by kernel_rfl),hp⟩
      · rw [ite_f h1033] at h; refine Ro.p (bool_of h1033) ?_;refine Ro.t 2 ?_;refine Ro.p (hp.ld 0 (off := 3) (n := none) (v := (Zl (EI .i64) y1023.fArgs)) rfl (by kernel_rfl)) ?_;refine Ro.p (len_fz (EI .i64) y1023.fArgs) ?_;refine Ro.t 1 ?_;rcases tf ((ln y1023.fArgs) != x1) with h1034 | h1034
        · rw [ite_t h1034] at h; refine Ro.p (bool_of h1034) ?_;refine Ro.t 7 ?_;refine Ro.d (mkE [(1,(i6 x1)),(3,(slv (EI .i64).z (EI .i64).ag (List.length l955) o956)),(1,(V.ptr b1025 0 0)),(1,(Zl E_Ins x0.fIns)),(0,(i6 (ln x0.fIns))),(0,(i6 y958)),(23,(V.bool true))] 6) ?_;refine Run.condT (by kernel_rfl) ?_;refine Rn.g ?_;refine Ro.t 1 ?_;refine Ro.d (mkE [(4,(V.bool false))] 37) ?_;refine Run.ret ?_;have h := Option.some.inj h; subst h;show RR61 L _ _ _;have hp := hp.del 1;have hp := hp.del 0;exact ⟨(V.bool false),(by kernel_rfl),(by kernel_rfl),hp⟩
        · rw [ite_f h1034] at h; refine Ro.p (bool_of h1034) ?_;refine Ro.t 4 ?_;refine Ro.p (hp.ld 0 (off := 2) (n := none) (v := (i6 y1023.fDst)) rfl (by kernel_rfl)) ?_;obtain ⟨y1035,h1036,h⟩ := bind_some h;refine RunO.c1 (by kernel_rfl) (omape (l' := [(slv (EI .i64).z (EI .i64).ag (List.length l955) o956),(i6 y1023.fDst)]) (by kernel_rfl) (omapc (own_deep (EI .i64) hp 1 rfl false (.inl rfl) 36) (omapc (by kernel_rfl) omapn))) (c79 h1036 _) ?_;refine Ro.t 1 ?_;refine Ro.d (mkE [(1,(i6 x1)),(3,(slv (EI .i64).z (EI .i64).ag (List.length l955) o956)),(1,(V.ptr b1025 0 0)),(1,(Zl E_Ins x0.fIns)),(0,(i6 (ln x0.fIns))),(0,(i6 y958)),(23,(V.bool y1035))] 6) ?_;rcases tf y1035 with h1037 | h1037
          · rw [ite_t h1037] at h; refine Rn.t h1037 ?_;refine Rn.g ?_;refine Ro.t 1 ?_;refine Ro.d (mkE [(4,(V.bool false))] 37) ?_;refine Run.ret ?_;have h := Option.some.inj h; subst h;show RR61 L _ _ _;have hp := hp.del 1;have hp := hp.del 0;exact ⟨(V.bool false),(by kernel_rfl),(by kernel_rfl),hp⟩
          · rw [ite_f h1037] at h; refine Rn.f h1037 ?_;refine Run.skip ?_;refine Run.clrE (ts := [4,6,19,20,21,22,23,24,25,26,27,28,29,30,31,32,33,34,35]) (b := (.rgn i61r14)) (Q := (blk 1 (thn T (.clr [4,6,7,13,14,15,16,17,18,19,20,21,22,23,24,25,26,27,28,29,30,31,32,33,34,35,36,37,38,39,40] (.rgn i61r19)) (stp [4,6,7,12,13,14,15,16,17,18,19,20,21,22,23,24,25,26,27,28,29,30,31,32,33,34,35,36,37,38,39,40,41] (I61_1 x0 x1 L) (RR61 L) (J61_1 x0 x1 L) t)))) (e' := (mkE [(1,(i6 x1)),(3,(slv (EI .i64).z (EI .i64).ag (List.length l955) o956)),(1,(V.ptr b1025 0 0)),(1,(Zl E_Ins x0.fIns)),(0,(i6 (ln x0.fIns))),(0,(i6 y958))] 30)) (by kernel_rfl) ?_;refine Run.rgn ?_;refine Ro.t 2 ?_;refine Ro.p (hp.ld 0 (off := 2) (n := none) (v := (i6 y1023.fDst)) rfl (by kernel_rfl)) ?_;refine Ro.t 1 ?_;obtain ⟨y1038,h1039,h⟩ := bind_some h;refine RunO.app1 (EI .i64) hp (by kernel_rfl) 1 (o := o956) (l := l955) (rest := q957) (m := ([y1023.fDst] : List Int)) rfl (by kernel_rfl) (by kernel_rfl) ((EI .i64).new_fz _ ([y1023.fDst] : List Int)) (by kernel_rfl) (by kernel_rfl) h1039 ?_;intro o1040 H hp;have hp : HP H ((some (b1025,0),[(V.int .u8 y1023.fKind),(V.int .u8 y1023.fOp),(i6 y1023.fDst),(Zl (EI .i64) y1023.fArgs),(V.int .u64 y1023.fBits),(i6 y1023.fRef)]) :: (o1040,List.flatMap (EI .i64).c y1038 ++ []) :: L) := hp;refine Ro.t 1 ?_;refine RunO.nil ?_;refine Run.clrE (ts := [4,6,7,13,14,15,16,17,18,19,20,21,22,23,24,25,26,27,28,29,30,31,32,33,34,35,36,37,38,39,40]) (b := (.rgn i61r19)) (Q := (stp [4,6,7,12,13,14,15,16,17,18,19,20,21,22,23,24,25,26,27,28,29,30,31,32,33,34,35,36,37,38,39,40,41] (I61_1 x0 x1 L) (RR61 L) (J61_1 x0 x1 L) t)) (e' := (mkE [(1,(i6 x1)),(3,(slv (EI .i64).z (EI .i64).ag (List.length y1038) o1040)),(3,(Zl E_Ins x0.fIns)),(0,(i6 (ln x0.fIns))),(0,(i6 y958))] 30)) (by kernel_rfl) ?_;have hp := hp.del 0;exact w61_j1 h hp
  · rw [ite_f h1001] at h; refine Rn.f h1001 ?_;refine Run.exit ?_;have h := Option.some.inj h; subst h;have hp := hp.del 0;show J61_1 x0 x1 L () _ _ _;exact ⟨rfl,(by kernel_rfl),hp⟩
def F61 (x0 : T_Block) (x1 : Int) : Option Bool :=
  (iter (fun s : ((List Int) × Int) => F61_1_b x0 x1 s.1 s.2) FUEL ([],(0 : Int))).bind fun o => match o with
  | .ret r => some r
  | .go () =>
    some true
theorem w61 {x0 : T_Block} {x1 : Int} {r : Bool} (h : F61 x0 x1 = some r) {H : Heap} {L : List Ob} (hp : HP H (L)) : Fn T 61 [(E_Block.e x0),(i6 x1)] H (Q61 L r) := by
  refine Fn.enterE t61 (e0 := (mkE [(0,(E_Block.e x0)),(0,(i6 x1))] 40)) (by kernel_rfl) ?_;show Run T (.clr [] i61n30) _ _ (finE none [4] (Q61 L r));refine Rn.k (mkE [(0,(E_Block.e x0)),(0,(i6 x1))] 40) ?_;unfold F61 at h;refine Rn.g ?_;refine Ro.t 2 ?_;refine Ro.d (mkE [(1,(i6 x1)),(0,(V.fp (E_Block.e x0)))] 39) ?_;refine Rn.g ?_;refine Ro.t 1 ?_;refine Ro.d (mkE [(1,(i6 x1)),(0,(V.fp (E_Block.e x0))),(2,V.nils)] 36) ?_;refine Run.seq ?_;refine Rn.g ?_;refine Ro.t 2 ?_;refine Ro.p (len_fz E_Ins x0.fIns) ?_;refine Ro.t 1 ?_;refine Ro.d (mkE [(1,(i6 x1)),(3,V.nils),(3,(Zl E_Ins x0.fIns)),(0,(i6 (ln x0.fIns))),(0,(i6 (0 : Int)))] 30) ?_;refine Run.block ?_;obtain ⟨o,h1041,h⟩ := bind_some h;have hp := hp.non;refine (Run.iter (I := I61_1 x0 x1 L) (RR := RR61 L) (J := J61_1 x0 x1 L) (fun s e h' t hI hf => ?_) FUEL h1041 (by exact ⟨none,[],(by kernel_rfl),hp⟩)).mono ?_
  · obtain ⟨_,_,rfl,hp⟩ := hI; exact w61_1_b hf hp
  · rintro X e' H hq;cases o with
    | ret r => cases X <;> first | exact hq.elim | (cases h; exact hq)
    | go a =>
      cases X with | nrm => exact hq.elim | ret => exact hq.elim | ext i => ?_;obtain ⟨rfl,he,hp⟩ := hq
      dsimp only at h
      refine Run.clrE (ts := [1,2,4,5,6,7,8,9,10,11,12,13,14,15,16,17,18,19,20,21,22,23,24,25,26,27,28,29,30,31,32,33,34,35,36,37,38,39,40,41]) (b := i61n27) (Q := (finE none [4] (Q61 L r))) he ?_;refine Rn.g ?_;refine Ro.t 1 ?_;refine Ro.d (mkE [(4,(V.bool true))] 37) ?_;refine Run.ret ?_;have h := Option.some.inj h; subst h;exact ⟨(V.bool true),(by kernel_rfl),(by kernel_rfl),hp⟩
theorem c61 {x0 : T_Block} {x1 : Int} {r : Bool} (h : F61 x0 x1 = some r) (s : Bool) : Fn T 61 [(E_Block.e x0),(i6 x1)] [] (fun v hh => deep s hh deepN v = some (EB.e r)) := by
  refine (w61 h HP.nil).mono ?_;rintro v hh ⟨rfl,hp⟩;exact EB.hd s hh 38 _ (.inr rfl)
abbrev Q72 (L : List Ob) (r : Bool) : V → Heap → Prop := fun v h => v = EB.e r ∧ HP h (L)
abbrev RR72 (L : List Ob) (r : Bool) : List V → Heap → Prop := fun e h => endR none [3] (Q72 L r) e h
def F72 (x0 : Int) (x1 : T_Graph) : Option Bool :=
  (F34 x0 ((List.length x1.fVars : Nat) : Int)).bind fun y1148 =>
  some (!y1148)
theorem w72 {x0 : Int} {x1 : T_Graph} {r : Bool} (h : F72 x0 x1 = some r) {H : Heap} {L : List Ob} (hp : HP H (L)) : Fn T 72 [(i6 x0),(V.fp (E_Graph.e x1))] H (Q72 L r) := by
  refine Fn.enterE t72 (e0 := (mkE [(0,(i6 x0)),(0,(V.fp (E_Graph.e x1)))] 8)) (by kernel_rfl) ?_;show Run T (.clr [] i72n3) _ _ (finE none [3] (Q72 L r));refine Rn.k (mkE [(0,(i6 x0)),(0,(V.fp (E_Graph.e x1)))] 8) ?_;unfold F72 at h;refine Rn.g ?_;refine Ro.t 1 ?_;refine Ro.d (mkE [(0,(i6 x0)),(0,(V.fp (E_Graph.e x1)))] 8) ?_;refine Rn.g ?_;refine Ro.t 3 ?_;refine Ro.p (len_fz (EI .u8) x1.fVars) ?_;obtain ⟨y1148,h1149,h⟩ := bind_some h;refine RunO.c1 (by kernel_rfl) (by kernel_rfl) (c34 h1149 _) ?_;refine Ro.t 2 ?_;refine Ro.d (mkE [(3,(V.bool (!y1148)))] 6) ?_;refine Run.ret ?_;have h := Option.some.inj h; subst h;exact ⟨(V.bool (!y1148)),(by kernel_rfl),(by kernel_rfl),hp⟩
theorem c72 {x0 : Int} {x1 : T_Graph} {r : Bool} (h : F72 x0 x1 = some r) (s : Bool) : Fn T 72 [(i6 x0),(V.fp (E_Graph.e x1))] [] (fun v hh => deep s hh deepN v = some (EB.e r)) := by
  refine (w72 h HP.nil).mono ?_;rintro v hh ⟨rfl,hp⟩;exact EB.hd s hh 38 _ (.inr rfl)
abbrev Q89 (L : List Ob) (r : Int) : V → Heap → Prop := fun v h => v = (EI .i64).e r ∧ HP h (L)
abbrev RR89 (L : List Ob) (r : Int) : List V → Heap → Prop := fun e h => endR none [4] (Q89 L r) e h
abbrev I89_1 (x0 : (List Int)) (x1 : T_Graph) (L : List Ob) : (Int) → List V → Heap → Prop := fun s e h => e = (mkE [(0,(Zl (EI .i64) x0)),(0,(V.fn 72 [(V.fp (E_Graph.e x1))])),(5,(i6 (ln x0))),(0,(i6 s))] 10) ∧ HP h (L)
abbrev J89_1 (x0 : (List Int)) (x1 : T_Graph) (L : List Ob) : Unit → Nat → List V → Heap → Prop := fun a i e h => i = 0 ∧ clrEnv [0,1,4,5,6,7,8,9,10,11,12,13,14,15,16,17,18] e = (mkE [] 19) ∧ HP h (L)
def F89_1_b (x0 : (List Int)) (x1 : T_Graph) (y1183 : Int) : Option (Stp (Int) Int Unit) :=
  if (decide (y1183 < ((List.length x0 : Nat) : Int))) then
    (idx x0 y1183).bind fun y1203 =>
    (F72 y1203 x1).bind fun y1205 =>
    if y1205 then
      some (.ret y1183)
    else
      some (.next ((IntKind.i64.wrap (y1183 + (1 : Int)))))
  else
    some (.go ())
theorem w89_1_b {x0 : (List Int)} {x1 : T_Graph} {y1183 : Int} {t : (Stp (Int) Int Unit)} (h : F89_1_b x0 x1 y1183 = some t) {H : Heap} {L : List Ob} (hp : HP H (L)) :
    Run T i89n15 (mkE [(0,(Zl (EI .i64) x0)),(0,(V.fn 72 [(V.fp (E_Graph.e x1))])),(5,(i6 (ln x0))),(0,(i6 y1183))] 10) H (stp [4,5,9,10,11,12,13,14,15,16,17,18] (I89_1 x0 x1 L) (RR89 L) (J89_1 x0 x1 L) t) := by
  unfold F89_1_b at h;refine Rn.g ?_;refine Ro.t 1 ?_;refine Ro.d (mkE [(0,(Zl (EI .i64) x0)),(0,(V.fn 72 [(V.fp (E_Graph.e x1))])),(5,(i6 (ln x0))),(0,(i6 y1183)),(0,(V.bool (decide (y1183 < (ln x0)))))] 9) ?_;refine Run.seq ?_;rcases tf (decide (y1183 < (ln x0))) with h1197 | h1197
  · rw [ite_t h1197] at h; refine Rn.t h1197 ?_;refine Run.skip ?_;refine Rn.c (mkE [(0,(Zl (EI .i64) x0)),(0,(V.fn 72 [(V.fp (E_Graph.e x1))])),(5,(i6 (ln x0))),(0,(i6 y1183))] 10) ?_;refine Run.seq ?_;refine Run.block ?_;refine Rn.g ?_;refine Ro.t 2 ?_;refine Ro.d (mkE [(0,(Zl (EI .i64) x0)),(0,(V.fn 72 [(V.fp (E_Graph.e x1))])),(3,(i6 y1183)),(1,(i6 (ln x0))),(0,(i6 y1183))] 10) ?_;refine Rn.g ?_;refine Ro.t 3 ?_;obtain ⟨y1203,h1204,h⟩ := bind_some h;refine Ro.p (idx_fz (EI .i64) .i64 h1204) ?_;refine Ro.t 1 ?_;obtain ⟨y1205,h1206,h⟩ := bind_some h;refine RunO.h1 (n := 72) (caps := [(V.fp (E_Graph.e x1))]) (us := [(i6 y1203),(V.fp (E_Graph.e x1))]) (by kernel_rfl) (by kernel_rfl) (by kernel_rfl) ((w72 h1206 hp).mono ?_);rintro _ H ⟨rfl,hp⟩;have hp : HP H (L) := hp;refine Ro.d (mkE [(0,(Zl (EI .i64) x0)),(0,(V.fn 72 [(V.fp (E_Graph.e x1))])),(3,(i6 y1183)),(1,(i6 (ln x0))),(0,(i6 y1183)),(7,(V.bool y1205))] 2) ?_;rcases tf y1205 with h1207 | h1207
    · rw [ite_t h1207] at h; refine Rn.t h1207 ?_;refine Rn.g ?_;refine Ro.t 2 ?_;refine Ro.d (mkE [(4,(i6 y1183))] 14) ?_;refine Run.ret ?_;have h := Option.some.inj h; subst h;show RR89 L _ _ _;exact ⟨(i6 y1183),(by kernel_rfl),(by kernel_rfl),hp⟩
    · rw [ite_f h1207] at h; refine Rn.f h1207 ?_;refine Run.skip ?_;refine Run.clrE (ts := [4,5,10,11,12,13,14,15,16,17]) (b := (.rgn i89r12)) (Q := (stp [4,5,9,10,11,12,13,14,15,16,17,18] (I89_1 x0 x1 L) (RR89 L) (J89_1 x0 x1 L) t)) (e' := (mkE [(0,(Zl (EI .i64) x0)),(0,(V.fn 72 [(V.fp (E_Graph.e x1))])),(5,(i6 (ln x0))),(0,(i6 y1183))] 10)) (by kernel_rfl) ?_;refine Run.rgn ?_;refine Ro.t 2 ?_;refine RunO.nil ?_;have h := Option.some.inj h; subst h;show I89_1 x0 x1 L _ _ _;exact ⟨(by kernel_rfl),hp⟩
  · rw [ite_f h1197] at h; refine Rn.f h1197 ?_;refine Run.exit ?_;have h := Option.some.inj h; subst h;show J89_1 x0 x1 L () _ _ _;exact ⟨rfl,(by kernel_rfl),hp⟩
def F89 (x0 : (List Int)) (x1 : T_Graph) : Option Int :=
  (iter (fun s : (Int) => F89_1_b x0 x1 s) FUEL ((0 : Int))).bind fun o => match o with
  | .ret r => some r
  | .go () =>
    some (-1 : Int)
theorem w89 {x0 : (List Int)} {x1 : T_Graph} {r : Int} (h : F89 x0 x1 = some r) {H : Heap} {L : List Ob} (hp : HP H (L)) : Fn T 89 [(Zl (EI .i64) x0),(V.fn 72 [(V.fp (E_Graph.e x1))])] H (Q89 L r) := by
  refine Fn.enterE t89 (e0 := (mkE [(0,(Zl (EI .i64) x0)),(0,(V.fn 72 [(V.fp (E_Graph.e x1))]))] 17)) (by kernel_rfl) ?_;show Run T (.clr [] i89n22) _ _ (finE none [4] (Q89 L r));refine Rn.k (mkE [(0,(Zl (EI .i64) x0)),(0,(V.fn 72 [(V.fp (E_Graph.e x1))]))] 17) ?_;unfold F89 at h;refine Rn.g ?_;refine Ro.t 1 ?_;refine Ro.d (mkE [(0,(Zl (EI .i64) x0)),(0,(V.fn 72 [(V.fp (E_Graph.e x1))]))] 17) ?_;refine Run.seq ?_;refine Rn.g ?_;refine Ro.t 1 ?_;refine Ro.p (len_fz (EI .i64) x0) ?_;refine Ro.t 1 ?_;refine Ro.d (mkE [(0,(Zl (EI .i64) x0)),(0,(V.fn 72 [(V.fp (E_Graph.e x1))])),(5,(i6 (ln x0))),(0,(i6 (0 : Int)))] 10) ?_;refine Run.block ?_;obtain ⟨o,h1208,h⟩ := bind_some h;refine (Run.iter (I := I89_1 x0 x1 L) (RR := RR89 L) (J := J89_1 x0 x1 L) (fun s e h' t hI hf => ?_) FUEL h1208 (by exact ⟨(by kernel_rfl),hp⟩)).mono ?_
  · obtain ⟨rfl,hp⟩ := hI; exact w89_1_b hf hp
  · rintro X e' H hq;cases o with
    | ret r => cases X <;> first | exact hq.elim | (cases h; exact hq)
    | go a =>
      cases X with | nrm => exact hq.elim | ret => exact hq.elim | ext i => ?_;obtain ⟨rfl,he,hp⟩ := hq
      dsimp only at h
      refine Run.clrE (ts := [0,1,4,5,6,7,8,9,10,11,12,13,14,15,16,17,18]) (b := i89n20) (Q := (finE none [4] (Q89 L r))) he ?_;refine Rn.g ?_;refine Ro.t 1 ?_;refine Ro.d (mkE [(4,(i6 (-1 : Int)))] 14) ?_;refine Run.ret ?_;have h := Option.some.inj h; subst h;exact ⟨(i6 (-1 : Int)),(by kernel_rfl),(by kernel_rfl),hp⟩
theorem c89 {x0 : (List Int)} {x1 : T_Graph} {r : Int} (h : F89 x0 x1 = some r) (s : Bool) : Fn T 89 [(Zl (EI .i64) x0),(V.fn 72 [(V.fp (E_Graph.e x1))])] [] (fun v hh => deep s hh deepN v = some ((EI .i64).e r)) := by
  refine (w89 h HP.nil).mono ?_;rintro v hh ⟨rfl,hp⟩;exact (EI .i64).hd s hh 38 _ (.inr rfl)
abbrev Q71 (L : List Ob) (r : Bool) : V → Heap → Prop := fun v h => v = EB.e r ∧ HP h (L)
abbrev RR71 (L : List Ob) (r : Bool) : List V → Heap → Prop := fun e h => endR none [4] (Q71 L r) e h
def F71 (x0 : (List Int)) (x1 : T_Graph) : Option Bool :=
  (F89 x0 x1).bind fun y1211 =>
  some (decide (y1211 ≥ (0 : Int)))
theorem w71 {x0 : (List Int)} {x1 : T_Graph} {r : Bool} (h : F71 x0 x1 = some r) {H : Heap} {L : List Ob} (hp : HP H (L)) : Fn T 71 [(Zl (EI .i64) x0),(V.fn 72 [(V.fp (E_Graph.e x1))])] H (Q71 L r) := by
  refine Fn.enterE t71 (e0 := (mkE [(0,(Zl (EI .i64) x0)),(0,(V.fn 72 [(V.fp (E_Graph.e x1))]))] 7)) (by kernel_rfl) ?_;show Run T (.clr [] i71n3) _ _ (finE none [4] (Q71 L r));refine Rn.k (mkE [(0,(Zl (EI .i64) x0)),(0,(V.fn 72 [(V.fp (E_Graph.e x1))]))] 7) ?_;unfold F71 at h;refine Rn.g ?_;refine Ro.t 1 ?_;refine Ro.d (mkE [(0,(Zl (EI .i64) x0)),(0,(V.fn 72 [(V.fp (E_Graph.e x1))]))] 7) ?_;refine Rn.g ?_;refine Ro.t 2 ?_;obtain ⟨y1211,h1212,h⟩ := bind_some h;refine RunO.c1 (by kernel_rfl) (by kernel_rfl) (c89 h1212 _) ?_;refine Ro.t 2 ?_;refine Ro.d (mkE [(4,(V.bool (decide (y1211 ≥ (0 : Int)))))] 4) ?_;refine Run.ret ?_;have h := Option.some.inj h; subst h;exact ⟨(V.bool (decide (y1211 ≥ (0 : Int)))),(by kernel_rfl),(by kernel_rfl),hp⟩
theorem c71 {x0 : (List Int)} {x1 : T_Graph} {r : Bool} (h : F71 x0 x1 = some r) (s : Bool) : Fn T 71 [(Zl (EI .i64) x0),(V.fn 72 [(V.fp (E_Graph.e x1))])] [] (fun v hh => deep s hh deepN v = some (EB.e r)) := by
  refine (w71 h HP.nil).mono ?_;rintro v hh ⟨rfl,hp⟩;exact EB.hd s hh 38 _ (.inr rfl)
abbrev Q51 (L : List Ob) (r : Bool) : V → Heap → Prop := fun v h => v = EB.e r ∧ HP h (L)
abbrev RR51 (L : List Ob) (r : Bool) : List V → Heap → Prop := fun e h => endR none [4] (Q51 L r) e h
def F51_j1 (x0 : T_Graph) (x1 : T_Ins) : Option Bool :=
  (F71 x1.fArgs x0).bind fun y1264 =>
  some (!y1264)
theorem w51_j1 {x0 : T_Graph} {x1 : T_Ins} {r : Bool} (h : F51_j1 x0 x1 = some r) {H : Heap} {L : List Ob} (hp : HP H (L)) :
    Run T i51n38 (mkE [(2,(V.fp (E_Graph.e x0))),(0,(V.fp (E_Ins.e x1)))] 93) H (finE none [4] (Q51 L r)) := by
  unfold F51_j1 at h;refine Rn.g ?_;refine Ro.t 3 ?_;obtain ⟨y1264,h1265,h⟩ := bind_some h;refine RunO.c1 (by kernel_rfl) (by kernel_rfl) (c71 h1265 _) ?_;refine Ro.t 2 ?_;refine Ro.d (mkE [(4,(V.bool (!y1264)))] 92) ?_;refine Run.ret ?_;have h := Option.some.inj h; subst h;exact ⟨(V.bool (!y1264)),(by kernel_rfl),(by kernel_rfl),hp⟩
def F51_j4 (x0 : T_Graph) (x1 : T_Ins) (y1224 : T_form) (y1283 : Bool) : Option Bool :=
  if y1283 then
    some false
  else
    if y1224.fref then
      if (x1.fKind != (9 : Int)) then
        (F34 x1.fRef ((List.length x0.fArrays : Nat) : Int)).bind fun y1287 =>
        if (!y1287) then
          some false
        else
          F51_j1 x0 x1
      else
        F51_j1 x0 x1
    else
      F51_j1 x0 x1
theorem w51_j4 {x0 : T_Graph} {x1 : T_Ins} {y1224 : T_form} {y1283 : Bool} {r : Bool} (h : F51_j4 x0 x1 y1224 y1283 = some r) {b1226 : Nat} {H : Heap} {L : List Ob} (hp : HP H ((some (b1226,0),[(V.bool y1224.fdst),(V.bool y1224.fop),(V.bool y1224.fbits),(V.bool y1224.fref),(i6 y1224.fargs)]) :: L)) :
    Run T i51n30 (mkE [(2,(V.fp (E_Graph.e x0))),(0,(V.fp (E_Ins.e x1))),(1,(V.ptr b1226 0 0)),(57,(V.bool y1283))] 33) H (blk 0 (thn T (.clr [4,5,18,19,20,21,22,23,24,25,26,27,28,29,30,31,32,33,34,35,36,37,38,39,40,41,42,43,44,45,46,47,48,49,50,51,52,53,54,55,56,57,58,59,60,61,62,63,64,65,66,67,68,69,70,71,72,73,74,75,76,77,78,79,80,81,82,83,84,85,86,87,88,89,90,91] i51n38) (finE none [4] (Q51 L r)))) := by
  unfold F51_j4 at h;rcases tf y1283 with h1284 | h1284
  · rw [ite_t h1284] at h; refine Rn.t h1284 ?_;refine Rn.g ?_;refine Ro.t 1 ?_;refine Ro.d (mkE [(4,(V.bool false))] 92) ?_;refine Run.ret ?_;have h := Option.some.inj h; subst h;have hp := hp.del 0;exact ⟨(V.bool false),(by kernel_rfl),(by kernel_rfl),hp⟩
  · rw [ite_f h1284] at h; refine Rn.f h1284 ?_;refine Rn.g ?_;refine Ro.t 1 ?_;rcases tf y1224.fref with h1285 | h1285
    · rw [ite_t h1285] at h; refine Ro.p (Eq.trans (hp.ld 0 (off := 3) (n := none) (v := (V.bool y1224.fref)) rfl (by kernel_rfl)) (bool_of h1285)) ?_;refine Ro.t 3 ?_;rcases tf (x1.fKind != (9 : Int)) with h1286 | h1286
      · rw [ite_t h1286] at h; refine Ro.p (bool_of h1286) ?_;refine Ro.t 6 ?_;refine Ro.p (len_fz E_Array x0.fArrays) ?_;obtain ⟨y1287,h1288,h⟩ := bind_some h;refine RunO.c1 (by kernel_rfl) (by kernel_rfl) (c34 h1288 _) ?_;refine Ro.t 3 ?_;refine Ro.d (mkE [(2,(V.fp (E_Graph.e x0))),(0,(V.fp (E_Ins.e x1))),(71,(V.bool (!y1287)))] 21) ?_;rcases tf (!y1287) with h1289 | h1289
        · rw [ite_t h1289] at h; refine Rn.t h1289 ?_;refine Rn.g ?_;refine Ro.t 1 ?_;refine Ro.d (mkE [(4,(V.bool false))] 92) ?_;refine Run.ret ?_;have h := Option.some.inj h; subst h;have hp := hp.del 0;exact ⟨(V.bool false),(by kernel_rfl),(by kernel_rfl),hp⟩
        · rw [ite_f h1289] at h; refine Rn.f h1289 ?_;refine Run.skip ?_;refine Rn.c (mkE [(2,(V.fp (E_Graph.e x0))),(0,(V.fp (E_Ins.e x1)))] 93) ?_;have hp := hp.del 0;exact w51_j1 h hp
      · rw [ite_f h1286] at h; refine Ro.p (bool_of h1286) ?_;refine Ro.t 11 ?_;refine Ro.d (mkE [(2,(V.fp (E_Graph.e x0))),(0,(V.fp (E_Ins.e x1))),(71,(V.bool false))] 21) ?_;refine Run.condF (by kernel_rfl) ?_;refine Run.skip ?_;refine Rn.c (mkE [(2,(V.fp (E_Graph.e x0))),(0,(V.fp (E_Ins.e x1)))] 93) ?_;have hp := hp.del 0;exact w51_j1 h hp
    · rw [ite_f h1285] at h; refine Ro.p (Eq.trans (hp.ld 0 (off := 3) (n := none) (v := (V.bool y1224.fref)) rfl (by kernel_rfl)) (bool_of h1285)) ?_;refine Ro.t 15 ?_;refine Ro.d (mkE [(2,(V.fp (E_Graph.e x0))),(0,(V.fp (E_Ins.e x1))),(71,(V.bool false))] 21) ?_;refine Run.condF (by kernel_rfl) ?_;refine Run.skip ?_;refine Rn.c (mkE [(2,(V.fp (E_Graph.e x0))),(0,(V.fp (E_Ins.e x1)))] 93) ?_;have hp := hp.del 0;exact w51_j1 h hp
def F51_j3 (x0 : T_Graph) (x1 : T_Ins) (y1224 : T_form) (y1280 : Bool) : Option Bool :=
  if y1280 then
    some false
  else
    if (decide (y1224.fargs ≥ (0 : Int))) then
      F51_j4 x0 x1 y1224 ((((List.length x1.fArgs : Nat) : Int) != y1224.fargs))
    else
      F51_j4 x0 x1 y1224 (false)
theorem w51_j3 {x0 : T_Graph} {x1 : T_Ins} {y1224 : T_form} {y1280 : Bool} {r : Bool} (h : F51_j3 x0 x1 y1224 y1280 = some r) {b1226 : Nat} {H : Heap} {L : List Ob} (hp : HP H ((some (b1226,0),[(V.bool y1224.fdst),(V.bool y1224.fop),(V.bool y1224.fbits),(V.bool y1224.fref),(i6 y1224.fargs)]) :: L)) :
    Run T i51n32 (mkE [(2,(V.fp (E_Graph.e x0))),(0,(V.fp (E_Ins.e x1))),(1,(V.ptr b1226 0 0)),(32,(V.bool y1280))] 58) H (blk 0 (thn T (.clr [4,5,18,19,20,21,22,23,24,25,26,27,28,29,30,31,32,33,34,35,36,37,38,39,40,41,42,43,44,45,46,47,48,49,50,51,52,53,54,55,56,57,58,59,60,61,62,63,64,65,66,67,68,69,70,71,72,73,74,75,76,77,78,79,80,81,82,83,84,85,86,87,88,89,90,91] i51n38) (finE none [4] (Q51 L r)))) := by
  unfold F51_j3 at h;rcases tf y1280 with h1281 | h1281
  · rw [ite_t h1281] at h; refine Rn.t h1281 ?_;refine Rn.g ?_;refine Ro.t 1 ?_;refine Ro.d (mkE [(4,(V.bool false))] 92) ?_;refine Run.ret ?_;have h := Option.some.inj h; subst h;have hp := hp.del 0;exact ⟨(V.bool false),(by kernel_rfl),(by kernel_rfl),hp⟩
  · rw [ite_f h1281] at h; refine Rn.f h1281 ?_;refine Rn.g ?_;refine Ro.t 1 ?_;refine Ro.p (hp.ld 0 (off := 4) (n := none) (v := (i6 y1224.fargs)) rfl (by kernel_rfl)) ?_;rcases tf (decide (y1224.fargs ≥ (0 : Int))) with h1290 | h1290
    · rw [ite_t h1290] at h; refine Ro.p (bool_of h1290) ?_;refine Ro.t 3 ?_;refine Ro.p (len_fz (EI .i64) x1.fArgs) ?_;refine Ro.t 1 ?_;refine Ro.p (hp.ld 0 (off := 4) (n := none) (v := (i6 y1224.fargs)) rfl (by kernel_rfl)) ?_;refine Ro.t 3 ?_;refine Ro.d (mkE [(2,(V.fp (E_Graph.e x0))),(0,(V.fp (E_Ins.e x1))),(1,(V.ptr b1226 0 0)),(57,(V.bool ((ln x1.fArgs) != y1224.fargs)))] 33) ?_;exact w51_j4 h hp
    · rw [ite_f h1290] at h; refine Ro.p (bool_of h1290) ?_;refine Ro.t 9 ?_;refine Ro.d (mkE [(2,(V.fp (E_Graph.e x0))),(0,(V.fp (E_Ins.e x1))),(1,(V.ptr b1226 0 0)),(57,(V.bool false))] 33) ?_;exact w51_j4 h hp
def F51_j5 (x0 : T_Graph) (x1 : T_Ins) (y1224 : T_form) (y1292 : Bool) : Option Bool :=
  if y1292 then
    F51_j3 x0 x1 y1224 (y1292)
  else
    if y1224.fbits then
      if y1224.fref then
        F51_j3 x0 x1 y1224 (false)
      else
        F51_j3 x0 x1 y1224 ((x1.fRef != (0 : Int)))
    else
      if (x1.fBits != (0 : Int)) then
        F51_j3 x0 x1 y1224 ((x1.fBits != (0 : Int)))
      else
        if y1224.fref then
          F51_j3 x0 x1 y1224 (false)
        else
          F51_j3 x0 x1 y1224 ((x1.fRef != (0 : Int)))
theorem w51_j5 {x0 : T_Graph} {x1 : T_Ins} {y1224 : T_form} {y1292 : Bool} {r : Bool} (h : F51_j5 x0 x1 y1224 y1292 = some r) {b1226 : Nat} {H : Heap} {L : List Ob} (hp : HP H ((some (b1226,0),[(V.bool y1224.fdst),(V.bool y1224.fop),(V.bool y1224.fbits),(V.bool y1224.fref),(i6 y1224.fargs)]) :: L)) :
    Run T i51n18 (mkE [(2,(V.fp (E_Graph.e x0))),(0,(V.fp (E_Ins.e x1))),(1,(V.ptr b1226 0 0)),(32,(V.bool y1292))] 58) H (thn T (.clr [18,39,40,41,42,43,44,45,46,47,48,49,50,51,52,53,54,55,56,57,58,59,60,61,62] i51n32) (blk 0 (thn T (.clr [4,5,18,19,20,21,22,23,24,25,26,27,28,29,30,31,32,33,34,35,36,37,38,39,40,41,42,43,44,45,46,47,48,49,50,51,52,53,54,55,56,57,58,59,60,61,62,63,64,65,66,67,68,69,70,71,72,73,74,75,76,77,78,79,80,81,82,83,84,85,86,87,88,89,90,91] i51n38) (finE none [4] (Q51 L r))))) := by
  unfold F51_j5 at h;rcases tf y1292 with h1293 | h1293
  · rw [ite_t h1293] at h; refine Rn.t h1293 ?_;refine Run.skip ?_;refine Rn.c (mkE [(2,(V.fp (E_Graph.e x0))),(0,(V.fp (E_Ins.e x1))),(1,(V.ptr b1226 0 0)),(32,(V.bool y1292))] 58) ?_;exact w51_j3 h hp
  · rw [ite_f h1293] at h; refine Rn.f h1293 ?_;refine Rn.g ?_;refine Ro.t 1 ?_;rcases tf y1224.fbits with h1294 | h1294
    · rw [ite_t h1294] at h; refine Ro.p (Eq.trans (hp.ld 0 (off := 2) (n := none) (v := (V.bool y1224.fbits)) rfl (by kernel_rfl)) (bool_of h1294)) ?_;refine Ro.t 7 ?_;refine Ro.d (mkE [(2,(V.fp (E_Graph.e x0))),(0,(V.fp (E_Ins.e x1))),(1,(V.ptr b1226 0 0)),(32,(V.bool false))] 58) ?_;refine Run.condF (by kernel_rfl) ?_;refine Run.rgn ?_;refine Ro.t 1 ?_;rcases tf y1224.fref with h1295 | h1295
      · rw [ite_t h1295] at h; refine Ro.p (Eq.trans (hp.ld 0 (off := 3) (n := none) (v := (V.bool y1224.fref)) rfl (by kernel_rfl)) (bool_of h1295)) ?_;refine Ro.t 7 ?_;refine Ro.d (mkE [(2,(V.fp (E_Graph.e x0))),(0,(V.fp (E_Ins.e x1))),(1,(V.ptr b1226 0 0)),(32,(V.bool false))] 58) ?_;exact w51_j3 h hp
      · rw [ite_f h1295] at h; refine Ro.p (Eq.trans (hp.ld 0 (off := 3) (n := none) (v := (V.bool y1224.fref)) rfl (by kernel_rfl)) (bool_of h1295)) ?_;refine Ro.t 7 ?_;refine Ro.d (mkE [(2,(V.fp (E_Graph.e x0))),(0,(V.fp (E_Ins.e x1))),(1,(V.ptr b1226 0 0)),(32,(V.bool (x1.fRef != (0 : Int))))] 58) ?_;exact w51_j3 h hp
    · rw [ite_f h1294] at h; refine Ro.p (Eq.trans (hp.ld 0 (off := 2) (n := none) (v := (V.bool y1224.fbits)) rfl (by kernel_rfl)) (bool_of h1294)) ?_;refine Ro.t 7 ?_;refine Ro.d (mkE [(2,(V.fp (E_Graph.e x0))),(0,(V.fp (E_Ins.e x1))),(1,(V.ptr b1226 0 0)),(32,(V.bool (x1.fBits != (0 : Int))))] 58) ?_;rcases tf (x1.fBits != (0 : Int)) with h1296 | h1296
      · rw [ite_t h1296] at h; refine Rn.t h1296 ?_;refine Run.skip ?_;refine Rn.c (mkE [(2,(V.fp (E_Graph.e x0))),(0,(V.fp (E_Ins.e x1))),(1,(V.ptr b1226 0 0)),(32,(V.bool (x1.fBits != (0 : Int))))] 58) ?_;exact w51_j3 h hp
      · rw [ite_f h1296] at h; refine Rn.f h1296 ?_;refine Run.rgn ?_;refine Ro.t 1 ?_;rcases tf y1224.fref with h1297 | h1297
        · rw [ite_t h1297] at h; refine Ro.p (Eq.trans (hp.ld 0 (off := 3) (n := none) (v := (V.bool y1224.fref)) rfl (by kernel_rfl)) (bool_of h1297)) ?_;refine Ro.t 7 ?_;refine Ro.d (mkE [(2,(V.fp (E_Graph.e x0))),(0,(V.fp (E_Ins.e x1))),(1,(V.ptr b1226 0 0)),(32,(V.bool false))] 58) ?_;exact w51_j3 h hp
        · rw [ite_f h1297] at h; refine Ro.p (Eq.trans (hp.ld 0 (off := 3) (n := none) (v := (V.bool y1224.fref)) rfl (by kernel_rfl)) (bool_of h1297)) ?_;refine Ro.t 7 ?_;refine Ro.d (mkE [(2,(V.fp (E_Graph.e x0))),(0,(V.fp (E_Ins.e x1))),(1,(V.ptr b1226 0 0)),(32,(V.bool (x1.fRef != (0 : Int))))] 58) ?_;exact w51_j3 h hp
def F51_j2 (x0 : T_Graph) (x1 : T_Ins) (y1224 : T_form) (y1270 : Bool) : Option Bool :=
  if y1270 then
    some false
  else
    if y1224.fop then
      F51_j5 x0 x1 y1224 (false)
    else
      F51_j5 x0 x1 y1224 ((x1.fOp != (0 : Int)))
theorem w51_j2 {x0 : T_Graph} {x1 : T_Ins} {y1224 : T_form} {y1270 : Bool} {r : Bool} (h : F51_j2 x0 x1 y1224 y1270 = some r) {b1226 : Nat} {H : Heap} {L : List Ob} (hp : HP H ((some (b1226,0),[(V.bool y1224.fdst),(V.bool y1224.fop),(V.bool y1224.fbits),(V.bool y1224.fref),(i6 y1224.fargs)]) :: L)) :
    Run T i51n34 (mkE [(2,(V.fp (E_Graph.e x0))),(0,(V.fp (E_Ins.e x1))),(1,(V.ptr b1226 0 0)),(12,(V.bool y1270))] 78) H (blk 0 (thn T (.clr [4,5,18,19,20,21,22,23,24,25,26,27,28,29,30,31,32,33,34,35,36,37,38,39,40,41,42,43,44,45,46,47,48,49,50,51,52,53,54,55,56,57,58,59,60,61,62,63,64,65,66,67,68,69,70,71,72,73,74,75,76,77,78,79,80,81,82,83,84,85,86,87,88,89,90,91] i51n38) (finE none [4] (Q51 L r)))) := by
  unfold F51_j2 at h;rcases tf y1270 with h1271 | h1271
  · rw [ite_t h1271] at h; refine Rn.t h1271 ?_;refine Rn.g ?_;refine Ro.t 1 ?_;refine Ro.d (mkE [(4,(V.bool false))] 92) ?_;refine Run.ret ?_;have h := Option.some.inj h; subst h;have hp := hp.del 0;exact ⟨(V.bool false),(by kernel_rfl),(by kernel_rfl),hp⟩
  · rw [ite_f h1271] at h; refine Rn.f h1271 ?_;refine Run.seq ?_;refine Rn.g ?_;refine Ro.t 1 ?_;rcases tf y1224.fop with h1298 | h1298
    · rw [ite_t h1298] at h; refine Ro.p (Eq.trans (hp.ld 0 (off := 1) (n := none) (v := (V.bool y1224.fop)) rfl (by kernel_rfl)) (bool_of h1298)) ?_;refine Ro.t 7 ?_;refine Ro.d (mkE [(2,(V.fp (E_Graph.e x0))),(0,(V.fp (E_Ins.e x1))),(1,(V.ptr b1226 0 0)),(32,(V.bool false))] 58) ?_;exact w51_j5 h hp
    · rw [ite_f h1298] at h; refine Ro.p (Eq.trans (hp.ld 0 (off := 1) (n := none) (v := (V.bool y1224.fop)) rfl (by kernel_rfl)) (bool_of h1298)) ?_;refine Ro.t 7 ?_;refine Ro.d (mkE [(2,(V.fp (E_Graph.e x0))),(0,(V.fp (E_Ins.e x1))),(1,(V.ptr b1226 0 0)),(32,(V.bool (x1.fOp != (0 : Int))))] 58) ?_;exact w51_j5 h hp
def F51 (x0 : T_Graph) (x1 : T_Ins) : Option Bool :=
  if (decide (x1.fKind < (1 : Int))) then
    some false
  else
    if (decide (x1.fKind > (10 : Int))) then
      some false
    else
      (idx G0 x1.fKind).bind fun y1224 =>
      if y1224.fdst then
        (F34 x1.fDst ((List.length x0.fVars : Nat) : Int)).bind fun y1300 =>
        F51_j2 x0 x1 y1224 ((!y1300))
      else
        if (x1.fDst != (0 : Int)) then
          F51_j2 x0 x1 y1224 ((x1.fDst != (0 : Int)))
        else
          F51_j2 x0 x1 y1224 (false)
theorem w51 {x0 : T_Graph} {x1 : T_Ins} {r : Bool} (h : F51 x0 x1 = some r) {H : Heap} {L : List Ob} (hp : HP H (L)) : Fn T 51 [(E_Graph.e x0),(E_Ins.e x1)] H (Q51 L r) := by
  refine Fn.enterE t51 (e0 := (mkE [(0,(E_Graph.e x0)),(0,(E_Ins.e x1))] 95)) (by kernel_rfl) ?_;show Run T (.clr [] i51n42) _ _ (finE none [4] (Q51 L r));refine Rn.k (mkE [(0,(E_Graph.e x0)),(0,(E_Ins.e x1))] 95) ?_;unfold F51 at h;refine Rn.g ?_;refine Ro.t 3 ?_;refine Ro.d (mkE [(2,(V.fp (E_Graph.e x0))),(0,(V.fp (E_Ins.e x1)))] 93) ?_;refine Run.seq ?_;refine Rn.g ?_;refine Ro.t 2 ?_;rcases tf (decide (x1.fKind < (1 : Int))) with h1222 | h1222
  · rw [ite_t h1222] at h; refine Ro.p (bool_of h1222) ?_;refine Ro.t 5 ?_;refine Ro.d (mkE [(2,(V.fp (E_Graph.e x0))),(0,(V.fp (E_Ins.e x1))),(9,(V.bool true))] 83) ?_;refine Run.condT (by kernel_rfl) ?_;refine Rn.g ?_;refine Ro.t 1 ?_;refine Ro.d (mkE [(4,(V.bool false))] 92) ?_;refine Run.ret ?_;have h := Option.some.inj h; subst h;exact ⟨(V.bool false),(by kernel_rfl),(by kernel_rfl),hp⟩
  · rw [ite_f h1222] at h; refine Ro.p (bool_of h1222) ?_;refine Ro.t 5 ?_;refine Ro.d (mkE [(2,(V.fp (E_Graph.e x0))),(0,(V.fp (E_Ins.e x1))),(9,(V.bool (decide (x1.fKind > (10 : Int)))))] 83) ?_;rcases tf (decide (x1.fKind > (10 : Int))) with h1223 | h1223
    · rw [ite_t h1223] at h; refine Rn.t h1223 ?_;refine Rn.g ?_;refine Ro.t 1 ?_;refine Ro.d (mkE [(4,(V.bool false))] 92) ?_;refine Run.ret ?_;have h := Option.some.inj h; subst h;exact ⟨(V.bool false),(by kernel_rfl),(by kernel_rfl),hp⟩
    · rw [ite_f h1223] at h; refine Rn.f h1223 ?_;refine Run.skip ?_;refine Rn.c (mkE [(2,(V.fp (E_Graph.e x0))),(0,(V.fp (E_Ins.e x1)))] 93) ?_;refine Rn.g ?_;refine Ro.t 2 ?_;obtain ⟨y1224,h1225,h⟩ := bind_some h;refine Ro.p (idxp_fp E_form (l := G0) .u8 (n := 11) (cs := [V.bool false,V.bool false,V.bool false,V.bool false,i6 0,V.bool true,V.bool false,V.bool false,V.bool false,i6 (-1),V.bool true,V.bool false,V.bool true,V.bool false,i6 0,V.bool true,V.bool false,V.bool false,V.bool false,i6 1,V.bool true,V.bool true,V.bool false,V.bool false,i6 (-1),V.bool true,V.bool false,V.bool false,V.bool false,i6 1,V.bool true,V.bool false,V.bool false,V.bool true,i6 1,V.bool false,V.bool false,V.bool false,V.bool true,i6 2,V.bool false,V.bool false,V.bool false,V.bool true,i6 0,V.bool true,V.bool false,V.bool false,V.bool true,i6 (-1),V.bool false,V.bool false,V.bool false,V.bool false,i6 1]) (by kernel_rfl) (by kernel_rfl) h1225) ?_;refine Ro.t 1 ?_;refine RunO.alloc hp (by kernel_rfl) ?_;intro b1226 H hp;have hp : HP H ((some (b1226,0),[(V.bool false),(V.bool false),(V.bool false),(V.bool false),(i6 (0 : Int))]) :: L) := hp;refine RunO.st hp (by kernel_rfl) 0 (off := 0) (v := (E_form.e y1224)) (cs' := [(V.bool y1224.fdst),(V.bool y1224.fop),(V.bool y1224.fbits),(V.bool y1224.fref),(i6 y1224.fargs)]) rfl (by kernel_rfl) (by kernel_rfl) (by kernel_rfl) ?_;intro H hp;refine Ro.d (mkE [(2,(V.fp (E_Graph.e x0))),(0,(V.fp (E_Ins.e x1))),(1,(V.ptr b1226 0 0))] 91) ?_;refine Run.seq ?_;refine Run.block ?_;refine Run.seq ?_;refine Rn.g ?_;refine Ro.t 1 ?_;rcases tf y1224.fdst with h1299 | h1299
      · rw [ite_t h1299] at h; refine Ro.p (Eq.trans (hp.ld 0 (off := 0) (n := none) (v := (V.bool y1224.fdst)) rfl (by kernel_rfl)) (bool_of h1299)) ?_;refine Ro.t 7 ?_;refine Ro.d (mkE [(2,(V.fp (E_Graph.e x0))),(0,(V.fp (E_Ins.e x1))),(1,(V.ptr b1226 0 0)),(12,(V.bool false))] 78) ?_;refine Run.condF (by kernel_rfl) ?_;refine Run.rgn ?_;refine Ro.t 1 ?_;refine Ro.p (Eq.trans (hp.ld 0 (off := 0) (n := none) (v := (V.bool y1224.fdst)) rfl (by kernel_rfl)) (bool_of h1299)) ?_;refine Ro.t 5 ?_;refine Ro.p (len_fz (EI .u8) x0.fVars) ?_;obtain ⟨y1300,h1301,h⟩ := bind_some h;refine RunO.c1 (by kernel_rfl) (by kernel_rfl) (c34 h1301 _) ?_;refine Ro.t 3 ?_;refine Ro.d (mkE [(2,(V.fp (E_Graph.e x0))),(0,(V.fp (E_Ins.e x1))),(1,(V.ptr b1226 0 0)),(12,(V.bool (!y1300)))] 78) ?_;exact w51_j2 h hp
      · rw [ite_f h1299] at h; refine Ro.p (Eq.trans (hp.ld 0 (off := 0) (n := none) (v := (V.bool y1224.fdst)) rfl (by kernel_rfl)) (bool_of h1299)) ?_;refine Ro.t 7 ?_;refine Ro.d (mkE [(2,(V.fp (E_Graph.e x0))),(0,(V.fp (E_Ins.e x1))),(1,(V.ptr b1226 0 0)),(12,(V.bool (x1.fDst != (0 : Int))))] 78) ?_;rcases tf (x1.fDst != (0 : Int)) with h1302 | h1302
        · rw [ite_t h1302] at h; refine Rn.t h1302 ?_;refine Run.skip ?_;refine Rn.c (mkE [(2,(V.fp (E_Graph.e x0))),(0,(V.fp (E_Ins.e x1))),(1,(V.ptr b1226 0 0)),(12,(V.bool (x1.fDst != (0 : Int))))] 78) ?_;exact w51_j2 h hp
        · rw [ite_f h1302] at h; refine Rn.f h1302 ?_;refine Run.rgn ?_;refine Ro.t 1 ?_;refine Ro.p (Eq.trans (hp.ld 0 (off := 0) (n := none) (v := (V.bool y1224.fdst)) rfl (by kernel_rfl)) (bool_of h1299)) ?_;refine Ro.t 10 ?_;refine Ro.d (mkE [(2,(V.fp (E_Graph.e x0))),(0,(V.fp (E_Ins.e x1))),(1,(V.ptr b1226 0 0)),(12,(V.bool false))] 78) ?_;exact w51_j2 h hp
theorem c51 {x0 : T_Graph} {x1 : T_Ins} {r : Bool} (h : F51 x0 x1 = some r) (s : Bool) : Fn T 51 [(E_Graph.e x0),(E_Ins.e x1)] [] (fun v hh => deep s hh deepN v = some (EB.e r)) := by
  refine (w51 h HP.nil).mono ?_;rintro v hh ⟨rfl,hp⟩;exact EB.hd s hh 38 _ (.inr rfl)
abbrev Q52 (L : List Ob) (r : (List Int)) : V → Heap → Prop := fun v h => ∃ (o0 : Option (Nat × Nat)) (q0 : List V),v = slv (EI .u8).z (EI .u8).ag (List.length r) o0 ∧ HP h ((o0,List.flatMap (EI .u8).c r ++ q0) :: L)
abbrev RR52 (L : List Ob) (r : (List Int)) : List V → Heap → Prop := fun e h => endR none [4] (Q52 L r) e h
abbrev I52_1 (x0 : T_Graph) (x1 : (List Int)) (L : List Ob) : ((List Int) × Int) → List V → Heap → Prop := fun s e h => ∃ o1368 : Option (Nat × Nat),∃ q1369 : List V,e = (mkE [(2,(V.fp (E_Graph.e x0))),(2,(slv (EI .u8).z (EI .u8).ag (List.length s.1) o1368)),(5,(Zl (EI .i64) x1)),(0,(i6 (ln x1))),(0,(i6 s.2))] 14) ∧ HP h ((o1368,List.flatMap (EI .u8).c s.1 ++ q1369) :: L)
abbrev J52_1 (x0 : T_Graph) (x1 : (List Int)) (L : List Ob) : ((List Int)) → Nat → List V → Heap → Prop := fun a i e h => i = 0 ∧ ∃ o1387 : Option (Nat × Nat),∃ q1388 : List V,clrEnv [1,2,6,7,11,12,13,14,15,16,17,18,19,20,21,22,23,24,25,26] e = (mkE [(5,(slv (EI .u8).z (EI .u8).ag (List.length a) o1387))] 22) ∧ HP h ((o1387,List.flatMap (EI .u8).c a ++ q1388) :: L)
def F52_1_b (x0 : T_Graph) (x1 : (List Int)) (l1367 : (List Int)) (y1370 : Int) : Option (Stp ((List Int) × Int) (List Int) ((List Int))) :=
  if (decide (y1370 < ((List.length x1 : Nat) : Int))) then
    (idx x1 y1370).bind fun y1391 =>
    (idx x0.fVars y1391).bind fun y1393 =>
    (idx l1367 y1370).bind fun y1395 =>
    (upd l1367 y1370 y1393).bind fun y1401 =>
    some (.next (y1401,(IntKind.i64.wrap (y1370 + (1 : Int)))))
  else
    some (.go (l1367))
theorem w52_1_b {x0 : T_Graph} {x1 : (List Int)} {l1367 : (List Int)} {y1370 : Int} {t : (Stp ((List Int) × Int) (List Int) ((List Int)))} (h : F52_1_b x0 x1 l1367 y1370 = some t) {o1368 : Option (Nat × Nat)} {q1369 : List V} {H : Heap} {L : List Ob} (hp : HP H ((o1368,List.flatMap (EI .u8).c l1367 ++ q1369) :: L)) :
    Run T i52n12 (mkE [(2,(V.fp (E_Graph.e x0))),(2,(slv (EI .u8).z (EI .u8).ag (List.length l1367) o1368)),(5,(Zl (EI .i64) x1)),(0,(i6 (ln x1))),(0,(i6 y1370))] 14) H (stp [6,7,14,15,16,17,18,19,20,21,22,23,24,25,26] (I52_1 x0 x1 L) (RR52 L) (J52_1 x0 x1 L) t) := by
  unfold F52_1_b at h;refine Rn.g ?_;refine Ro.t 1 ?_;refine Ro.d (mkE [(2,(V.fp (E_Graph.e x0))),(2,(slv (EI .u8).z (EI .u8).ag (List.length l1367) o1368)),(5,(Zl (EI .i64) x1)),(0,(i6 (ln x1))),(0,(i6 y1370)),(0,(V.bool (decide (y1370 < (ln x1)))))] 13) ?_;refine Run.seq ?_;rcases tf (decide (y1370 < (ln x1))) with h1390 | h1390
  · rw [ite_t h1390] at h; refine Rn.t h1390 ?_;refine Run.skip ?_;refine Rn.c (mkE [(2,(V.fp (E_Graph.e x0))),(2,(slv (EI .u8).z (EI .u8).ag (List.length l1367) o1368)),(5,(Zl (EI .i64) x1)),(0,(i6 (ln x1))),(0,(i6 y1370))] 14) ?_;refine Run.seq ?_;refine Run.block ?_;refine Rn.g ?_;refine Ro.t 1 ?_;obtain ⟨y1391,h1392,h⟩ := bind_some h;refine Ro.p (idx_fz (EI .i64) .i64 h1392) ?_;refine Ro.t 3 ?_;refine Ro.d (mkE [(2,(V.fp (E_Graph.e x0))),(2,(slv (EI .u8).z (EI .u8).ag (List.length l1367) o1368)),(0,(i6 y1370)),(0,(i6 y1391)),(3,(Zl (EI .i64) x1)),(0,(i6 (ln x1))),(0,(i6 y1370))] 14) ?_;refine Run.rgn ?_;refine Ro.t 5 ?_;obtain ⟨y1393,h1394,h⟩ := bind_some h;refine Ro.p (idx_fz (EI .u8) .i64 h1394) ?_;refine Ro.t 1 ?_;obtain ⟨y1395,h1396,h⟩ := bind_some h;obtain ⟨b1397,g1398,h1399,h1400⟩ := own_idx (EI .u8) hp 0 rfl h1396;subst h1399;refine Ro.p (h1400 .i64) ?_;obtain ⟨y1401,h1402,h⟩ := bind_some h;refine RunO.st hp (by kernel_rfl) 0 rfl (by kernel_rfl) (by kernel_rfl) (own_st (EI .u8) (a := y1393) h1402) ?_;intro H hp;have h1403 := upd_len h1402; rw [← h1403];refine RunO.nil ?_;refine Run.clrE (ts := [6,7,15,16,17,18,19,20,21,22,23,24,25]) (b := (.rgn i52r9)) (Q := (stp [6,7,14,15,16,17,18,19,20,21,22,23,24,25,26] (I52_1 x0 x1 L) (RR52 L) (J52_1 x0 x1 L) t)) (e' := (mkE [(2,(V.fp (E_Graph.e x0))),(2,(slv (EI .u8).z (EI .u8).ag (List.length y1401) (some (b1397,g1398)))),(5,(Zl (EI .i64) x1)),(0,(i6 (ln x1))),(0,(i6 y1370))] 14)) (by kernel_rfl) ?_;refine Run.rgn ?_;refine Ro.t 2 ?_;refine RunO.nil ?_;have h := Option.some.inj h; subst h;show I52_1 x0 x1 L _ _ _;exact ⟨(some (b1397,g1398)),q1369,(by kernel_rfl),hp⟩
  · rw [ite_f h1390] at h; refine Rn.f h1390 ?_;refine Run.exit ?_;have h := Option.some.inj h; subst h;show J52_1 x0 x1 L _ _ _ _;exact ⟨rfl,o1368,q1369,(by kernel_rfl),hp⟩
def F52 (x0 : T_Graph) (x1 : (List Int)) : Option (List Int) :=
  (made 1 ((0 : Int) : Int) ((List.length x1 : Nat) : Int)).bind fun y1349 =>
  (iter (fun s : ((List Int) × Int) => F52_1_b x0 x1 s.1 s.2) FUEL (y1349,(0 : Int))).bind fun o => match o with
  | .ret r => some r
  | .go (l1386) =>
    some l1386
theorem w52 {x0 : T_Graph} {x1 : (List Int)} {r : (List Int)} (h : F52 x0 x1 = some r) {H : Heap} {L : List Ob} (hp : HP H (L)) : Fn T 52 [(E_Graph.e x0),(Zl (EI .i64) x1)] H (Q52 L r) := by
  refine Fn.enterE t52 (e0 := (mkE [(0,(E_Graph.e x0)),(0,(Zl (EI .i64) x1))] 26)) (by kernel_rfl) ?_;show Run T (.clr [] i52n20) _ _ (finE none [4] (Q52 L r));refine Rn.k (mkE [(0,(E_Graph.e x0)),(0,(Zl (EI .i64) x1))] 26) ?_;unfold F52 at h;refine Rn.g ?_;refine Ro.t 2 ?_;refine Ro.d (mkE [(1,(Zl (EI .i64) x1)),(0,(V.fp (E_Graph.e x0)))] 25) ?_;refine Rn.g ?_;refine Ro.t 1 ?_;refine Ro.p (len_fz (EI .i64) x1) ?_;obtain ⟨y1349,h1350,h⟩ := bind_some h;refine RunO.mks1 (EI .u8) hp (by kernel_rfl) (by kernel_rfl) (by kernel_rfl) (by kernel_rfl) (by kernel_rfl) (by kernel_rfl) h1350 ?_;intro b1351 H hp;refine Ro.t 1 ?_;refine Ro.d (mkE [(1,(Zl (EI .i64) x1)),(0,(V.fp (E_Graph.e x0))),(2,(slv (EI .u8).z (EI .u8).ag (List.length y1349) (some (b1351,0))))] 22) ?_;refine Run.seq ?_;refine Rn.g ?_;refine Ro.t 1 ?_;refine Ro.p (len_fz (EI .i64) x1) ?_;refine Ro.t 1 ?_;refine Ro.d (mkE [(2,(V.fp (E_Graph.e x0))),(2,(slv (EI .u8).z (EI .u8).ag (List.length y1349) (some (b1351,0)))),(5,(Zl (EI .i64) x1)),(0,(i6 (ln x1))),(0,(i6 (0 : Int)))] 14) ?_;refine Run.block ?_;obtain ⟨o,h1404,h⟩ := bind_some h;refine (Run.iter (I := I52_1 x0 x1 L) (RR := RR52 L) (J := J52_1 x0 x1 L) (fun s e h' t hI hf => ?_) FUEL h1404 (by exact ⟨(some (b1351,0)),[],(by kernel_rfl),hp⟩)).mono ?_
  · obtain ⟨_,_,rfl,hp⟩ := hI; exact w52_1_b hf hp
  · rintro X e' H hq;cases o with
    | ret r => cases X <;> first | exact hq.elim | (cases h; exact hq)
    | go l1386 =>
      cases X with | nrm => exact hq.elim | ret => exact hq.elim | ext i => ?_;obtain ⟨rfl,o1387,q1388,he,hp⟩ := hq
      dsimp only at h
      refine Run.clrE (ts := [1,2,6,7,11,12,13,14,15,16,17,18,19,20,21,22,23,24,25,26]) (b := i52n17) (Q := (finE none [4] (Q52 L r))) he ?_;refine Rn.g ?_;refine Ro.t 2 ?_;refine Ro.d (mkE [(4,(slv (EI .u8).z (EI .u8).ag (List.length l1386) o1387))] 23) ?_;refine Run.ret ?_;have h := Option.some.inj h; subst h;exact ⟨(slv (EI .u8).z (EI .u8).ag (List.length l1386) o1387),(by kernel_rfl),_,_,(by kernel_rfl),hp⟩
theorem c52 {x0 : T_Graph} {x1 : (List Int)} {r : (List Int)} (h : F52 x0 x1 = some r) (s : Bool) : Fn T 52 [(E_Graph.e x0),(Zl (EI .i64) x1)] [] (fun v hh => deep s hh deepN v = some ((EL (EI .u8)).e r)) := by
  refine (w52 h HP.nil).mono ?_;rintro v hh ⟨o0,q0,rfl,hp⟩;exact own_deep (EI .u8) hp 0 rfl s (.inr rfl) 36
abbrev Q54 (b1430 : Nat) (x1 : Int) (L : List Ob) (r : Bool) : V → Heap → Prop := fun v h => v = EB.e r ∧ HP h ((some (b1430,0),[(V.int .u8 x1)]) :: L)
abbrev RR54 (b1430 : Nat) (x1 : Int) (L : List Ob) (r : Bool) : List V → Heap → Prop := fun e h => endR none [3] (Q54 b1430 x1 L r) e h
def F54 (x0 : Int) (x1 : Int) : Option Bool :=
  some (x0 != x1)
theorem w54 {x0 : Int} {x1 : Int} {r : Bool} (h : F54 x0 x1 = some r) {b1430 : Nat} {H : Heap} {L : List Ob} (hp : HP H ((some (b1430,0),[(V.int .u8 x1)]) :: L)) : Fn T 54 [(V.int .u8 x0),(V.ptr b1430 0 0)] H (Q54 b1430 x1 L r) := by
  refine Fn.enterE t54 (e0 := (mkE [(0,(V.int .u8 x0)),(0,(V.ptr b1430 0 0))] 5)) (by kernel_rfl) ?_;show Run T (.clr [] i54n3) _ _ (finE none [3] (Q54 b1430 x1 L r));refine Rn.k (mkE [(0,(V.int .u8 x0)),(0,(V.ptr b1430 0 0))] 5) ?_;unfold F54 at h;refine Rn.g ?_;refine Ro.t 1 ?_;refine Ro.d (mkE [(0,(V.int .u8 x0)),(0,(V.ptr b1430 0 0))] 5) ?_;refine Rn.g ?_;refine Ro.t 1 ?_;refine Ro.p (hp.ld 0 (off := 0) (n := none) (v := (V.int .u8 x1)) rfl (by kernel_rfl)) ?_;refine Ro.t 2 ?_;refine Ro.d (mkE [(3,(V.bool (x0 != x1)))] 3) ?_;refine Run.ret ?_;have h := Option.some.inj h; subst h;exact ⟨(V.bool (x0 != x1)),(by kernel_rfl),(by kernel_rfl),hp⟩
abbrev Q73 (b1425 : Nat) (x1 : Int) (L : List Ob) (r : Int) : V → Heap → Prop := fun v h => v = (EI .i64).e r ∧ HP h ((some (b1425,0),[(V.int .u8 x1)]) :: L)
abbrev RR73 (b1425 : Nat) (x1 : Int) (L : List Ob) (r : Int) : List V → Heap → Prop := fun e h => endR none [4] (Q73 b1425 x1 L r) e h
abbrev I73_1 (x0 : (List Int)) (x1 : Int) (b1425 : Nat) (L : List Ob) : (Int) → List V → Heap → Prop := fun s e h => e = (mkE [(0,(Zl (EI .u8) x0)),(0,(V.fn 54 [(V.ptr b1425 0 0)])),(5,(i6 (ln x0))),(0,(i6 s))] 10) ∧ HP h ((some (b1425,0),[(V.int .u8 x1)]) :: L)
abbrev J73_1 (x0 : (List Int)) (x1 : Int) (b1425 : Nat) (L : List Ob) : Unit → Nat → List V → Heap → Prop := fun a i e h => i = 0 ∧ clrEnv [0,1,4,5,6,7,8,9,10,11,12,13,14,15,16,17,18] e = (mkE [] 19) ∧ HP h ((some (b1425,0),[(V.int .u8 x1)]) :: L)
def F73_1_b (x0 : (List Int)) (x1 : Int) (y1464 : Int) : Option (Stp (Int) Int Unit) :=
  if (decide (y1464 < ((List.length x0 : Nat) : Int))) then
    (idx x0 y1464).bind fun y1484 =>
    (F54 y1484 x1).bind fun y1486 =>
    if y1486 then
      some (.ret y1464)
    else
      some (.next ((IntKind.i64.wrap (y1464 + (1 : Int)))))
  else
    some (.go ())
theorem w73_1_b {x0 : (List Int)} {x1 : Int} {y1464 : Int} {t : (Stp (Int) Int Unit)} (h : F73_1_b x0 x1 y1464 = some t) {b1425 : Nat} {H : Heap} {L : List Ob} (hp : HP H ((some (b1425,0),[(V.int .u8 x1)]) :: L)) :
    Run T i73n15 (mkE [(0,(Zl (EI .u8) x0)),(0,(V.fn 54 [(V.ptr b1425 0 0)])),(5,(i6 (ln x0))),(0,(i6 y1464))] 10) H (stp [4,5,9,10,11,12,13,14,15,16,17,18] (I73_1 x0 x1 b1425 L) (RR73 b1425 x1 L) (J73_1 x0 x1 b1425 L) t) := by
  unfold F73_1_b at h;refine Rn.g ?_;refine Ro.t 1 ?_;refine Ro.d (mkE [(0,(Zl (EI .u8) x0)),(0,(V.fn 54 [(V.ptr b1425 0 0)])),(5,(i6 (ln x0))),(0,(i6 y1464)),(0,(V.bool (decide (y1464 < (ln x0)))))] 9) ?_;refine Run.seq ?_;rcases tf (decide (y1464 < (ln x0))) with h1478 | h1478
  · rw [ite_t h1478] at h; refine Rn.t h1478 ?_;refine Run.skip ?_;refine Rn.c (mkE [(0,(Zl (EI .u8) x0)),(0,(V.fn 54 [(V.ptr b1425 0 0)])),(5,(i6 (ln x0))),(0,(i6 y1464))] 10) ?_;refine Run.seq ?_;refine Run.block ?_;refine Rn.g ?_;refine Ro.t 2 ?_;refine Ro.d (mkE [(0,(Zl (EI .u8) x0)),(0,(V.fn 54 [(V.ptr b1425 0 0)])),(3,(i6 y1464)),(1,(i6 (ln x0))),(0,(i6 y1464))] 10) ?_;refine Rn.g ?_;refine Ro.t 3 ?_;obtain ⟨y1484,h1485,h⟩ := bind_some h;refine Ro.p (idx_fz (EI .u8) .i64 h1485) ?_;refine Ro.t 1 ?_;obtain ⟨y1486,h1487,h⟩ := bind_some h;have hp : HP _ ((some (b1425,0),[(V.int .u8 x1)]) :: L) := hp;refine RunO.h1 (n := 54) (caps := [(V.ptr b1425 0 0)]) (us := [(V.int .u8 y1484),(V.ptr b1425 0 0)]) (by kernel_rfl) (by kernel_rfl) (by kernel_rfl) ((w54 h1487 hp).mono ?_);rintro _ H ⟨rfl,hp⟩;have hp : HP H ((some (b1425,0),[(V.int .u8 x1)]) :: L) := hp;refine Ro.d (mkE [(0,(Zl (EI .u8) x0)),(0,(V.fn 54 [(V.ptr b1425 0 0)])),(3,(i6 y1464)),(1,(i6 (ln x0))),(0,(i6 y1464)),(7,(V.bool y1486))] 2) ?_;rcases tf y1486 with h1488 | h1488
    · rw [ite_t h1488] at h; refine Rn.t h1488 ?_;refine Rn.g ?_;refine Ro.t 2 ?_;refine Ro.d (mkE [(4,(i6 y1464))] 14) ?_;refine Run.ret ?_;have h := Option.some.inj h; subst h;show RR73 b1425 x1 L _ _ _;exact ⟨(i6 y1464),(by kernel_rfl),(by kernel_rfl),hp⟩
    · rw [ite_f h1488] at h; refine Rn.f h1488 ?_;refine Run.skip ?_;refine Run.clrE (ts := [4,5,10,11,12,13,14,15,16,17]) (b := (.rgn i73r12)) (Q := (stp [4,5,9,10,11,12,13,14,15,16,17,18] (I73_1 x0 x1 b1425 L) (RR73 b1425 x1 L) (J73_1 x0 x1 b1425 L) t)) (e' := (mkE [(0,(Zl (EI .u8) x0)),(0,(V.fn 54 [(V.ptr b1425 0 0)])),(5,(i6 (ln x0))),(0,(i6 y1464))] 10)) (by kernel_rfl) ?_;refine Run.rgn ?_;refine Ro.t 2 ?_;refine RunO.nil ?_;have h := Option.some.inj h; subst h;show I73_1 x0 x1 b1425 L _ _ _;exact ⟨(by kernel_rfl),hp⟩
  · rw [ite_f h1478] at h; refine Rn.f h1478 ?_;refine Run.exit ?_;have h := Option.some.inj h; subst h;show J73_1 x0 x1 b1425 L () _ _ _;exact ⟨rfl,(by kernel_rfl),hp⟩
def F73 (x0 : (List Int)) (x1 : Int) : Option Int :=
  (iter (fun s : (Int) => F73_1_b x0 x1 s) FUEL ((0 : Int))).bind fun o => match o with
  | .ret r => some r
  | .go () =>
    some (-1 : Int)
theorem w73 {x0 : (List Int)} {x1 : Int} {r : Int} (h : F73 x0 x1 = some r) {b1425 : Nat} {H : Heap} {L : List Ob} (hp : HP H ((some (b1425,0),[(V.int .u8 x1)]) :: L)) : Fn T 73 [(Zl (EI .u8) x0),(V.fn 54 [(V.ptr b1425 0 0)])] H (Q73 b1425 x1 L r) := by
  refine Fn.enterE t73 (e0 := (mkE [(0,(Zl (EI .u8) x0)),(0,(V.fn 54 [(V.ptr b1425 0 0)]))] 17)) (by kernel_rfl) ?_;show Run T (.clr [] i73n22) _ _ (finE none [4] (Q73 b1425 x1 L r));refine Rn.k (mkE [(0,(Zl (EI .u8) x0)),(0,(V.fn 54 [(V.ptr b1425 0 0)]))] 17) ?_;unfold F73 at h;refine Rn.g ?_;refine Ro.t 1 ?_;refine Ro.d (mkE [(0,(Zl (EI .u8) x0)),(0,(V.fn 54 [(V.ptr b1425 0 0)]))] 17) ?_;refine Run.seq ?_;refine Rn.g ?_;refine Ro.t 1 ?_;refine Ro.p (len_fz (EI .u8) x0) ?_;refine Ro.t 1 ?_;refine Ro.d (mkE [(0,(Zl (EI .u8) x0)),(0,(V.fn 54 [(V.ptr b1425 0 0)])),(5,(i6 (ln x0))),(0,(i6 (0 : Int)))] 10) ?_;refine Run.block ?_;obtain ⟨o,h1489,h⟩ := bind_some h;refine (Run.iter (I := I73_1 x0 x1 b1425 L) (RR := RR73 b1425 x1 L) (J := J73_1 x0 x1 b1425 L) (fun s e h' t hI hf => ?_) FUEL h1489 (by exact ⟨(by kernel_rfl),hp⟩)).mono ?_
  · obtain ⟨rfl,hp⟩ := hI; exact w73_1_b hf hp
  · rintro X e' H hq;cases o with
    | ret r => cases X <;> first | exact hq.elim | (cases h; exact hq)
    | go a =>
      cases X with | nrm => exact hq.elim | ret => exact hq.elim | ext i => ?_;obtain ⟨rfl,he,hp⟩ := hq
      dsimp only at h
      refine Run.clrE (ts := [0,1,4,5,6,7,8,9,10,11,12,13,14,15,16,17,18]) (b := i73n20) (Q := (finE none [4] (Q73 b1425 x1 L r))) he ?_;refine Rn.g ?_;refine Ro.t 1 ?_;refine Ro.d (mkE [(4,(i6 (-1 : Int)))] 14) ?_;refine Run.ret ?_;have h := Option.some.inj h; subst h;exact ⟨(i6 (-1 : Int)),(by kernel_rfl),(by kernel_rfl),hp⟩
abbrev Q53 (b1424 : Nat) (x1 : Int) (L : List Ob) (r : Bool) : V → Heap → Prop := fun v h => v = EB.e r ∧ HP h ((some (b1424,0),[(V.int .u8 x1)]) :: L)
abbrev RR53 (b1424 : Nat) (x1 : Int) (L : List Ob) (r : Bool) : List V → Heap → Prop := fun e h => endR none [4] (Q53 b1424 x1 L r) e h
def F53 (x0 : (List Int)) (x1 : Int) : Option Bool :=
  (F73 x0 x1).bind fun y1492 =>
  some (decide (y1492 ≥ (0 : Int)))
theorem w53 {x0 : (List Int)} {x1 : Int} {r : Bool} (h : F53 x0 x1 = some r) {b1424 : Nat} {H : Heap} {L : List Ob} (hp : HP H ((some (b1424,0),[(V.int .u8 x1)]) :: L)) : Fn T 53 [(Zl (EI .u8) x0),(V.fn 54 [(V.ptr b1424 0 0)])] H (Q53 b1424 x1 L r) := by
  refine Fn.enterE t53 (e0 := (mkE [(0,(Zl (EI .u8) x0)),(0,(V.fn 54 [(V.ptr b1424 0 0)]))] 7)) (by kernel_rfl) ?_;show Run T (.clr [] i53n3) _ _ (finE none [4] (Q53 b1424 x1 L r));refine Rn.k (mkE [(0,(Zl (EI .u8) x0)),(0,(V.fn 54 [(V.ptr b1424 0 0)]))] 7) ?_;unfold F53 at h;refine Rn.g ?_;refine Ro.t 1 ?_;refine Ro.d (mkE [(0,(Zl (EI .u8) x0)),(0,(V.fn 54 [(V.ptr b1424 0 0)]))] 7) ?_;refine Rn.g ?_;refine Ro.t 2 ?_;obtain ⟨y1492,h1493,h⟩ := bind_some h;have hp : HP _ ((some (b1424,0),[(V.int .u8 x1)]) :: L) := hp;refine RunO.h1 (n := 73) (caps := []) (us := [(Zl (EI .u8) x0),(V.fn 54 [(V.ptr b1424 0 0)])]) (by kernel_rfl) (by kernel_rfl) (by kernel_rfl) ((w73 h1493 hp).mono ?_);rintro _ H ⟨rfl,hp⟩;have hp : HP H ((some (b1424,0),[(V.int .u8 x1)]) :: L) := hp;refine Ro.t 2 ?_;refine Ro.d (mkE [(4,(V.bool (decide (y1492 ≥ (0 : Int)))))] 4) ?_;refine Run.ret ?_;have h := Option.some.inj h; subst h;exact ⟨(V.bool (decide (y1492 ≥ (0 : Int)))),(by kernel_rfl),(by kernel_rfl),hp⟩
abbrev Q74 (L : List Ob) (r : Int) : V → Heap → Prop := fun v h => v = (EI .u64).e r ∧ HP h (L)
abbrev RR74 (L : List Ob) (r : Int) : List V → Heap → Prop := fun e h => endR none [4] (Q74 L r) e h
def F74_j1 (x1 : Int) : Option Int :=
  some x1
theorem w74_j1 {x1 : Int} {r : Int} (h : F74_j1 x1 = some r) {H : Heap} {L : List Ob} (hp : HP H (L)) :
    Run T i74n49 (mkE [(1,(V.int .u64 x1))] 30) H (blk 0 (thn T (.clr [0,1,4,5,6,7,8,9,10,11,12,13,14,15,16,17,18,19,20,21,22,23,24,25,26,27,28,29,30,31] i74n54) (finE none [4] (Q74 L r)))) := by
  unfold F74_j1 at h;refine Run.seq ?_;refine Rn.g ?_;refine Ro.t 2 ?_;refine Ro.d (mkE [(4,(V.int .u64 x1))] 27) ?_;refine Run.ret ?_;have h := Option.some.inj h; subst h;exact ⟨(V.int .u64 x1),(by kernel_rfl),(by kernel_rfl),hp⟩
def F74 (x0 : Int) (x1 : Int) : Option Int :=
  if (x0 == (1 : Int)) then
    some (IntKind.u64.wrap ((BitVec.ofInt IntKind.u64.bits x1 &&& BitVec.ofInt IntKind.u64.bits (1 : Int)).toNat : Int))
  else
    if (x0 == (2 : Int)) then
      some (IntKind.u64.wrap (IntKind.u8.wrap x1))
    else
      if (x0 == (3 : Int)) then
        some (IntKind.u64.wrap (IntKind.i64.wrap (IntKind.i32.wrap x1)))
      else
        if (x0 == (5 : Int)) then
          if (flO (some (Int.toNat x1)) (some (Int.toNat x1)) != some Ordering.eq) then
            some (9221120237041090560 : Int)
          else
            F74_j1 x1
        else
          if (x0 == (4 : Int)) then
            F74_j1 x1
          else
            some (0 : Int)
theorem w74 {x0 : Int} {x1 : Int} {r : Int} (h : F74 x0 x1 = some r) {H : Heap} {L : List Ob} (hp : HP H (L)) : Fn T 74 [(V.int .u8 x0),(V.int .u64 x1)] H (Q74 L r) := by
  refine Fn.enterE t74 (e0 := (mkE [(0,(V.int .u8 x0)),(0,(V.int .u64 x1))] 30)) (by kernel_rfl) ?_;show Run T (.clr [] i74n56) _ _ (finE none [4] (Q74 L r));refine Rn.k (mkE [(0,(V.int .u8 x0)),(0,(V.int .u64 x1))] 30) ?_;unfold F74 at h;refine Rn.g ?_;refine Ro.t 1 ?_;refine Ro.d (mkE [(0,(V.int .u8 x0)),(0,(V.int .u64 x1))] 30) ?_;refine Run.seq ?_;refine Rn.g ?_;refine Ro.t 1 ?_;refine Ro.d (mkE [(1,(V.int .u64 x1)),(4,(V.int .u8 x0))] 25) ?_;refine Run.block ?_;refine Run.seq ?_;refine Run.block ?_;refine Run.seq ?_;refine Run.block ?_;refine Run.seq ?_;refine Run.block ?_;refine Run.seq ?_;refine Run.block ?_;refine Run.seq ?_;refine Run.block ?_;refine Run.seq ?_;refine Run.seq ?_;refine Rn.g ?_;refine Ro.t 2 ?_;refine Ro.d (mkE [(1,(V.int .u64 x1)),(4,(V.int .u8 x0)),(0,(V.bool (x0 == (1 : Int))))] 24) ?_;rcases tf (x0 == (1 : Int)) with h2650 | h2650
  · rw [ite_t h2650] at h; refine Rn.t h2650 ?_;refine Run.exit ?_;refine Rn.c (mkE [(1,(V.int .u64 x1))] 30) ?_;refine Run.seq ?_;refine Rn.g ?_;refine Ro.t 3 ?_;refine Ro.d (mkE [(4,(V.int .u64 (IntKind.u64.wrap ((BitVec.ofInt IntKind.u64.bits x1 &&& BitVec.ofInt IntKind.u64.bits (1 : Int)).toNat : Int))))] 27) ?_;refine Run.ret ?_;have h := Option.some.inj h; subst h;exact ⟨(V.int .u64 (IntKind.u64.wrap ((BitVec.ofInt IntKind.u64.bits x1 &&& BitVec.ofInt IntKind.u64.bits (1 : Int)).toNat : Int))),(by kernel_rfl),(by kernel_rfl),hp⟩
  · rw [ite_f h2650] at h; refine Rn.f h2650 ?_;refine Run.skip ?_;refine Rn.c (mkE [(1,(V.int .u64 x1)),(4,(V.int .u8 x0))] 25) ?_;refine Run.seq ?_;refine Rn.g ?_;refine Ro.t 2 ?_;refine Ro.d (mkE [(1,(V.int .u64 x1)),(4,(V.int .u8 x0)),(2,(V.bool (x0 == (2 : Int))))] 22) ?_;rcases tf (x0 == (2 : Int)) with h2652 | h2652
    · rw [ite_t h2652] at h; refine Rn.t h2652 ?_;refine Run.exit ?_;refine Rn.c (mkE [(1,(V.int .u64 x1))] 30) ?_;refine Run.seq ?_;refine Rn.g ?_;refine Ro.t 4 ?_;refine Ro.d (mkE [(4,(V.int .u64 (IntKind.u64.wrap (IntKind.u8.wrap x1))))] 27) ?_;refine Run.ret ?_;have h := Option.some.inj h; subst h;exact ⟨(V.int .u64 (IntKind.u64.wrap (IntKind.u8.wrap x1))),(by kernel_rfl),(by kernel_rfl),hp⟩
    · rw [ite_f h2652] at h; refine Rn.f h2652 ?_;refine Run.skip ?_;refine Rn.c (mkE [(1,(V.int .u64 x1)),(4,(V.int .u8 x0))] 25) ?_;refine Run.seq ?_;refine Rn.g ?_;refine Ro.t 2 ?_;refine Ro.d (mkE [(1,(V.int .u64 x1)),(4,(V.int .u8 x0)),(4,(V.bool (x0 == (3 : Int))))] 20) ?_;rcases tf (x0 == (3 : Int)) with h2654 | h2654
      · rw [ite_t h2654] at h; refine Rn.t h2654 ?_;refine Run.exit ?_;refine Rn.c (mkE [(1,(V.int .u64 x1))] 30) ?_;refine Run.seq ?_;refine Rn.g ?_;refine Ro.t 5 ?_;refine Ro.d (mkE [(4,(V.int .u64 (IntKind.u64.wrap (IntKind.i64.wrap (IntKind.i32.wrap x1)))))] 27) ?_;refine Run.ret ?_;have h := Option.some.inj h; subst h;exact ⟨(V.int .u64 (IntKind.u64.wrap (IntKind.i64.wrap (IntKind.i32.wrap x1)))),(by kernel_rfl),(by kernel_rfl),hp⟩
      · rw [ite_f h2654] at h; refine Rn.f h2654 ?_;refine Run.skip ?_;refine Rn.c (mkE [(1,(V.int .u64 x1)),(4,(V.int .u8 x0))] 25) ?_;refine Run.seq ?_;refine Rn.g ?_;refine Ro.t 2 ?_;refine Ro.d (mkE [(1,(V.int .u64 x1)),(4,(V.int .u8 x0)),(6,(V.bool (x0 == (5 : Int))))] 18) ?_;rcases tf (x0 == (5 : Int)) with h2656 | h2656
        · rw [ite_t h2656] at h; refine Rn.t h2656 ?_;refine Run.exit ?_;refine Rn.c (mkE [(1,(V.int .u64 x1))] 30) ?_;refine Rn.g ?_;refine Ro.t 3 ?_;refine Ro.d (mkE [(1,(V.int .u64 x1)),(3,(V.fl (some (Int.toNat x1))))] 26) ?_;refine Rn.g ?_;refine Ro.t 3 ?_;refine Ro.d (mkE [(1,(V.int .u64 x1)),(28,(V.bool (flO (some (Int.toNat x1)) (some (Int.toNat x1)) != some Ordering.eq)))] 1) ?_;rcases tf (flO (some (Int.toNat x1)) (some (Int.toNat x1)) != some Ordering.eq) with h2657 | h2657
          · rw [ite_t h2657] at h; refine Rn.t h2657 ?_;refine Rn.g ?_;refine Ro.t 1 ?_;refine Ro.d (mkE [(4,(V.int .u64 (9221120237041090560 : Int)))] 27) ?_;refine Run.ret ?_;have h := Option.some.inj h; subst h;exact ⟨(V.int .u64 (9221120237041090560 : Int)),(by kernel_rfl),(by kernel_rfl),hp⟩
          · rw [ite_f h2657] at h; refine Rn.f h2657 ?_;refine Run.skip ?_;refine Rn.c (mkE [(1,(V.int .u64 x1))] 30) ?_;exact w74_j1 h hp
        · rw [ite_f h2656] at h; refine Rn.f h2656 ?_;refine Run.skip ?_;refine Rn.c (mkE [(1,(V.int .u64 x1)),(4,(V.int .u8 x0))] 25) ?_;refine Rn.g ?_;refine Ro.t 2 ?_;refine Ro.d (mkE [(1,(V.int .u64 x1)),(13,(V.bool (x0 == (4 : Int))))] 16) ?_;rcases tf (x0 == (4 : Int)) with h2658 | h2658
          · rw [ite_t h2658] at h; refine Rn.t h2658 ?_;refine Run.exit ?_;refine Rn.c (mkE [(1,(V.int .u64 x1))] 30) ?_;exact w74_j1 h hp
          · rw [ite_f h2658] at h; refine Rn.f h2658 ?_;refine Run.skip ?_;refine Run.clrE (ts := [1,6,7,8,9,10,11,12,13,14,15,16]) (b := (.exit 0)) (Q := (blk 1 (thn T (.clr [6,7,8,9,10,11,12,13,14,15,16] i74n25) (blk 2 (thn T (.clr [4,6,7,8,9,10,11,12,13,14,15,16,17,18] i74n30) (blk 3 (thn T (.clr [4,6,7,8,9,10,11,12,13,14,15,16,17,18,19,20,21] i74n35) (blk 4 (thn T (.clr [4,6,7,8,9,10,11,12,13,14,15,16,17,18,19,20,21,22,23,24,25] i74n44) (blk 5 (thn T (.clr [4,5,6,7,8,9,10,11,12,13,14,15,16,17,18,19,20,21,22,23,24,25,26,27,28,29,30] i74n49) (blk 0 (thn T (.clr [0,1,4,5,6,7,8,9,10,11,12,13,14,15,16,17,18,19,20,21,22,23,24,25,26,27,28,29,30,31] i74n54) (finE none [4] (Q74 L r))))))))))))))) (e' := (mkE [] 32)) (by kernel_rfl) ?_;refine Run.exit ?_;refine Rn.c (mkE [] 32) ?_;refine Rn.g ?_;refine Ro.t 1 ?_;refine Ro.d (mkE [(4,(V.int .u64 (0 : Int)))] 27) ?_;refine Run.ret ?_;have h := Option.some.inj h; subst h;exact ⟨(V.int .u64 (0 : Int)),(by kernel_rfl),(by kernel_rfl),hp⟩
theorem c74 {x0 : Int} {x1 : Int} {r : Int} (h : F74 x0 x1 = some r) (s : Bool) : Fn T 74 [(V.int .u8 x0),(V.int .u64 x1)] [] (fun v hh => deep s hh deepN v = some ((EI .u64).e r)) := by
  refine (w74 h HP.nil).mono ?_;rintro v hh ⟨rfl,hp⟩;exact (EI .u64).hd s hh 38 _ (.inr rfl)
abbrev Q55 (L : List Ob) (r : Bool) : V → Heap → Prop := fun v h => v = EB.e r ∧ HP h (L)
abbrev RR55 (L : List Ob) (r : Bool) : List V → Heap → Prop := fun e h => endR none [4] (Q55 L r) e h
def F55 (x0 : Int) (x1 : Int) : Option Bool :=
  if (decide (x0 ≥ (1 : Int))) then
    if (decide (x0 ≤ (5 : Int))) then
      (F74 x0 x1).bind fun y2663 =>
      some (y2663 == x1)
    else
      some false
  else
    some false
theorem w55 {x0 : Int} {x1 : Int} {r : Bool} (h : F55 x0 x1 = some r) {H : Heap} {L : List Ob} (hp : HP H (L)) : Fn T 55 [(V.int .u8 x0),(V.int .u64 x1)] H (Q55 L r) := by
  refine Fn.enterE t55 (e0 := (mkE [(0,(V.int .u8 x0)),(0,(V.int .u64 x1))] 16)) (by kernel_rfl) ?_;show Run T (.clr [] i55n3) _ _ (finE none [4] (Q55 L r));refine Rn.k (mkE [(0,(V.int .u8 x0)),(0,(V.int .u64 x1))] 16) ?_;unfold F55 at h;refine Rn.g ?_;refine Ro.t 1 ?_;refine Ro.d (mkE [(0,(V.int .u8 x0)),(0,(V.int .u64 x1))] 16) ?_;refine Rn.g ?_;refine Ro.t 1 ?_;rcases tf (decide (x0 ≥ (1 : Int))) with h2661 | h2661
  · rw [ite_t h2661] at h; refine Ro.p (bool_of h2661) ?_;refine Ro.t 2 ?_;rcases tf (decide (x0 ≤ (5 : Int))) with h2662 | h2662
    · rw [ite_t h2662] at h; refine Ro.p (bool_of h2662) ?_;refine Ro.t 4 ?_;obtain ⟨y2663,h2664,h⟩ := bind_some h;refine RunO.c1 (by kernel_rfl) (by kernel_rfl) (c74 h2664 _) ?_;refine Ro.t 4 ?_;refine Ro.d (mkE [(4,(V.bool (y2663 == x1)))] 13) ?_;refine Run.ret ?_;have h := Option.some.inj h; subst h;exact ⟨(V.bool (y2663 == x1)),(by kernel_rfl),(by kernel_rfl),hp⟩
    · rw [ite_f h2662] at h; refine Ro.p (bool_of h2662) ?_;refine Ro.t 9 ?_;refine Ro.d (mkE [(4,(V.bool false))] 13) ?_;refine Run.ret ?_;have h := Option.some.inj h; subst h;exact ⟨(V.bool false),(by kernel_rfl),(by kernel_rfl),hp⟩
  · rw [ite_f h2661] at h; refine Ro.p (bool_of h2661) ?_;refine Ro.t 12 ?_;refine Ro.d (mkE [(4,(V.bool false))] 13) ?_;refine Run.ret ?_;have h := Option.some.inj h; subst h;exact ⟨(V.bool false),(by kernel_rfl),(by kernel_rfl),hp⟩
theorem c55 {x0 : Int} {x1 : Int} {r : Bool} (h : F55 x0 x1 = some r) (s : Bool) : Fn T 55 [(V.int .u8 x0),(V.int .u64 x1)] [] (fun v hh => deep s hh deepN v = some (EB.e r)) := by
  refine (w55 h HP.nil).mono ?_;rintro v hh ⟨rfl,hp⟩;exact EB.hd s hh 38 _ (.inr rfl)
abbrev Q76 (L : List Ob) (r : Bool) : V → Heap → Prop := fun v h => v = EB.e r ∧ HP h (L)
abbrev RR76 (L : List Ob) (r : Bool) : List V → Heap → Prop := fun e h => endR none [2] (Q76 L r) e h
def F76 (x0 : Int) : Option Bool :=
  if (x0 == (2 : Int)) then
    some true
  else
    if (x0 == (3 : Int)) then
      some true
    else
      some (x0 == (4 : Int))
theorem w76 {x0 : Int} {r : Bool} (h : F76 x0 = some r) {H : Heap} {L : List Ob} (hp : HP H (L)) : Fn T 76 [(V.int .u8 x0)] H (Q76 L r) := by
  refine Fn.enterE t76 (e0 := (mkE [(0,(V.int .u8 x0))] 12)) (by kernel_rfl) ?_;show Run T (.clr [] i76n3) _ _ (finE none [2] (Q76 L r));refine Rn.k (mkE [(0,(V.int .u8 x0))] 12) ?_;unfold F76 at h;refine Rn.g ?_;refine Ro.t 1 ?_;refine Ro.d (mkE [(0,(V.int .u8 x0))] 12) ?_;refine Rn.g ?_;refine Ro.t 1 ?_;rcases tf (x0 == (2 : Int)) with h2808 | h2808
  · rw [ite_t h2808] at h; refine Ro.p (bool_of h2808) ?_;refine Ro.t 9 ?_;refine Ro.d (mkE [(2,(V.bool true))] 10) ?_;refine Run.ret ?_;have h := Option.some.inj h; subst h;exact ⟨(V.bool true),(by kernel_rfl),(by kernel_rfl),hp⟩
  · rw [ite_f h2808] at h; refine Ro.p (bool_of h2808) ?_;refine Ro.t 2 ?_;rcases tf (x0 == (3 : Int)) with h2809 | h2809
    · rw [ite_t h2809] at h; refine Ro.p (bool_of h2809) ?_;refine Ro.t 6 ?_;refine Ro.d (mkE [(2,(V.bool true))] 10) ?_;refine Run.ret ?_;have h := Option.some.inj h; subst h;exact ⟨(V.bool true),(by kernel_rfl),(by kernel_rfl),hp⟩
    · rw [ite_f h2809] at h; refine Ro.p (bool_of h2809) ?_;refine Ro.t 6 ?_;refine Ro.d (mkE [(2,(V.bool (x0 == (4 : Int))))] 10) ?_;refine Run.ret ?_;have h := Option.some.inj h; subst h;exact ⟨(V.bool (x0 == (4 : Int))),(by kernel_rfl),(by kernel_rfl),hp⟩
theorem c76 {x0 : Int} {r : Bool} (h : F76 x0 = some r) (s : Bool) : Fn T 76 [(V.int .u8 x0)] [] (fun v hh => deep s hh deepN v = some (EB.e r)) := by
  refine (w76 h HP.nil).mono ?_;rintro v hh ⟨rfl,hp⟩;exact EB.hd s hh 38 _ (.inr rfl)
abbrev Q75 (L : List Ob) (r : (Int × Bool)) : V → Heap → Prop := fun v h => v = .tup [(EI .u8).e r.1,EB.e r.2] ∧ HP h (L)
abbrev RR75 (L : List Ob) (r : (Int × Bool)) : List V → Heap → Prop := fun e h => endR none [4,5] (Q75 L r) e h
def F75_j1 (x1 : Int) (y6019 : Bool) : Option (Int × Bool) :=
  if (!y6019) then
    some ((0 : Int),false)
  else
    some (x1,true)
theorem w75_j1 {x1 : Int} {y6019 : Bool} {r : (Int × Bool)} (h : F75_j1 x1 y6019 = some r) {H : Heap} {L : List Ob} (hp : HP H (L)) :
    Run T i75n98 (mkE [(1,(V.int .u8 x1)),(4,(V.bool y6019))] 41) H (finE none [4,5] (Q75 L r)) := by
  unfold F75_j1 at h;refine Run.seq ?_;refine Rn.g ?_;refine Ro.t 2 ?_;refine Ro.d (mkE [(1,(V.int .u8 x1)),(44,(V.bool (!y6019)))] 1) ?_;rcases tf (!y6019) with h6021 | h6021
  · rw [ite_t h6021] at h; refine Rn.t h6021 ?_;refine Rn.g ?_;refine Ro.t 2 ?_;refine Ro.d (mkE [(4,(V.int .u8 (0 : Int))),(0,(V.bool false))] 42) ?_;refine Run.ret ?_;have h := Option.some.inj h; subst h;exact ⟨(V.tup [(V.int .u8 (0 : Int)),(V.bool false)]),(by kernel_rfl),(by kernel_rfl),hp⟩
  · rw [ite_f h6021] at h; refine Rn.f h6021 ?_;refine Run.skip ?_;refine Rn.c (mkE [(1,(V.int .u8 x1))] 46) ?_;refine Rn.g ?_;refine Ro.t 3 ?_;refine Ro.d (mkE [(4,(V.int .u8 x1)),(0,(V.bool true))] 42) ?_;refine Run.ret ?_;have h := Option.some.inj h; subst h;exact ⟨(V.tup [(V.int .u8 x1),(V.bool true)]),(by kernel_rfl),(by kernel_rfl),hp⟩
def F75_j2 : Option (Int × Bool) :=
  some ((1 : Int),true)
theorem w75_j2 {r : (Int × Bool)} (h : F75_j2 = some r) {H : Heap} {L : List Ob} (hp : HP H (L)) :
    Run T i75n87 (mkE [] 48) H (blk 0 (thn T (.clr [0,4,5,13,14,15,16,17,18,19,20,21,22,23,24,25,26,27,28,29,30,31,32,33,34,35,36,37,38,39,40,41,42,43,44] i75n98) (finE none [4,5] (Q75 L r)))) := by
  unfold F75_j2 at h;refine Run.seq ?_;refine Rn.g ?_;refine Ro.t 2 ?_;refine Ro.d (mkE [(4,(V.int .u8 (1 : Int))),(0,(V.bool true))] 42) ?_;refine Run.ret ?_;have h := Option.some.inj h; subst h;exact ⟨(V.tup [(V.int .u8 (1 : Int)),(V.bool true)]),(by kernel_rfl),(by kernel_rfl),hp⟩
def F75_j3 (x1 : Int) : Option (Int × Bool) :=
  if (x1 == (1 : Int)) then
    F75_j1 x1 (false)
  else
    F75_j2
theorem w75_j3 {x1 : Int} {r : (Int × Bool)} (h : F75_j3 x1 = some r) {H : Heap} {L : List Ob} (hp : HP H (L)) :
    Run T i75n82 (mkE [(1,(V.int .u8 x1)),(4,(V.bool false))] 41) H (blk 5 (thn T (.clr [1,6,13,14,15,16,17,18,19,20,21,22,23,24,25,26,27,28,29,30,31,32,33,34,35,36,37,38,39,40,41,42,43,44] i75n87) (blk 0 (thn T (.clr [0,4,5,13,14,15,16,17,18,19,20,21,22,23,24,25,26,27,28,29,30,31,32,33,34,35,36,37,38,39,40,41,42,43,44] i75n98) (finE none [4,5] (Q75 L r)))))) := by
  unfold F75_j3 at h;refine Rn.g ?_;refine Ro.t 2 ?_;refine Ro.d (mkE [(1,(V.int .u8 x1)),(4,(V.bool false)),(37,(V.bool (x1 == (1 : Int))))] 3) ?_;rcases tf (x1 == (1 : Int)) with h6851 | h6851
  · rw [ite_t h6851] at h; refine Rn.t h6851 ?_;refine Run.exit ?_;refine Rn.c (mkE [(1,(V.int .u8 x1)),(4,(V.bool false))] 41) ?_;exact w75_j1 h hp
  · rw [ite_f h6851] at h; refine Rn.f h6851 ?_;refine Run.skip ?_;refine Rn.c (mkE [] 48) ?_;exact w75_j2 h hp
def F75_j4 (x1 : Int) : Option (Int × Bool) :=
  F75_j1 x1 ((x1 != (5 : Int)))
theorem w75_j4 {x1 : Int} {r : (Int × Bool)} (h : F75_j4 x1 = some r) {H : Heap} {L : List Ob} (hp : HP H (L)) :
    Run T i75n77 (mkE [(1,(V.int .u8 x1))] 46) H (blk 4 (thn T (.clr [13,14,15,16,17,18,19,20,21,22,23,24,25,26,27,28,29,30,31,32,33,34,35,36,37,38,39,40,41,42] i75n82) (blk 5 (thn T (.clr [1,6,13,14,15,16,17,18,19,20,21,22,23,24,25,26,27,28,29,30,31,32,33,34,35,36,37,38,39,40,41,42,43,44] i75n87) (blk 0 (thn T (.clr [0,4,5,13,14,15,16,17,18,19,20,21,22,23,24,25,26,27,28,29,30,31,32,33,34,35,36,37,38,39,40,41,42,43,44] i75n98) (finE none [4,5] (Q75 L r)))))))) := by
  unfold F75_j4 at h;refine Rn.g ?_;refine Ro.t 3 ?_;refine Ro.d (mkE [(1,(V.int .u8 x1)),(4,(V.bool (x1 != (5 : Int))))] 41) ?_;refine Run.exit ?_;refine Rn.c (mkE [(1,(V.int .u8 x1)),(4,(V.bool (x1 != (5 : Int))))] 41) ?_;exact w75_j1 h hp
def F75_j5 (x1 : Int) : Option (Int × Bool) :=
  (F76 x1).bind fun y7058 =>
  F75_j1 x1 (y7058)
theorem w75_j5 {x1 : Int} {r : (Int × Bool)} (h : F75_j5 x1 = some r) {H : Heap} {L : List Ob} (hp : HP H (L)) :
    Run T i75n73 (mkE [(1,(V.int .u8 x1))] 46) H (blk 3 (thn T (.clr [6,13,14,15,16,17,18,19,20,21,22,23,24,25,26,27,28,29,30,31,32,33,34,35,36,37,38,39,40] i75n77) (blk 4 (thn T (.clr [13,14,15,16,17,18,19,20,21,22,23,24,25,26,27,28,29,30,31,32,33,34,35,36,37,38,39,40,41,42] i75n82) (blk 5 (thn T (.clr [1,6,13,14,15,16,17,18,19,20,21,22,23,24,25,26,27,28,29,30,31,32,33,34,35,36,37,38,39,40,41,42,43,44] i75n87) (blk 0 (thn T (.clr [0,4,5,13,14,15,16,17,18,19,20,21,22,23,24,25,26,27,28,29,30,31,32,33,34,35,36,37,38,39,40,41,42,43,44] i75n98) (finE none [4,5] (Q75 L r)))))))))) := by
  unfold F75_j5 at h;refine Rn.g ?_;refine Ro.t 1 ?_;obtain ⟨y7058,h7059,h⟩ := bind_some h;refine RunO.c1 (by kernel_rfl) (by kernel_rfl) (c76 h7059 _) ?_;refine Ro.t 1 ?_;refine Ro.d (mkE [(1,(V.int .u8 x1)),(4,(V.bool y7058))] 41) ?_;refine Run.exit ?_;refine Rn.c (mkE [(1,(V.int .u8 x1)),(4,(V.bool y7058))] 41) ?_;exact w75_j1 h hp
def F75_j6 (x1 : Int) : Option (Int × Bool) :=
  F75_j1 x1 ((x1 != (1 : Int)))
theorem w75_j6 {x1 : Int} {r : (Int × Bool)} (h : F75_j6 x1 = some r) {H : Heap} {L : List Ob} (hp : HP H (L)) :
    Run T i75n69 (mkE [(1,(V.int .u8 x1))] 46) H (blk 2 (thn T (.clr [6,13,14,15,16,17,18,19,20,21,22,23,24,25,26,27,28,29,30,31,32,33,34,35,36,37,38] i75n73) (blk 3 (thn T (.clr [6,13,14,15,16,17,18,19,20,21,22,23,24,25,26,27,28,29,30,31,32,33,34,35,36,37,38,39,40] i75n77) (blk 4 (thn T (.clr [13,14,15,16,17,18,19,20,21,22,23,24,25,26,27,28,29,30,31,32,33,34,35,36,37,38,39,40,41,42] i75n82) (blk 5 (thn T (.clr [1,6,13,14,15,16,17,18,19,20,21,22,23,24,25,26,27,28,29,30,31,32,33,34,35,36,37,38,39,40,41,42,43,44] i75n87) (blk 0 (thn T (.clr [0,4,5,13,14,15,16,17,18,19,20,21,22,23,24,25,26,27,28,29,30,31,32,33,34,35,36,37,38,39,40,41,42,43,44] i75n98) (finE none [4,5] (Q75 L r)))))))))))) := by
  unfold F75_j6 at h;refine Rn.g ?_;refine Ro.t 3 ?_;refine Ro.d (mkE [(1,(V.int .u8 x1)),(4,(V.bool (x1 != (1 : Int))))] 41) ?_;refine Run.exit ?_;refine Rn.c (mkE [(1,(V.int .u8 x1)),(4,(V.bool (x1 != (1 : Int))))] 41) ?_;exact w75_j1 h hp
def F75 (x0 : Int) (x1 : Int) : Option (Int × Bool) :=
  if (decide (x1 < (1 : Int))) then
    some ((0 : Int),false)
  else
    if (decide (x1 > (5 : Int))) then
      some ((0 : Int),false)
    else
      if (x0 == (1 : Int)) then
        F75_j6 x1
      else
        if (x0 == (2 : Int)) then
          F75_j6 x1
        else
          if (x0 == (3 : Int)) then
            F75_j6 x1
          else
            if (x0 == (4 : Int)) then
              F75_j6 x1
            else
              if (x0 == (17 : Int)) then
                F75_j6 x1
              else
                if (x0 == (5 : Int)) then
                  F75_j5 x1
                else
                  if (x0 == (9 : Int)) then
                    F75_j5 x1
                  else
                    if (x0 == (10 : Int)) then
                      F75_j5 x1
                    else
                      if (x0 == (6 : Int)) then
                        F75_j4 x1
                      else
                        if (x0 == (7 : Int)) then
                          F75_j4 x1
                        else
                          if (x0 == (8 : Int)) then
                            F75_j4 x1
                          else
                            if (x0 == (18 : Int)) then
                              F75_j4 x1
                            else
                              if (x0 == (13 : Int)) then
                                F75_j3 x1
                              else
                                if (x0 == (14 : Int)) then
                                  F75_j3 x1
                                else
                                  if (x0 == (15 : Int)) then
                                    F75_j3 x1
                                  else
                                    if (x0 == (16 : Int)) then
                                      F75_j3 x1
                                    else
                                      if (x0 == (11 : Int)) then
                                        F75_j2
                                      else
                                        if (x0 == (12 : Int)) then
                                          F75_j2
                                        else
                                          F75_j1 x1 (false)
theorem w75 {x0 : Int} {x1 : Int} {r : (Int × Bool)} (h : F75 x0 x1 = some r) {H : Heap} {L : List Ob} (hp : HP H (L)) : Fn T 75 [(V.int .u8 x0),(V.int .u8 x1)] H (Q75 L r) := by
  refine Fn.enterE t75 (e0 := (mkE [(0,(V.int .u8 x0)),(0,(V.int .u8 x1))] 46)) (by kernel_rfl) ?_;show Run T (.clr [] i75n102) _ _ (finE none [4,5] (Q75 L r));refine Rn.k (mkE [(0,(V.int .u8 x0)),(0,(V.int .u8 x1))] 46) ?_;unfold F75 at h;refine Rn.g ?_;refine Ro.t 2 ?_;refine Ro.d (mkE [(0,(V.int .u8 x0)),(0,(V.int .u8 x1))] 46) ?_;refine Run.seq ?_;refine Rn.g ?_;refine Ro.t 1 ?_;rcases tf (decide (x1 < (1 : Int))) with h4911 | h4911
  · rw [ite_t h4911] at h; refine Ro.p (bool_of h4911) ?_;refine Ro.t 4 ?_;refine Ro.d (mkE [(0,(V.int .u8 x0)),(0,(V.int .u8 x1)),(10,(V.bool true))] 35) ?_;refine Run.condT (by kernel_rfl) ?_;refine Rn.g ?_;refine Ro.t 2 ?_;refine Ro.d (mkE [(4,(V.int .u8 (0 : Int))),(0,(V.bool false))] 42) ?_;refine Run.ret ?_;have h := Option.some.inj h; subst h;exact ⟨(V.tup [(V.int .u8 (0 : Int)),(V.bool false)]),(by kernel_rfl),(by kernel_rfl),hp⟩
  · rw [ite_f h4911] at h; refine Ro.p (bool_of h4911) ?_;refine Ro.t 4 ?_;refine Ro.d (mkE [(0,(V.int .u8 x0)),(0,(V.int .u8 x1)),(10,(V.bool (decide (x1 > (5 : Int)))))] 35) ?_;rcases tf (decide (x1 > (5 : Int))) with h4912 | h4912
    · rw [ite_t h4912] at h; refine Rn.t h4912 ?_;refine Rn.g ?_;refine Ro.t 2 ?_;refine Ro.d (mkE [(4,(V.int .u8 (0 : Int))),(0,(V.bool false))] 42) ?_;refine Run.ret ?_;have h := Option.some.inj h; subst h;exact ⟨(V.tup [(V.int .u8 (0 : Int)),(V.bool false)]),(by kernel_rfl),(by kernel_rfl),hp⟩
    · rw [ite_f h4912] at h; refine Rn.f h4912 ?_;refine Run.skip ?_;refine Rn.c (mkE [(0,(V.int .u8 x0)),(0,(V.int .u8 x1))] 46) ?_;refine Rn.g ?_;refine Ro.t 1 ?_;refine Ro.d (mkE [(0,(V.int .u8 x0)),(0,(V.int .u8 x1)),(4,(V.bool false))] 41) ?_;refine Run.seq ?_;refine Rn.g ?_;refine Ro.t 1 ?_;refine Ro.d (mkE [(1,(V.int .u8 x1)),(4,(V.bool false)),(6,(V.int .u8 x0))] 34) ?_;refine Run.block ?_;refine Run.seq ?_;refine Run.block ?_;refine Run.seq ?_;refine Run.block ?_;refine Run.seq ?_;refine Run.block ?_;refine Run.seq ?_;refine Run.block ?_;refine Run.seq ?_;refine Run.block ?_;refine Run.seq ?_;refine Run.seq ?_;refine Run.seq ?_;refine Rn.g ?_;refine Ro.t 2 ?_;refine Ro.d (mkE [(1,(V.int .u8 x1)),(4,(V.bool false)),(6,(V.int .u8 x0)),(0,(V.bool (x0 == (1 : Int))))] 33) ?_;rcases tf (x0 == (1 : Int)) with h7099 | h7099
      · rw [ite_t h7099] at h; refine Rn.t h7099 ?_;refine Run.skip ?_;refine Rn.c (mkE [(1,(V.int .u8 x1)),(4,(V.bool false)),(6,(V.int .u8 x0)),(0,(V.bool (x0 == (1 : Int))))] 33) ?_;refine Run.cond (t := true) (by rw [← h7099]; kernel_rfl) ?_;refine Run.exit ?_;refine Rn.c (mkE [(1,(V.int .u8 x1))] 46) ?_;exact w75_j6 h hp
      · rw [ite_f h7099] at h; refine Rn.f h7099 ?_;refine Rn.g ?_;refine Ro.t 2 ?_;refine Ro.d (mkE [(1,(V.int .u8 x1)),(4,(V.bool false)),(6,(V.int .u8 x0)),(0,(V.bool (x0 == (2 : Int))))] 33) ?_;rcases tf (x0 == (2 : Int)) with h7100 | h7100
        · rw [ite_t h7100] at h; refine Rn.t h7100 ?_;refine Run.skip ?_;refine Rn.c (mkE [(1,(V.int .u8 x1)),(4,(V.bool false)),(6,(V.int .u8 x0)),(0,(V.bool (x0 == (2 : Int))))] 33) ?_;refine Run.cond (t := true) (by rw [← h7100]; kernel_rfl) ?_;refine Run.exit ?_;refine Rn.c (mkE [(1,(V.int .u8 x1))] 46) ?_;exact w75_j6 h hp
        · rw [ite_f h7100] at h; refine Rn.f h7100 ?_;refine Rn.g ?_;refine Ro.t 2 ?_;refine Ro.d (mkE [(1,(V.int .u8 x1)),(4,(V.bool false)),(6,(V.int .u8 x0)),(0,(V.bool (x0 == (3 : Int))))] 33) ?_;rcases tf (x0 == (3 : Int)) with h7101 | h7101
          · rw [ite_t h7101] at h; refine Rn.t h7101 ?_;refine Run.skip ?_;refine Rn.c (mkE [(1,(V.int .u8 x1)),(4,(V.bool false)),(6,(V.int .u8 x0)),(0,(V.bool (x0 == (3 : Int))))] 33) ?_;refine Run.cond (t := true) (by rw [← h7101]; kernel_rfl) ?_;refine Run.exit ?_;refine Rn.c (mkE [(1,(V.int .u8 x1))] 46) ?_;exact w75_j6 h hp
          · rw [ite_f h7101] at h; refine Rn.f h7101 ?_;refine Rn.g ?_;refine Ro.t 2 ?_;refine Ro.d (mkE [(1,(V.int .u8 x1)),(4,(V.bool false)),(6,(V.int .u8 x0)),(0,(V.bool (x0 == (4 : Int))))] 33) ?_;rcases tf (x0 == (4 : Int)) with h7102 | h7102
            · rw [ite_t h7102] at h; refine Rn.t h7102 ?_;refine Run.skip ?_;refine Rn.c (mkE [(1,(V.int .u8 x1)),(4,(V.bool false)),(6,(V.int .u8 x0)),(0,(V.bool (x0 == (4 : Int))))] 33) ?_;refine Run.cond (t := true) (by rw [← h7102]; kernel_rfl) ?_;refine Run.exit ?_;refine Rn.c (mkE [(1,(V.int .u8 x1))] 46) ?_;exact w75_j6 h hp
            · rw [ite_f h7102] at h; refine Rn.f h7102 ?_;refine Run.rgn ?_;refine Ro.t 2 ?_;refine Ro.d (mkE [(1,(V.int .u8 x1)),(4,(V.bool false)),(6,(V.int .u8 x0)),(0,(V.bool (x0 == (17 : Int))))] 33) ?_;rcases tf (x0 == (17 : Int)) with h7103 | h7103
              · rw [ite_t h7103] at h; refine Rn.t h7103 ?_;refine Run.exit ?_;refine Rn.c (mkE [(1,(V.int .u8 x1))] 46) ?_;exact w75_j6 h hp
              · rw [ite_f h7103] at h; refine Rn.f h7103 ?_;refine Run.skip ?_;refine Rn.c (mkE [(1,(V.int .u8 x1)),(4,(V.bool false)),(6,(V.int .u8 x0))] 34) ?_;refine Run.seq ?_;refine Run.seq ?_;refine Rn.g ?_;refine Ro.t 2 ?_;refine Ro.d (mkE [(1,(V.int .u8 x1)),(4,(V.bool false)),(6,(V.int .u8 x0)),(6,(V.bool (x0 == (5 : Int))))] 27) ?_;rcases tf (x0 == (5 : Int)) with h7107 | h7107
                · rw [ite_t h7107] at h; refine Rn.t h7107 ?_;refine Run.skip ?_;refine Rn.c (mkE [(1,(V.int .u8 x1)),(4,(V.bool false)),(6,(V.int .u8 x0)),(6,(V.bool (x0 == (5 : Int))))] 27) ?_;refine Run.cond (t := true) (by rw [← h7107]; kernel_rfl) ?_;refine Run.exit ?_;refine Rn.c (mkE [(1,(V.int .u8 x1))] 46) ?_;exact w75_j5 h hp
                · rw [ite_f h7107] at h; refine Rn.f h7107 ?_;refine Rn.g ?_;refine Ro.t 2 ?_;refine Ro.d (mkE [(1,(V.int .u8 x1)),(4,(V.bool false)),(6,(V.int .u8 x0)),(6,(V.bool (x0 == (9 : Int))))] 27) ?_;rcases tf (x0 == (9 : Int)) with h7108 | h7108
                  · rw [ite_t h7108] at h; refine Rn.t h7108 ?_;refine Run.skip ?_;refine Rn.c (mkE [(1,(V.int .u8 x1)),(4,(V.bool false)),(6,(V.int .u8 x0)),(6,(V.bool (x0 == (9 : Int))))] 27) ?_;refine Run.cond (t := true) (by rw [← h7108]; kernel_rfl) ?_;refine Run.exit ?_;refine Rn.c (mkE [(1,(V.int .u8 x1))] 46) ?_;exact w75_j5 h hp
                  · rw [ite_f h7108] at h; refine Rn.f h7108 ?_;refine Run.rgn ?_;refine Ro.t 2 ?_;refine Ro.d (mkE [(1,(V.int .u8 x1)),(4,(V.bool false)),(6,(V.int .u8 x0)),(6,(V.bool (x0 == (10 : Int))))] 27) ?_;rcases tf (x0 == (10 : Int)) with h7109 | h7109
                    · rw [ite_t h7109] at h; refine Rn.t h7109 ?_;refine Run.exit ?_;refine Rn.c (mkE [(1,(V.int .u8 x1))] 46) ?_;exact w75_j5 h hp
                    · rw [ite_f h7109] at h; refine Rn.f h7109 ?_;refine Run.skip ?_;refine Rn.c (mkE [(1,(V.int .u8 x1)),(4,(V.bool false)),(6,(V.int .u8 x0))] 34) ?_;refine Run.seq ?_;refine Run.seq ?_;refine Rn.g ?_;refine Ro.t 2 ?_;refine Ro.d (mkE [(1,(V.int .u8 x1)),(4,(V.bool false)),(6,(V.int .u8 x0)),(10,(V.bool (x0 == (6 : Int))))] 23) ?_;rcases tf (x0 == (6 : Int)) with h7114 | h7114
                      · rw [ite_t h7114] at h; refine Rn.t h7114 ?_;refine Run.skip ?_;refine Rn.c (mkE [(1,(V.int .u8 x1)),(4,(V.bool false)),(6,(V.int .u8 x0)),(10,(V.bool (x0 == (6 : Int))))] 23) ?_;refine Run.cond (t := true) (by rw [← h7114]; kernel_rfl) ?_;refine Run.exit ?_;refine Rn.c (mkE [(1,(V.int .u8 x1))] 46) ?_;exact w75_j4 h hp
                      · rw [ite_f h7114] at h; refine Rn.f h7114 ?_;refine Rn.g ?_;refine Ro.t 2 ?_;refine Ro.d (mkE [(1,(V.int .u8 x1)),(4,(V.bool false)),(6,(V.int .u8 x0)),(10,(V.bool (x0 == (7 : Int))))] 23) ?_;rcases tf (x0 == (7 : Int)) with h7115 | h7115
                        · rw [ite_t h7115] at h; refine Rn.t h7115 ?_;refine Run.skip ?_;refine Rn.c (mkE [(1,(V.int .u8 x1)),(4,(V.bool false)),(6,(V.int .u8 x0)),(10,(V.bool (x0 == (7 : Int))))] 23) ?_;refine Run.cond (t := true) (by rw [← h7115]; kernel_rfl) ?_;refine Run.exit ?_;refine Rn.c (mkE [(1,(V.int .u8 x1))] 46) ?_;exact w75_j4 h hp
                        · rw [ite_f h7115] at h; refine Rn.f h7115 ?_;refine Rn.g ?_;refine Ro.t 2 ?_;refine Ro.d (mkE [(1,(V.int .u8 x1)),(4,(V.bool false)),(6,(V.int .u8 x0)),(10,(V.bool (x0 == (8 : Int))))] 23) ?_;rcases tf (x0 == (8 : Int)) with h7116 | h7116
                          · rw [ite_t h7116] at h; refine Rn.t h7116 ?_;refine Run.skip ?_;refine Rn.c (mkE [(1,(V.int .u8 x1)),(4,(V.bool false)),(6,(V.int .u8 x0)),(10,(V.bool (x0 == (8 : Int))))] 23) ?_;refine Run.cond (t := true) (by rw [← h7116]; kernel_rfl) ?_;refine Run.exit ?_;refine Rn.c (mkE [(1,(V.int .u8 x1))] 46) ?_;exact w75_j4 h hp
                          · rw [ite_f h7116] at h; refine Rn.f h7116 ?_;refine Run.rgn ?_;refine Ro.t 2 ?_;refine Ro.d (mkE [(1,(V.int .u8 x1)),(4,(V.bool false)),(6,(V.int .u8 x0)),(10,(V.bool (x0 == (18 : Int))))] 23) ?_;rcases tf (x0 == (18 : Int)) with h7117 | h7117
                            · rw [ite_t h7117] at h; refine Rn.t h7117 ?_;refine Run.exit ?_;refine Rn.c (mkE [(1,(V.int .u8 x1))] 46) ?_;exact w75_j4 h hp
                            · rw [ite_f h7117] at h; refine Rn.f h7117 ?_;refine Run.skip ?_;refine Rn.c (mkE [(1,(V.int .u8 x1)),(4,(V.bool false)),(6,(V.int .u8 x0))] 34) ?_;refine Run.seq ?_;refine Run.seq ?_;refine Rn.g ?_;refine Ro.t 2 ?_;refine Ro.d (mkE [(1,(V.int .u8 x1)),(4,(V.bool false)),(6,(V.int .u8 x0)),(15,(V.bool (x0 == (13 : Int))))] 18) ?_;rcases tf (x0 == (13 : Int)) with h7122 | h7122
                              · rw [ite_t h7122] at h; refine Rn.t h7122 ?_;refine Run.skip ?_;refine Rn.c (mkE [(1,(V.int .u8 x1)),(4,(V.bool false)),(6,(V.int .u8 x0)),(15,(V.bool (x0 == (13 : Int))))] 18) ?_;refine Run.cond (t := true) (by rw [← h7122]; kernel_rfl) ?_;refine Run.exit ?_;refine Rn.c (mkE [(1,(V.int .u8 x1)),(4,(V.bool false))] 41) ?_;exact w75_j3 h hp
                              · rw [ite_f h7122] at h; refine Rn.f h7122 ?_;refine Rn.g ?_;refine Ro.t 2 ?_;refine Ro.d (mkE [(1,(V.int .u8 x1)),(4,(V.bool false)),(6,(V.int .u8 x0)),(15,(V.bool (x0 == (14 : Int))))] 18) ?_;rcases tf (x0 == (14 : Int)) with h7123 | h7123
                                · rw [ite_t h7123] at h; refine Rn.t h7123 ?_;refine Run.skip ?_;refine Rn.c (mkE [(1,(V.int .u8 x1)),(4,(V.bool false)),(6,(V.int .u8 x0)),(15,(V.bool (x0 == (14 : Int))))] 18) ?_;refine Run.cond (t := true) (by rw [← h7123]; kernel_rfl) ?_;refine Run.exit ?_;refine Rn.c (mkE [(1,(V.int .u8 x1)),(4,(V.bool false))] 41) ?_;exact w75_j3 h hp
                                · rw [ite_f h7123] at h; refine Rn.f h7123 ?_;refine Rn.g ?_;refine Ro.t 2 ?_;refine Ro.d (mkE [(1,(V.int .u8 x1)),(4,(V.bool false)),(6,(V.int .u8 x0)),(15,(V.bool (x0 == (15 : Int))))] 18) ?_;rcases tf (x0 == (15 : Int)) with h7124 | h7124
                                  · rw [ite_t h7124] at h; refine Rn.t h7124 ?_;refine Run.skip ?_;refine Rn.c (mkE [(1,(V.int .u8 x1)),(4,(V.bool false)),(6,(V.int .u8 x0)),(15,(V.bool (x0 == (15 : Int))))] 18) ?_;refine Run.cond (t := true) (by rw [← h7124]; kernel_rfl) ?_;refine Run.exit ?_;refine Rn.c (mkE [(1,(V.int .u8 x1)),(4,(V.bool false))] 41) ?_;exact w75_j3 h hp
                                  · rw [ite_f h7124] at h; refine Rn.f h7124 ?_;refine Run.rgn ?_;refine Ro.t 2 ?_;refine Ro.d (mkE [(1,(V.int .u8 x1)),(4,(V.bool false)),(6,(V.int .u8 x0)),(15,(V.bool (x0 == (16 : Int))))] 18) ?_;rcases tf (x0 == (16 : Int)) with h7125 | h7125
                                    · rw [ite_t h7125] at h; refine Rn.t h7125 ?_;refine Run.exit ?_;refine Rn.c (mkE [(1,(V.int .u8 x1)),(4,(V.bool false))] 41) ?_;exact w75_j3 h hp
                                    · rw [ite_f h7125] at h; refine Rn.f h7125 ?_;refine Run.skip ?_;refine Rn.c (mkE [(1,(V.int .u8 x1)),(4,(V.bool false)),(6,(V.int .u8 x0))] 34) ?_;refine Run.seq ?_;refine Rn.g ?_;refine Ro.t 2 ?_;refine Ro.d (mkE [(1,(V.int .u8 x1)),(4,(V.bool false)),(6,(V.int .u8 x0)),(20,(V.bool (x0 == (11 : Int))))] 13) ?_;rcases tf (x0 == (11 : Int)) with h7126 | h7126
                                      · rw [ite_t h7126] at h; refine Rn.t h7126 ?_;refine Run.skip ?_;refine Rn.c (mkE [(1,(V.int .u8 x1)),(4,(V.bool false)),(27,(V.bool (x0 == (11 : Int))))] 13) ?_;refine Run.cond (t := true) (by rw [← h7126]; kernel_rfl) ?_;refine Run.exit ?_;refine Rn.c (mkE [] 48) ?_;exact w75_j2 h hp
                                      · rw [ite_f h7126] at h; refine Rn.f h7126 ?_;refine Run.rgn ?_;refine Ro.t 2 ?_;refine Ro.d (mkE [(1,(V.int .u8 x1)),(4,(V.bool false)),(27,(V.bool (x0 == (12 : Int))))] 13) ?_;rcases tf (x0 == (12 : Int)) with h7127 | h7127
                                        · rw [ite_t h7127] at h; refine Rn.t h7127 ?_;refine Run.exit ?_;refine Rn.c (mkE [] 48) ?_;exact w75_j2 h hp
                                        · rw [ite_f h7127] at h; refine Rn.f h7127 ?_;refine Run.skip ?_;refine Run.clrE (ts := [13,14,15,16,17,18,19,20,21,22,23,24,25,26,27,28,29,30,31,32,33,34,35,36]) (b := (.exit 0)) (Q := (blk 1 (thn T (.clr [6,13,14,15,16,17,18,19,20,21,22,23,24,25,26,27,28,29,30,31,32,33,34,35,36] i75n69) (blk 2 (thn T (.clr [6,13,14,15,16,17,18,19,20,21,22,23,24,25,26,27,28,29,30,31,32,33,34,35,36,37,38] i75n73) (blk 3 (thn T (.clr [6,13,14,15,16,17,18,19,20,21,22,23,24,25,26,27,28,29,30,31,32,33,34,35,36,37,38,39,40] i75n77) (blk 4 (thn T (.clr [13,14,15,16,17,18,19,20,21,22,23,24,25,26,27,28,29,30,31,32,33,34,35,36,37,38,39,40,41,42] i75n82) (blk 5 (thn T (.clr [1,6,13,14,15,16,17,18,19,20,21,22,23,24,25,26,27,28,29,30,31,32,33,34,35,36,37,38,39,40,41,42,43,44] i75n87) (blk 0 (thn T (.clr [0,4,5,13,14,15,16,17,18,19,20,21,22,23,24,25,26,27,28,29,30,31,32,33,34,35,36,37,38,39,40,41,42,43,44] i75n98) (finE none [4,5] (Q75 L r))))))))))))))) (e' := (mkE [(1,(V.int .u8 x1)),(4,(V.bool false))] 41)) (by kernel_rfl) ?_;refine Run.exit ?_;refine Rn.c (mkE [(1,(V.int .u8 x1)),(4,(V.bool false))] 41) ?_;exact w75_j1 h hp
theorem c75 {x0 : Int} {x1 : Int} {r : (Int × Bool)} (h : F75 x0 x1 = some r) (s : Bool) : Fn T 75 [(V.int .u8 x0),(V.int .u8 x1)] [] (fun v hh => deep s hh deepN v = some (.tup [(EI .u8).e r.1,EB.e r.2])) := by
  refine (w75 h HP.nil).mono ?_;rintro v hh ⟨rfl,hp⟩;exact congrArg (Option.map V.tup) (omapc ((EI .u8).hd s hh 37 _ (.inr rfl)) (omapc (EB.hd s hh 37 _ (.inr rfl)) omapn))
end Go.Eng.Gra
