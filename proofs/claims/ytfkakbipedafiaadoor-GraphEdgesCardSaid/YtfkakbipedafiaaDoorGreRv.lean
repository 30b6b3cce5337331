/- Plain functions with the answers of the layer's functions, and the proofs (lines written by a program of this session's; no condition beyond those stated). -/
import Derived.Test.YtfkakbipedafiaaDoorGreIr
import Derived.Test.YtfkakbipedafiaaDoorGraTy
import Derived.Test.YtfkakbipedafiaaDoorEngZ
namespace Go.Eng.Gra
open Go Go.Eng
set_option linter.unusedSectionVars false
set_option linter.unusedVariables false
set_option linter.unusedSimpArgs false
set_option maxRecDepth 20000
/- slices.Reverse[[]int,int] -/
abbrev Q36 (o1 : Option (Nat × Nat)) (L : List Ob) (r : (List Int)) : V → Heap → Prop := fun v h => ∃ (q90 : List V), v = .tup [] ∧ HP h ((o1, List.flatMap (EI .i64).c r ++ q90) :: L)
abbrev RR36 (o1 : Option (Nat × Nat)) (L : List Ob) (r : (List Int)) : List V → Heap → Prop := fun e h => endR none [] (Q36 o1 L r) e h

abbrev I36_1 (o1 : Option (Nat × Nat)) (L : List Ob) : ((List Int) × Int × Int) → List V → Heap → Prop := fun s e h => ∃ q109 : List V, e = (mkE [(0, (slv (EI .i64).z (EI .i64).ag (List.length s.1) o1)), (1, (i6 s.2.1)), (0, (i6 s.2.2))] 24) ∧ HP h ((o1, List.flatMap (EI .i64).c s.1 ++ q109) :: L)

abbrev J36_1 (o1 : Option (Nat × Nat)) (L : List Ob) : ((List Int)) → Nat → List V → Heap → Prop := fun a i e h => i = 0 ∧ ∃ q146 : List V, True ∧ HP h ((o1, List.flatMap (EI .i64).c a ++ q146) :: L)

def F36_1_b (l107 : (List Int)) (y110 : Int) (y111 : Int) : Option (Stp ((List Int) × Int × Int) (List Int) ((List Int))) :=
  if (decide (y110 < y111)) then
    (idx l107 y111).bind fun y149 =>
    (idx l107 y110).bind fun y155 =>
    (idx l107 y110).bind fun y161 =>
    (upd l107 y110 y149).bind fun y167 =>
    (idx y167 y111).bind fun y170 =>
    (upd y167 y111 y155).bind fun y176 =>
    some (.next (y176, (IntKind.i64.wrap (y110 + (1 : Int))), (IntKind.i64.wrap (y111 - (1 : Int)))))
  else
    some (.go (l107))

theorem w36_1_b {l107 : (List Int)} {y110 : Int} {y111 : Int} {t : (Stp ((List Int) × Int × Int) (List Int) ((List Int)))} (h : F36_1_b l107 y110 y111 = some t) {o1 : Option (Nat × Nat)} {q109 : List V} {H : Heap} {L : List Ob} (hp : HP H ((o1, List.flatMap (EI .i64).c l107 ++ q109) :: L)) :
    Run T i36n8 (mkE [(0, (slv (EI .i64).z (EI .i64).ag (List.length l107) o1)), (1, (i6 y110)), (0, (i6 y111))] 24) H (stp [7, 8, 9, 10, 11, 12, 13, 14, 15, 16, 17, 18, 19, 20, 21, 22, 23, 24, 25, 26, 27] (I36_1 o1 L) (RR36 o1 L) (J36_1 o1 L) t) := by
  unfold F36_1_b at h
  refine Run.seq ?_
  refine Rn.g ?_
  refine Ro.t 3 ?_
  refine Ro.d (mkE [(0, (slv (EI .i64).z (EI .i64).ag (List.length l107) o1)), (1, (i6 y110)), (0, (i6 y111)), (5, (V.bool (decide (y110 < y111))))] 18) ?_
  rcases tf (decide (y110 < y111)) with h148 | h148
  · rw [ite_t h148] at h; refine Rn.t h148 ?_
    refine Run.skip ?_
    refine Rn.c (mkE [(0, (slv (EI .i64).z (EI .i64).ag (List.length l107) o1)), (1, (i6 y110)), (0, (i6 y111))] 24) ?_
    refine Run.seq ?_
    refine Run.block ?_
    refine Run.rgn ?_
    refine Ro.t 6 ?_
    obtain ⟨y149, h150, h⟩ := bind_some h
    obtain ⟨b151, g152, h153, h154⟩ := own_idx (EI .i64) hp 0 rfl h150
    subst h153
    refine Ro.p (h154 .i64) ?_
    refine Ro.p (own_ld (EI .i64) hp 0 rfl h150 (off := 0) (n := none) (v := (i6 y149)) (by kernel_rfl)) ?_
    refine Ro.t 2 ?_
    obtain ⟨y155, h156, h⟩ := bind_some h
    obtain ⟨b157, g158, h159, h160⟩ := own_idx (EI .i64) hp 0 rfl h156
    cases h159
    refine Ro.p (h160 .i64) ?_
    refine Ro.p (own_ld (EI .i64) hp 0 rfl h156 (off := 0) (n := none) (v := (i6 y155)) (by kernel_rfl)) ?_
    obtain ⟨y161, h162, h⟩ := bind_some h
    obtain ⟨b163, g164, h165, h166⟩ := own_idx (EI .i64) hp 0 rfl h162
    cases h165
    refine Ro.p (h166 .i64) ?_
    obtain ⟨y167, h168, h⟩ := bind_some h
    refine RunO.st hp (by kernel_rfl) 0 rfl (by kernel_rfl) (by kernel_rfl) (own_st (EI .i64) (a := y149) h168) ?_
    intro H hp
    have h169 := upd_len h168; rw [← h169]
    obtain ⟨y170, h171, h⟩ := bind_some h
    obtain ⟨b172, g173, h174, h175⟩ := own_idx (EI .i64) hp 0 rfl h171
    cases h174
    refine Ro.p (h175 .i64) ?_
    obtain ⟨y176, h177, h⟩ := bind_some h
    refine RunO.st hp (by kernel_rfl) 0 rfl (by kernel_rfl) (by kernel_rfl) (own_st (EI .i64) (a := y155) h177) ?_
    intro H hp
    have h178 := upd_len h177; rw [← h178]
    refine RunO.nil ?_
    refine Rn.c (mkE [(0, (slv (EI .i64).z (EI .i64).ag (List.length y176) (some (b151, g152)))), (1, (i6 y110)), (0, (i6 y111))] 24) ?_
    refine Run.rgn ?_
    refine Ro.t 6 ?_
    refine RunO.nil ?_
    have h := Option.some.inj h; subst h
    show I36_1 _ L _ _ _
    exact ⟨q109, (by kernel_rfl), hp⟩
  · rw [ite_f h148] at h; refine Rn.f h148 ?_
    refine Run.exit ?_
    have h := Option.some.inj h; subst h
    exact ⟨rfl, q109, trivial, hp⟩

def F36 (x0 : (List Int)) : Option (List Int) :=
  (iter (fun s : ((List Int) × Int × Int) => F36_1_b s.1 s.2.1 s.2.2) FUEL (x0, (0 : Int), (IntKind.i64.wrap (((List.length x0 : Nat) : Int) - (1 : Int))))).bind fun o => match o with
  | .ret r => some r
  | .go (l144) =>
    some l144

theorem w36 {x0 : (List Int)} {r : (List Int)} (h : F36 x0 = some r) {o1 : Option (Nat × Nat)} {q2 : List V} {H : Heap} {L : List Ob} (hp : HP H ((o1, List.flatMap (EI .i64).c x0 ++ q2) :: L)) : Fn T 36 [(slv (EI .i64).z (EI .i64).ag (List.length x0) o1)] H (Q36 o1 L r) := by
  refine Fn.enterE t36 (e0 := (mkE [(0, (slv (EI .i64).z (EI .i64).ag (List.length x0) o1))] 27)) (by kernel_rfl) ?_
  show Run T (.clr [] i36n11) _ _ (finE none [] (Q36 o1 L r))
  refine Rn.k (mkE [(0, (slv (EI .i64).z (EI .i64).ag (List.length x0) o1))] 27) ?_
  unfold F36 at h
  refine Rn.g ?_
  refine Ro.t 1 ?_
  refine Ro.p (own_len (EI .i64) hp 0 rfl) ?_
  refine Ro.t 3 ?_
  refine Ro.d (mkE [(0, (slv (EI .i64).z (EI .i64).ag (List.length x0) o1)), (1, (i6 (0 : Int))), (0, (i6 (IntKind.i64.wrap ((ln x0) - (1 : Int)))))] 24) ?_
  refine Run.block ?_
  obtain ⟨o, h179, h⟩ := bind_some h
  refine (Run.iter (I := I36_1 o1 L) (RR := RR36 o1 L) (J := J36_1 o1 L) (fun s e h' t hI hf => ?_) FUEL h179 (by exact ⟨q2, (by kernel_rfl), hp⟩)).mono ?_
  · obtain ⟨_, rfl, hp⟩ := hI; exact w36_1_b hf hp
  · rintro X e' H hq
    cases o with
    | ret r => cases X <;> first | exact hq.elim | (cases h; exact hq)
    | go l144 => 
      cases X with | nrm => exact hq.elim | ret => exact hq.elim | ext i => ?_
      obtain ⟨rfl, q146, he, hp⟩ := hq
      dsimp only at h
      have h := Option.some.inj h; subst h
      exact ⟨.tup [], (by kernel_rfl), q146, rfl, hp⟩
end Go.Eng.Gra
