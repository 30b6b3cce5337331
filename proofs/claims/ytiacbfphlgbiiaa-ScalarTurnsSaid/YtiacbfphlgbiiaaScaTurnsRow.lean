/- The statement of ScalarTurns: for every input the law returns true, and its arguments read behind the call as before (no condition). -/
import Derived.Test.YtiacbfphlgbiiaaRows
import Derived.Test.YtiacbfphlgbiiaaScaTurnsL
import Derived.WalkKit
import Derived.ProofKit
import Derived.OpenShut
import Derived.ShutString
import Derived.ChangeOld
import Derived.Below
import Derived.SizedLaws
import Derived.Carry
import Derived.Deep.CondSized
namespace Go.Proofs.Ytiacbfphlgbiiaa.scalarTurns
open Go.ChangeShapes Go.WideShapes Go.ChangeAt Go.RowKit Go.Eng
set_option linter.unusedVariables false
set_option linter.unusedSimpArgs false
theorem own : ownKnob Try.prog.godebug = none := by kernel_rfl
theorem flat : allFlat Try.prog = true := by decide +kernel
theorem laidOut : laidOutB Try.prog = true := by kernel_rfl
set_option maxRecDepth 100000 in
theorem lifted (os : Os) (started : os.Started) (H : Type) (enc : TypeId × Value → H) :
    ReturnsInHanded {} Try.checked os 9 .any (Rows.scalarTurnsSpec.pre6 enc Try.prog Try.f9 Rows.scalarTurnsRow.domain false) (Rows.scalarTurnsSpec.post enc Try.prog Try.f9 false true false false) := by
  refine returnsInHanded_of_change_sized (C := Try.checked) own started (by kernel_rfl) Try.func9
    (ChangeSpec.witness6 (enc := enc) (C := Try.checked) false ⟨#[], #[.int .u8 0, .int .u8 0, .int .u64 0], []⟩ 8 (by kernel_rfl) (by kernel_rfl) (by kernel_rfl) (by kernel_rfl)) ?_
  intro W base args ds gs before hval0 hW hcnd hsz0 _
  have hval : ∀ (j : Nat) t v, Try.f9.params[j]? = some t → args[j]? = some v → Value.okWide Try.prog W .any base t v := hval0
  have hW' := hW
  obtain ⟨p, q, hA0, hV, rfl, hfz, hnd⟩ := hW
  have hA : DataW.TrodAll enc Try.prog W 0 (fun _ => true) true Try.f9.params.toList args.toList ds p := hA0
  rw [Try.params9] at hA hval hsz0
  obtain ⟨v0, vs0, d0, ds0, p0, q0, hargs0, rfl, rfl, h0, r0⟩ := trodAll_cons hA
  obtain ⟨v1, vs1, d1, ds1, p1, q1, hargs1, rfl, rfl, h1, r1⟩ := trodAll_cons r0
  obtain ⟨v2, vs2, d2, ds2, p2, q2, hargs2, rfl, rfl, h2, r2⟩ := trodAll_cons r1
  obtain ⟨hend, rfl, rfl⟩ := trodAll_nil r2
  obtain rfl : args = #[v0, v1, v2] := by
    apply Array.ext'
    simp_all
  obtain ⟨rfl, rfl⟩ := trodVars_none hV
  obtain ⟨n0, u0, x0, g0, w0⟩ := arg_V flat  (t := 22) (of_decide_eq_true (by kernel_rfl)) (hval 0 22 v0 rfl rfl) h0 (Nat.le_refl _) (fun x hx => by simpa using List.all_eq_true.1 hsz0 x (DataW.weights_mem_each (j := 0) rfl rfl x hx)) (fun h => absurd h (by decide +kernel))
  obtain ⟨n1, u1, x1, g1, w1⟩ := arg_V flat  (t := 22) (of_decide_eq_true (by kernel_rfl)) (hval 1 22 v1 rfl rfl) h1 (Nat.le_refl _) (fun x hx => by simpa using List.all_eq_true.1 hsz0 x (DataW.weights_mem_each (j := 1) rfl rfl x hx)) (fun h => absurd h (by decide +kernel))
  obtain ⟨n2, u2, x2, g2, w2⟩ := arg_V flat  (t := 23) (of_decide_eq_true (by kernel_rfl)) (hval 2 23 v2 rfl rfl) h2 (Nat.le_refl _) (fun x hx => by simpa using List.all_eq_true.1 hsz0 x (DataW.weights_mem_each (j := 2) rfl rfl x hx)) (fun h => absurd h (by decide +kernel))
  obtain ⟨k, r, H', hk1, hr1⟩ := Go.Eng.Sca.law_ScalarTurns g0 w0 g1 w1 g2 w2
  refine (law_calls Go.Eng.Sca.T_ok hk1 (W := W) (args := #[v0, v1, v2]) rfl (fun j c hj => ?_) hr1).mono fun e W' ⟨he, bel⟩ => ?_
  · match j with
    | 0 => simp at hj; subst hj; exact x0
    | 1 => simp at hj; subst hj; exact x1
    | 2 => simp at hj; subst hj; exact x2
    | j + 3 => simp at hj
  subst he
  have hlt0 : ∀ x ∈ p0, x.block < W.heap.size := fun x hx => by simpa using hW'.lt x (by simp [hx])
  have hlt1 : ∀ x ∈ p1, x.block < W.heap.size := fun x hx => by simpa using hW'.lt x (by simp [hx])
  have hlt2 : ∀ x ∈ p2, x.block < W.heap.size := fun x hx => by simpa using hW'.lt x (by simp [hx])
  exact ⟨_, rfl, _, _, _, [], _, [], hW', trodAll_mk1 (shut_bool Try.underlying4 _), (trodAll_cons_mk (Below.trod laidOut (by kernel_rfl) (of_decide_eq_true (by kernel_rfl)) h0 bel (fun x hx => hlt0 x hx)) (trodAll_cons_mk (Below.trod laidOut (by kernel_rfl) (of_decide_eq_true (by kernel_rfl)) h1 bel (fun x hx => hlt1 x hx)) (trodAll_cons_mk (Below.trod laidOut (by kernel_rfl) (of_decide_eq_true (by kernel_rfl)) h2 bel (fun x hx => hlt2 x hx)) trodAll_mk0))), rfl, bel.frame _, fun h => by cases h⟩
theorem over : Rows.scalarTurnsRow.holds Try.pinned (OpenSpec.ofChange Rows.scalarTurnsSpec) :=
  OpenClaim.holds_of_wide 9 Try.f9 rfl rfl rfl rfl rfl rfl rfl ⟨rfl, rfl, rfl, rfl, rfl⟩ rfl rfl rfl rfl rfl (by kernel_rfl) Try.func9 (by kernel_rfl)
    (of_decide_eq_true (by kernel_rfl)) (by unfold Func.isWrapper; first | (rw [if_pos (by decide +kernel)]; kernel_rfl) | (rw [if_neg (by decide +kernel)]; exact ⟨rfl, rfl⟩))
    (fun os started H enc _ => lifted os started H enc)
theorem proved : Rows.ScalarTurnsSaid := over
#print axioms proved
end Go.Proofs.Ytiacbfphlgbiiaa.scalarTurns
namespace Go.Proofs.Ytiacbfphlgbiiaa
/-- The row, under a short name, for the claim. -/
theorem scalarTurns_holds : Rows.ScalarTurnsSaid := scalarTurns.proved
end Go.Proofs.Ytiacbfphlgbiiaa
