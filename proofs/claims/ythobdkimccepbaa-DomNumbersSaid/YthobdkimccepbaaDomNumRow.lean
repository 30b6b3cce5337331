/- The statement of DomNumbers: for every input the law returns true, and its arguments read behind the call as before (no condition). -/
import Derived.Test.YthobdkimccepbaaRows
import Derived.Test.YthobdkimccepbaaDomNumL
import Derived.WalkKit
import Derived.ProofKit
import Derived.OpenShut
import Derived.ShutString
import Derived.ChangeOld
import Derived.Below
import Derived.SizedLaws
import Derived.Carry
import Derived.Deep.CondSized
namespace Go.Proofs.Ythobdkimccepbaa.domNumbers
open Go.ChangeShapes Go.WideShapes Go.ChangeAt Go.RowKit Go.Eng
set_option linter.unusedVariables false
set_option linter.unusedSimpArgs false
theorem own : ownKnob Try.prog.godebug = none := by kernel_rfl
theorem flat : allFlat Try.prog = true := by decide +kernel
theorem laidOut : laidOutB Try.prog = true := by kernel_rfl
set_option maxRecDepth 100000 in
theorem lifted (os : Os) (started : os.Started) (H : Type) (enc : TypeId × Value → H) :
    ReturnsInHanded {} Try.checked os 5 .any (Rows.domNumbersSpec.pre6 enc Try.prog Try.f5 Rows.domNumbersRow.domain false) (Rows.domNumbersSpec.post enc Try.prog Try.f5 false true false false) := by
  refine returnsInHanded_of_change_sized (C := Try.checked) own started (by kernel_rfl) Try.func5
    (ChangeSpec.witness6 (enc := enc) (C := Try.checked) false ⟨#[], #[], []⟩ 8 (by kernel_rfl) (by kernel_rfl) (by kernel_rfl) (by kernel_rfl)) ?_
  intro W base args ds gs before hval0 hW hcnd hsz0 _
  have hval : ∀ (j : Nat) t v, Try.f5.params[j]? = some t → args[j]? = some v → Value.okWide Try.prog W .any base t v := hval0
  have hW' := hW
  obtain ⟨p, q, hA0, hV, rfl, hfz, hnd⟩ := hW
  have hA : DataW.TrodAll enc Try.prog W 0 (fun _ => true) true Try.f5.params.toList args.toList ds p := hA0
  rw [Try.params5] at hA hval hsz0
  obtain ⟨hend, rfl, rfl⟩ := trodAll_nil hA
  obtain rfl : args = #[] := by
    apply Array.ext'
    simp_all
  obtain ⟨rfl, rfl⟩ := trodVars_none hV
  obtain ⟨k, r, H', hk1, hr1⟩ := Go.Eng.Dom.law_DomNumbers 
  refine (law_calls Go.Eng.Dom.T_ok hk1 (W := W) (args := #[]) rfl (fun j c hj => ?_) hr1).mono fun e W' ⟨he, bel⟩ => ?_
  · simp at hj
  subst he
  skip
  exact ⟨_, rfl, _, _, _, [], _, [], hW', trodAll_mk1 (shut_bool Try.underlying4 _), trodAll_mk0, rfl, bel.frame _, fun h => by cases h⟩
theorem over : Rows.domNumbersRow.holds Try.pinned (OpenSpec.ofChange Rows.domNumbersSpec) :=
  OpenClaim.holds_of_wide 5 Try.f5 rfl rfl rfl rfl rfl rfl rfl ⟨rfl, rfl, rfl, rfl, rfl⟩ rfl rfl rfl rfl rfl (by kernel_rfl) Try.func5 (by kernel_rfl)
    (of_decide_eq_true (by kernel_rfl)) (by unfold Func.isWrapper; first | (rw [if_pos (by decide +kernel)]; kernel_rfl) | (rw [if_neg (by decide +kernel)]; exact ⟨rfl, rfl⟩))
    (fun os started H enc _ => lifted os started H enc)
theorem proved : Rows.DomNumbersSaid := over
#print axioms proved
end Go.Proofs.Ythobdkimccepbaa.domNumbers
namespace Go.Proofs.Ythobdkimccepbaa
/-- The row, under a short name, for the claim. -/
theorem domNumbers_holds : Rows.DomNumbersSaid := domNumbers.proved
end Go.Proofs.Ythobdkimccepbaa
