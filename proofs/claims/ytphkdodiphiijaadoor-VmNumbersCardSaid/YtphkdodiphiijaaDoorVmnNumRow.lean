/- The tied card of VmNumbers: for every input the law returns true, and its arguments read behind the call as before; the table that it reads is the one of the program's text (no condition). -/
import Derived.Test.YtphkdodiphiijaaDoorCards
import Derived.Test.YtphkdodiphiijaaDoorTie
import Derived.Test.YtphkdodiphiijaaDoorVmnNumM
import Derived.Test.YtphkdodiphiijaaDoorEngV
import Derived.WalkKit
import Derived.ProofKit
import Derived.OpenShut
import Derived.ShutString
import Derived.ChangeOld
import Derived.Below
import Derived.SizedLaws
import Derived.Carry
import Derived.Deep.CondSized
import Derived.Deep.DeepHandedRow
import Derived.Lib.LaidTab
namespace Go.Proofs.YtphkdodiphiijaaDoor.vmNumbers
open Go.ChangeShapes Go.WideShapes Go.ChangeAt Go.RowKit Go.Eng
set_option linter.unusedVariables false
set_option linter.unusedSimpArgs false
theorem own : ownKnob Tryd.prog.godebug = none := by kernel_rfl
theorem flat : allFlat Tryd.prog = true := by decide +kernel
theorem laidOut : laidOutB Tryd.prog = true := by kernel_rfl
/-- what the row lays, as the small machine has it -/
theorem globals {W : World} (h : laidMetH Tryd.prog Rows.vmNumbersRow.laid W) : GOk (fun _ => False) W := by
  intro g cs hg
  have e : (if g = 0 then some Go.Eng.Vmn.GC0 else none) = some cs := hg
  split at e
  case isFalse => cases e
  rename_i hk
  subst hk
  cases e
  exact laid_fp (n := 8) (name := "smithy/code.forms") (t := 89) (by kernel_rfl) (by kernel_rfl) (vs := [Value.int .u8 0, Value.int .u8 0, Value.int .u8 0, Value.bool false, Value.bool false, Value.bool false, Value.bool false, Value.bool false, Value.bool false, Value.int .u8 1, Value.int .u8 0, Value.int .u8 0, Value.bool false, Value.bool false, Value.bool false, Value.bool false, Value.bool true, Value.bool false, Value.int .u8 1, Value.int .u8 1, Value.int .u8 0, Value.bool false, Value.bool false, Value.bool false, Value.bool false, Value.bool false, Value.bool false, Value.int .u8 1, Value.int .u8 1, Value.int .u8 7, Value.bool true, Value.bool true, Value.bool false, Value.bool false, Value.bool false, Value.bool false, Value.int .u8 1, Value.int .u8 1, Value.int .u8 0, Value.bool false, Value.bool true, Value.bool true, Value.bool false, Value.bool false, Value.bool false, Value.int .u8 1, Value.int .u8 2, Value.int .u8 0, Value.bool false, Value.bool false, Value.bool false, Value.bool false, Value.bool false, Value.bool false, Value.int .u8 2, Value.int .u8 1, Value.int .u8 0, Value.bool false, Value.bool false, Value.bool false, Value.bool false, Value.bool false, Value.bool false, Value.int .u8 1, Value.int .u8 1, Value.int .u8 0, Value.bool false, Value.bool false, Value.bool false, Value.bool false, Value.bool false, Value.bool true, Value.int .u8 1, Value.int .u8 1, Value.int .u8 0, Value.bool false, Value.bool false, Value.bool false, Value.bool false, Value.bool false, Value.bool true, Value.int .u8 0, Value.int .u8 0, Value.int .u8 0, Value.bool false, Value.bool false, Value.bool false, Value.bool false, Value.bool false, Value.bool true, Value.int .u8 1, Value.int .u8 4, Value.int .u8 0, Value.bool false, Value.bool false, Value.bool false, Value.bool false, Value.bool false, Value.bool false, Value.int .u8 5, Value.int .u8 1, Value.int .u8 0, Value.bool false, Value.bool false, Value.bool false, Value.bool false, Value.bool false, Value.bool false, Value.int .u8 6, Value.int .u8 0, Value.int .u8 0, Value.bool false, Value.bool false, Value.bool false, Value.bool false, Value.bool false, Value.bool false, Value.int .u8 1, Value.int .u8 0, Value.int .u8 0, Value.bool false, Value.bool true, Value.bool false, Value.bool false, Value.bool false, Value.bool false, Value.int .u8 3, Value.int .u8 0, Value.int .u8 0, Value.bool false, Value.bool false, Value.bool false, Value.bool false, Value.bool false, Value.bool false, Value.int .u8 1, Value.int .u8 3, Value.int .u8 3, Value.bool false, Value.bool false, Value.bool false, Value.bool false, Value.bool false, Value.bool false, Value.int .u8 1, Value.int .u8 0, Value.int .u8 0, Value.bool false, Value.bool false, Value.bool false, Value.bool false, Value.bool false, Value.bool false, Value.int .u8 0, Value.int .u8 0, Value.int .u8 0, Value.bool false, Value.bool false, Value.bool false, Value.bool true, Value.bool false, Value.bool false]) (by kernel_rfl) (by kernel_rfl) h
/-- A world for the witness: the settled one, the table holding what its initialiser lays. -/
noncomputable def laidWorld (os : Os) : World :=
  { World.holding Tryd.prog os ⟨#[], #[], []⟩ with heap := (World.holding Tryd.prog os ⟨#[], #[], []⟩).heap.modify 0 fun
      | .cells _ t frozen => .cells #[Value.int .u8 0, Value.int .u8 0, Value.int .u8 0, Value.bool false, Value.bool false, Value.bool false, Value.bool false, Value.bool false, Value.bool false, Value.int .u8 1, Value.int .u8 0, Value.int .u8 0, Value.bool false, Value.bool false, Value.bool false, Value.bool false, Value.bool true, Value.bool false, Value.int .u8 1, Value.int .u8 1, Value.int .u8 0, Value.bool false, Value.bool false, Value.bool false, Value.bool false, Value.bool false, Value.bool false, Value.int .u8 1, Value.int .u8 1, Value.int .u8 7, Value.bool true, Value.bool true, Value.bool false, Value.bool false, Value.bool false, Value.bool false, Value.int .u8 1, Value.int .u8 1, Value.int .u8 0, Value.bool false, Value.bool true, Value.bool true, Value.bool false, Value.bool false, Value.bool false, Value.int .u8 1, Value.int .u8 2, Value.int .u8 0, Value.bool false, Value.bool false, Value.bool false, Value.bool false, Value.bool false, Value.bool false, Value.int .u8 2, Value.int .u8 1, Value.int .u8 0, Value.bool false, Value.bool false, Value.bool false, Value.bool false, Value.bool false, Value.bool false, Value.int .u8 1, Value.int .u8 1, Value.int .u8 0, Value.bool false, Value.bool false, Value.bool false, Value.bool false, Value.bool false, Value.bool true, Value.int .u8 1, Value.int .u8 1, Value.int .u8 0, Value.bool false, Value.bool false, Value.bool false, Value.bool false, Value.bool false, Value.bool true, Value.int .u8 0, Value.int .u8 0, Value.int .u8 0, Value.bool false, Value.bool false, Value.bool false, Value.bool false, Value.bool false, Value.bool true, Value.int .u8 1, Value.int .u8 4, Value.int .u8 0, Value.bool false, Value.bool false, Value.bool false, Value.bool false, Value.bool false, Value.bool false, Value.int .u8 5, Value.int .u8 1, Value.int .u8 0, Value.bool false, Value.bool false, Value.bool false, Value.bool false, Value.bool false, Value.bool false, Value.int .u8 6, Value.int .u8 0, Value.int .u8 0, Value.bool false, Value.bool false, Value.bool false, Value.bool false, Value.bool false, Value.bool false, Value.int .u8 1, Value.int .u8 0, Value.int .u8 0, Value.bool false, Value.bool true, Value.bool false, Value.bool false, Value.bool false, Value.bool false, Value.int .u8 3, Value.int .u8 0, Value.int .u8 0, Value.bool false, Value.bool false, Value.bool false, Value.bool false, Value.bool false, Value.bool false, Value.int .u8 1, Value.int .u8 3, Value.int .u8 3, Value.bool false, Value.bool false, Value.bool false, Value.bool false, Value.bool false, Value.bool false, Value.int .u8 1, Value.int .u8 0, Value.int .u8 0, Value.bool false, Value.bool false, Value.bool false, Value.bool false, Value.bool false, Value.bool false, Value.int .u8 0, Value.int .u8 0, Value.int .u8 0, Value.bool false, Value.bool false, Value.bool false, Value.bool true, Value.bool false, Value.bool false] t frozen
      | o => o }
theorem laid_met (os : Os) : laidMet Tryd.prog Rows.vmNumbersRow.laid ((laidWorld os).forCall (fun _ _ => 0) ⟨#[], #[], []⟩).memory :=
  laidMet_of_run' 8 (by kernel_rfl) (by kernel_rfl)
theorem reads (os : Os) {H : Type} (enc : TypeId × Value → H) : ∃ places, DataW.whole enc Tryd.prog ((laidWorld os).forCall (fun _ _ => 0) ⟨#[], #[], []⟩).memory Tryd.f3.params.toList Rows.vmNumbersSpec.vars false (#[] : Array Value).toList 8 = some ([], [], places) :=
  ⟨[], by kernel_rfl⟩
set_option maxRecDepth 100000 in
theorem lifted (os : Os) (started : os.Started) (H : Type) (enc : TypeId × Value → H) (F : Stop.Interp) :
    ReturnsInHanded {} Tryd.checked os 3 .any ((OpenSpec.ofChange Rows.vmNumbersSpec).preRow enc Tryd.prog Tryd.f3 Rows.vmNumbersRow.domain false Rows.vmNumbersRow.laid) (((OpenSpec.ofChange Rows.vmNumbersSpec).at F).post enc Tryd.prog Tryd.f3 false true false false) := by
  obtain ⟨places, hx⟩ := reads os enc
  refine returnsInHanded_of_row (C := Tryd.checked) (s := OpenSpec.ofChange Rows.vmNumbersSpec) own started (by kernel_rfl) Tryd.func3
    (witness_row_at (enc := enc) (C := Tryd.checked) false (laidWorld os) #[] rfl (by kernel_rfl) (by kernel_rfl) (by kernel_rfl)
      (OpenSpec.preRow_of_cond 8 hx (by kernel_rfl) (fun k hk => by cases hk) (by kernel_rfl) (laid_met os))) ?_
  intro W base args ds gs before hval0 hW hcnd hk hsz0 hL _ _
  have hval : ∀ (j : Nat) t v, Tryd.f3.params[j]? = some t → args[j]? = some v → Value.okWide Tryd.prog W .any base t v := hval0
  have hW' := hW
  obtain ⟨p, q, hA0, hV, rfl, hfz, hnd⟩ := hW
  have hA : DataW.TrodAll enc Tryd.prog W 0 (fun _ => true) true Tryd.f3.params.toList args.toList ds p := hA0
  rw [Tryd.params3] at hA hval hsz0
  obtain ⟨hend, rfl, rfl⟩ := trodAll_nil hA
  obtain rfl : args = #[] := by
    apply Array.ext'
    simp_all
  obtain ⟨rfl, rfl⟩ := trodVars_none hV
  obtain ⟨k, r, H', hk1, hr1⟩ := Go.Eng.Vmn.law_VmNumbers 
  refine (law_calls Go.Eng.Vmn.T_ok hk1 (W := W) (args := #[]) rfl (fun j c hj => ?_) hr1 (globals hL)).mono fun e W' ⟨he, bel⟩ => ?_
  · simp at hj
  subst he
  skip
  exact ⟨_, rfl, _, _, _, [], _, [], hW', trodAll_mk1 (shut_bool Tryd.underlying4 _), trodAll_mk0, rfl, bel.frame _, fun h => by cases h⟩
theorem said : Rows.vmNumbersRow.holds Tryd.pinned (OpenSpec.ofChange Rows.vmNumbersSpec) :=
  OpenClaim.holds_of_cond 3 Tryd.f3 rfl rfl rfl rfl rfl rfl rfl ⟨rfl, rfl, rfl, rfl, rfl⟩ rfl rfl rfl rfl rfl (by kernel_rfl) Tryd.func3 (by kernel_rfl)
    (of_decide_eq_true (by kernel_rfl)) (by unfold Func.isWrapper; first | (rw [if_pos (by decide +kernel)]; kernel_rfl) | (rw [if_neg (by decide +kernel)]; exact ⟨rfl, rfl⟩))
    (fun os started H enc _ F => by rw [OpenClaim.pre_eq_preRow]; exact lifted os started H enc F)
/-- No parameter wants a stand-in; the program's own looks are off: what the card asks. -/
theorem plain (f : FuncId) (fn : Func) (hf : Tryd.pinned.checked.prog.funcNamed "smithy/smithylaw29.VmNumbers" = some f) (hfn : Tryd.pinned.checked.prog.funcs[f]? = some fn) :
    false = Tryd.pinned.checked.prog.looks [] ∧ ∀ (j : Nat) t, fn.params[j]? = some t → Tryd.pinned.checked.prog.wantsStandIn t = false := by
  obtain rfl : f = 3 := Option.some.inj ((show Tryd.prog.funcNamed "smithy/smithylaw29.VmNumbers" = some 3 by kernel_rfl).symm.trans hf) |>.symm
  obtain rfl : fn = Tryd.f3 := (Option.some.inj (Tryd.func3.symm.trans hfn)).symm
  refine ⟨by kernel_rfl, fun j t ht => ?_⟩
  rw [Tryd.params3] at ht
  have hm : ∀ t ∈ [], Tryd.prog.wantsStandIn t = false := by intro t ht; simp at ht; 
  exact hm t (by have := Array.mem_of_getElem? ht; simp at this)
theorem proved : Rows.VmNumbersCardSaid :=
  Claim7.holds_tied_plain_at .later [] _ _ _ _ said (fun _ h => by cases h) (by kernel_rfl) (fun _ h => by cases h) vmNumbers_row_tie rfl ⟨rfl, rfl⟩ (by kernel_rfl) rfl plain (by kernel_rfl)
#print axioms proved
end Go.Proofs.YtphkdodiphiijaaDoor.vmNumbers
namespace Go.Proofs.YtphkdodiphiijaaDoor
/-- The card, under a short name, for the claim. -/
theorem vmNumbers_holds : Rows.VmNumbersCardSaid := vmNumbers.proved
end Go.Proofs.YtphkdodiphiijaaDoor
