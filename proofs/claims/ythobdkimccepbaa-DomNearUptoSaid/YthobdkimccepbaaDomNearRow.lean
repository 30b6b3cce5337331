/- The statement of DomNear (UptoSaid): for every input within the bound of the statement itself the law returns true, and its arguments read behind the call as before (no condition beyond it). -/
import Derived.Test.YthobdkimccepbaaRows
import Derived.Test.YthobdkimccepbaaDomNearM
import Derived.WalkKit
import Derived.ProofKit
import Derived.OpenShut
import Derived.ShutString
import Derived.ChangeOld
import Derived.Below
import Derived.SizedLaws
import Derived.Carry
import Derived.Deep.CondSized
namespace Go.Proofs.Ythobdkimccepbaa.domNear
open Go.ChangeShapes Go.WideShapes Go.ChangeAt Go.RowKit Go.Eng
set_option linter.unusedVariables false
set_option linter.unusedSimpArgs false
theorem own : ownKnob Try.prog.godebug = none := by kernel_rfl
theorem flat : allFlat Try.prog = true := by decide +kernel
theorem laidOut : laidOutB Try.prog = true := by kernel_rfl
theorem bulk_eq {H : Type} : (∀ d : DataW H, bulkD d ≤ Rows.uptoBulk d) ∧ (∀ l : List (DataW H), bulkDs l ≤ Rows.uptoBulkAll l) := by
  have key : ∀ (n : Nat), (∀ d : DataW H, _root_.SizeOf.sizeOf d ≤ n → bulkD d ≤ Rows.uptoBulk d) ∧ (∀ l : List (DataW H), _root_.SizeOf.sizeOf l ≤ n → bulkDs l ≤ Rows.uptoBulkAll l) := by
    intro n
    induction n with
    | zero =>
      refine ⟨fun d h => ?_, fun l h => ?_⟩
      · cases d <;> simp at h
      · cases l <;> simp at h
    | succ n ih =>
      refine ⟨fun d h => ?_, fun l h => ?_⟩
      · cases d with
        | lit l => cases l <;> simp [bulkD, Rows.uptoBulk]
        | nil => simp [bulkD, Rows.uptoBulk]
        | ptr d => have := ih.1 d (by simp at h; omega); simp only [bulkD, Rows.uptoBulk]; omega
        | slice a b =>
          have h1 := ih.2 a (by simp at h; omega)
          have h2 := ih.2 b (by simp at h; omega)
          simp only [bulkD, Rows.uptoBulk]; omega
        | agg a => have := ih.2 a (by simp at h; omega); simp only [bulkD, Rows.uptoBulk]; omega
        | iface t d => have := ih.1 d (by simp at h; omega); simp only [bulkD, Rows.uptoBulk]; omega
        | map e => simp [bulkD, Rows.uptoBulk]
        | held h => simp [bulkD, Rows.uptoBulk]
      · cases l with
        | nil => simp [bulkDs, Rows.uptoBulkAll]
        | cons d l =>
          have h1 := ih.1 d (by simp at h; omega)
          have h2 := ih.2 l (by simp at h; omega)
          simp only [bulkDs, Rows.uptoBulkAll]; omega
  exact ⟨fun d => (key _).1 d (Nat.le_refl _), fun l => (key _).2 l (Nat.le_refl _)⟩
set_option maxRecDepth 100000 in
theorem lifted (os : Os) (started : os.Started) (H : Type) (enc : TypeId × Value → H) (F : Stop.Interp) :
    ReturnsInHanded {} Try.checked os 7 .any ((Rows.OpenSpec.upto Rows.domNearSpec).pre6 enc Try.prog Try.f7 Rows.domNearUptoRow.domain false) (((Rows.OpenSpec.upto Rows.domNearSpec).at F).post enc Try.prog Try.f7 false true false false) := by
  refine returnsInHanded_of_cond_sized (C := Try.checked) (hk := rfl) own started (by kernel_rfl) Try.func7
    (OpenSpec.witness (enc := enc) (C := Try.checked) (x := ([.nil], [], [])) rfl false ⟨#[], #[.slice none 0 0], []⟩ 8 (by kernel_rfl) (by kernel_rfl) (by kernel_rfl) (by kernel_rfl) (by kernel_rfl) (by kernel_rfl)) ?_
  intro W base args ds gs before hval0 hW hcnd hk hsz0 _
  have hval : ∀ (j : Nat) t v, Try.f7.params[j]? = some t → args[j]? = some v → Value.okWide Try.prog W .any base t v := hval0
  have hW' := hW
  obtain ⟨p, q, hA0, hV, rfl, hfz, hnd⟩ := hW
  have hA : DataW.TrodAll enc Try.prog W 0 (fun _ => true) true Try.f7.params.toList args.toList ds p := hA0
  rw [Try.params7] at hA hval hsz0
  obtain ⟨v0, vs0, d0, ds0, p0, q0, hargs0, rfl, rfl, h0, r0⟩ := trodAll_cons hA
  obtain ⟨hend, rfl, rfl⟩ := trodAll_nil r0
  obtain rfl : args = #[v0] := by
    apply Array.ext'
    simp_all
  obtain ⟨rfl, rfl⟩ := trodVars_none hV
  have hb := Nat.le_trans (bulk_eq.2 _) (of_decide_eq_true hk)
  simp only [bulkDs, List.append_nil, List.cons_append, List.nil_append, Nat.add_zero] at hb
  obtain ⟨n0, u0, x0, g0, w0⟩ := arg_V flat (B := 1048576) (t := 22) (of_decide_eq_true (by kernel_rfl)) (hval 0 22 v0 rfl rfl) h0 (by omega) (fun x hx => by simpa using List.all_eq_true.1 hsz0 x (DataW.weights_mem_each (j := 0) rfl rfl x hx)) (fun h => absurd h (by decide +kernel))
  obtain ⟨k, r, H', hk1, hr1⟩ := Go.Eng.Dom.law_DomNear (by omega) g0 w0
  refine (law_calls Go.Eng.Dom.T_ok hk1 (W := W) (args := #[v0]) rfl (fun j c hj => ?_) hr1).mono fun e W' ⟨he, bel⟩ => ?_
  · match j with
    | 0 => simp at hj; subst hj; exact x0
    | j + 1 => simp at hj
  subst he
  have hlt0 : ∀ x ∈ p0, x.block < W.heap.size := fun x hx => by simpa using hW'.lt x (by simp [hx])
  exact ⟨_, rfl, _, _, _, [], _, [], hW', trodAll_mk1 (shut_bool Try.underlying4 _), (trodAll_cons_mk (Below.trod laidOut (by kernel_rfl) (of_decide_eq_true (by kernel_rfl)) h0 bel (fun x hx => hlt0 x hx)) trodAll_mk0), rfl, bel.frame _, fun h => by cases h⟩
theorem over : Rows.domNearUptoRow.holds Try.pinned (Rows.OpenSpec.upto Rows.domNearSpec) :=
  OpenClaim.holds_of_cond 7 Try.f7 rfl rfl rfl rfl rfl rfl rfl ⟨rfl, rfl, rfl, rfl, rfl⟩ rfl rfl rfl rfl rfl (by kernel_rfl) Try.func7 (by kernel_rfl)
    (of_decide_eq_true (by kernel_rfl)) (by unfold Func.isWrapper; first | (rw [if_pos (by decide +kernel)]; kernel_rfl) | (rw [if_neg (by decide +kernel)]; exact ⟨rfl, rfl⟩))
    (fun os started H enc _ F => lifted os started H enc F)
theorem proved : Rows.DomNearUptoSaid := over
#print axioms proved
end Go.Proofs.Ythobdkimccepbaa.domNear
namespace Go.Proofs.Ythobdkimccepbaa
/-- The row, under a short name, for the claim. -/
theorem domNear_holds : Rows.DomNearUptoSaid := domNear.proved
end Go.Proofs.Ythobdkimccepbaa
