/- The statement of TokenLong: for every input the law returns true, and its arguments read behind the call as before (no condition). -/
import Derived.Test.YtimnlnkjogbjfaaRows
import Derived.Test.YtimnlnkjogbjfaaTokLongM
import Derived.WalkKit
import Derived.ProofKit
import Derived.OpenShut
import Derived.ShutString
import Derived.ChangeOld
import Derived.Below
import Derived.SizedLaws
import Derived.Carry
import Derived.Deep.CondSized
namespace Go.Proofs.Ytimnlnkjogbjfaa.tokenLong
open Go.ChangeShapes Go.WideShapes Go.ChangeAt Go.RowKit Go.Eng
set_option linter.unusedVariables false
set_option linter.unusedSimpArgs false
theorem own : ownKnob Try.prog.godebug = none := by kernel_rfl
theorem flat : allFlat Try.prog = true := by decide +kernel
theorem laidOut : laidOutB Try.prog = true := by kernel_rfl
set_option maxRecDepth 100000 in
theorem lifted (os : Os) (started : os.Started) (H : Type) (enc : TypeId × Value → H) :
    ReturnsInHanded {} Try.checked os 5 .any (Rows.tokenLongSpec.pre6 enc Try.prog Try.f5 Rows.tokenLongRow.domain false) (Rows.tokenLongSpec.post enc Try.prog Try.f5 false true false false) := by
  refine returnsInHanded_of_change_sized (C := Try.checked) own started (by kernel_rfl) Try.func5
    (ChangeSpec.witness6 (enc := enc) (C := Try.checked) false ⟨#[], #[.int .i64 0, .int .u8 0], []⟩ 8 (by kernel_rfl) (by kernel_rfl) (by kernel_rfl) (by kernel_rfl)) ?_
  intro W base args ds gs before hval0 hW hcnd hsz0 _
  have hval : ∀ (j : Nat) t v, Try.f5.params[j]? = some t → args[j]? = some v → Value.okWide Try.prog W .any base t v := hval0
  have hW' := hW
  obtain ⟨p, q, hA0, hV, rfl, hfz, hnd⟩ := hW
  have hA : DataW.TrodAll enc Try.prog W 0 (fun _ => true) true Try.f5.params.toList args.toList ds p := hA0
  rw [Try.params5] at hA hval hsz0
  obtain ⟨v0, vs0, d0, ds0, p0, q0, hargs0, rfl, rfl, h0, r0⟩ := trodAll_cons hA
  obtain ⟨v1, vs1, d1, ds1, p1, q1, hargs1, rfl, rfl, h1, r1⟩ := trodAll_cons r0
  obtain ⟨hend, rfl, rfl⟩ := trodAll_nil r1
  obtain rfl : args = #[v0, v1] := by
    apply Array.ext'
    simp_all
  obtain ⟨rfl, rfl⟩ := trodVars_none hV
  obtain ⟨n0, u0, x0, g0, w0⟩ := arg_V flat  (t := 3) (of_decide_eq_true (by kernel_rfl)) (hval 0 3 v0 rfl rfl) h0 (Nat.le_refl _) (fun x hx => by simpa using List.all_eq_true.1 hsz0 x (DataW.weights_mem_each (j := 0) rfl rfl x hx)) (fun h => absurd h (by decide +kernel))
  obtain ⟨n1, u1, x1, g1, w1⟩ := arg_V flat  (t := 5) (of_decide_eq_true (by kernel_rfl)) (hval 1 5 v1 rfl rfl) h1 (Nat.le_refl _) (fun x hx => by simpa using List.all_eq_true.1 hsz0 x (DataW.weights_mem_each (j := 1) rfl rfl x hx)) (fun h => absurd h (by decide +kernel))
  obtain ⟨k, r, H', hk1, hr1⟩ := Go.Eng.Tok.law_TokenLong g0 w0 g1 w1
  refine (law_calls Go.Eng.Tok.T_ok hk1 (W := W) (args := #[v0, v1]) rfl (fun j c hj => ?_) hr1).mono fun e W' ⟨he, bel⟩ => ?_
  · match j with
    | 0 => simp at hj; subst hj; exact x0
    | 1 => simp at hj; subst hj; exact x1
    | j + 2 => simp at hj
  subst he
  have hlt0 : ∀ x ∈ p0, x.block < W.heap.size := fun x hx => by simpa using hW'.lt x (by simp [hx])
  have hlt1 : ∀ x ∈ p1, x.block < W.heap.size := fun x hx => by simpa using hW'.lt x (by simp [hx])
  exact ⟨_, rfl, _, _, _, [], _, [], hW', trodAll_mk1 (shut_bool Try.underlying4 _), (trodAll_cons_mk (Below.trod laidOut (by kernel_rfl) (of_decide_eq_true (by kernel_rfl)) h0 bel (fun x hx => hlt0 x hx)) (trodAll_cons_mk (Below.trod laidOut (by kernel_rfl) (of_decide_eq_true (by kernel_rfl)) h1 bel (fun x hx => hlt1 x hx)) trodAll_mk0)), rfl, bel.frame _, fun h => by cases h⟩
theorem over : Rows.tokenLongRow.holds Try.pinned (OpenSpec.ofChange Rows.tokenLongSpec) :=
  OpenClaim.holds_of_wide 5 Try.f5 rfl rfl rfl rfl rfl rfl rfl ⟨rfl, rfl, rfl, rfl, rfl⟩ rfl rfl rfl rfl rfl (by kernel_rfl) Try.func5 (by kernel_rfl)
    (of_decide_eq_true (by kernel_rfl)) (by unfold Func.isWrapper; first | (rw [if_pos (by decide +kernel)]; kernel_rfl) | (rw [if_neg (by decide +kernel)]; exact ⟨rfl, rfl⟩))
    (fun os started H enc _ => lifted os started H enc)
theorem proved : Rows.TokenLongSaid := over
#print axioms proved
end Go.Proofs.Ytimnlnkjogbjfaa.tokenLong
namespace Go.Proofs.Ytimnlnkjogbjfaa
/-- The row, under a short name, for the claim. -/
theorem tokenLong_holds : Rows.TokenLongSaid := tokenLong.proved
end Go.Proofs.Ytimnlnkjogbjfaa
