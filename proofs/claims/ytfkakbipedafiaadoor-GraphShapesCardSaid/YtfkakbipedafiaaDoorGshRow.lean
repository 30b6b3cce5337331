/- The tied card of GraphShapes: for every input the law returns true, and its arguments read behind the call as before; the table that it reads is the one of the program's text (no condition). -/
import Derived.Test.YtfkakbipedafiaaDoorCards
import Derived.Test.YtfkakbipedafiaaDoorTie
import Derived.Test.YtfkakbipedafiaaDoorGshLUp
import Derived.Test.YtfkakbipedafiaaDoorEngV
import Derived.WalkKit
import Derived.ProofKit
import Derived.OpenShut
import Derived.ShutString
import Derived.ChangeOld
import Derived.Below
import Derived.SizedLaws
import Derived.Carry
import Derived.Deep.CondSized
import Derived.Deep.DeepHandedRow
import Derived.Lib.LaidTab
namespace Go.Proofs.YtfkakbipedafiaaDoor.graphShapes
open Go.ChangeShapes Go.WideShapes Go.ChangeAt Go.RowKit Go.Eng
set_option linter.unusedVariables false
set_option linter.unusedSimpArgs false
theorem own : ownKnob Tryd.prog.godebug = none := by kernel_rfl
theorem flat : allFlat Tryd.prog = true := by decide +kernel
theorem laidOut : laidOutB Tryd.prog = true := by kernel_rfl
theorem globals {W : World} (h : laidMetH Tryd.prog Rows.graphShapesRow.laid W) : GOk (fun _ => False) W := by
  intro g cs hg;have e : (if g = 0 then some Go.Eng.Gra.GC0 else none) = some cs := hg
  split at e
  case isFalse => cases e
  rename_i hk
  subst hk;cases e;exact laid_fp (n := 8) (name := "smithy/graph.forms") (t := 86) (by kernel_rfl) (by kernel_rfl) (vs := [Value.bool false, Value.bool false, Value.bool false, Value.bool false, Value.int .i64 0, Value.bool true, Value.bool false, Value.bool false, Value.bool false, Value.int .i64 (-1), Value.bool true, Value.bool false, Value.bool true, Value.bool false, Value.int .i64 0, Value.bool true, Value.bool false, Value.bool false, Value.bool false, Value.int .i64 1, Value.bool true, Value.bool true, Value.bool false, Value.bool false, Value.int .i64 (-1), Value.bool true, Value.bool false, Value.bool false, Value.bool false, Value.int .i64 1, Value.bool true, Value.bool false, Value.bool false, Value.bool true, Value.int .i64 1, Value.bool false, Value.bool false, Value.bool false, Value.bool true, Value.int .i64 2, Value.bool false, Value.bool false, Value.bool false, Value.bool true, Value.int .i64 0, Value.bool true, Value.bool false, Value.bool false, Value.bool true, Value.int .i64 (-1), Value.bool false, Value.bool false, Value.bool false, Value.bool false, Value.int .i64 1]) (by kernel_rfl) (by kernel_rfl) h
noncomputable def laidWorld (os : Os) : World :=
  { World.holding Tryd.prog os ⟨#[],#[],[]⟩ with heap := (World.holding Tryd.prog os ⟨#[],#[],[]⟩).heap.modify 0 fun
      | .cells _ t frozen => .cells #[Value.bool false,Value.bool false,Value.bool false,Value.bool false,Value.int .i64 0,Value.bool true,Value.bool false,Value.bool false,Value.bool false,Value.int .i64 (-1),Value.bool true,Value.bool false,Value.bool true,Value.bool false,Value.int .i64 0,Value.bool true,Value.bool false,Value.bool false,Value.bool false,Value.int .i64 1,Value.bool true,Value.bool true,Value.bool false,Value.bool false,Value.int .i64 (-1),Value.bool true,Value.bool false,Value.bool false,Value.bool false,Value.int .i64 1,Value.bool true,Value.bool false,Value.bool false,Value.bool true,Value.int .i64 1,Value.bool false,Value.bool false,Value.bool false,Value.bool true,Value.int .i64 2,Value.bool false,Value.bool false,Value.bool false,Value.bool true,Value.int .i64 0,Value.bool true,Value.bool false,Value.bool false,Value.bool true,Value.int .i64 (-1),Value.bool false,Value.bool false,Value.bool false,Value.bool false,Value.int .i64 1] t frozen
      | o => o }
theorem laid_met (os : Os) : laidMet Tryd.prog Rows.graphShapesRow.laid ((laidWorld os).forCall (fun _ _ => 0) ⟨#[],#[.agg #[.string ⟨#[]⟩,.slice none 0 0,.int .u8 0,.slice none 0 0,.slice none 0 0,.slice none 0 0]],[]⟩).memory :=
  laidMet_of_run' 8 (by kernel_rfl) (by kernel_rfl)
theorem reads (os : Os) {H : Type} (enc : TypeId × Value → H) : ∃ places,DataW.whole enc Tryd.prog ((laidWorld os).forCall (fun _ _ => 0) ⟨#[],#[.agg #[.string ⟨#[]⟩,.slice none 0 0,.int .u8 0,.slice none 0 0,.slice none 0 0,.slice none 0 0]],[]⟩).memory Tryd.f5.params.toList Rows.graphShapesSpec.vars false (#[.agg #[.string ⟨#[]⟩,.slice none 0 0,.int .u8 0,.slice none 0 0,.slice none 0 0,.slice none 0 0]] : Array Value).toList 8 = some ([.agg [.lit (.string []),.nil,.lit (.int .u8 0),.nil,.nil,.nil]],[],places) :=
  ⟨[],by kernel_rfl⟩
set_option maxRecDepth 100000 in
theorem lifted (os : Os) (started : os.Started) (H : Type) (enc : TypeId × Value → H) (F : Stop.Interp) :
    ReturnsInHanded {} Tryd.checked os 5 .any ((OpenSpec.ofChange Rows.graphShapesSpec).preRow enc Tryd.prog Tryd.f5 Rows.graphShapesRow.domain false Rows.graphShapesRow.laid) (((OpenSpec.ofChange Rows.graphShapesSpec).at F).post enc Tryd.prog Tryd.f5 false true false false) := by
  obtain ⟨places,hx⟩ := reads os enc;refine returnsInHanded_of_row (C := Tryd.checked) (s := OpenSpec.ofChange Rows.graphShapesSpec) own started (by kernel_rfl) Tryd.func5
    (witness_row_at (enc := enc) (C := Tryd.checked) false (laidWorld os) #[.agg #[.string ⟨#[]⟩,.slice none 0 0,.int .u8 0,.slice none 0 0,.slice none 0 0,.slice none 0 0]] rfl (by kernel_rfl) (by kernel_rfl) (by kernel_rfl)
      (OpenSpec.preRow_of_cond 8 hx (by kernel_rfl) (fun k hk => by cases hk) (by kernel_rfl) (laid_met os))) ?_
  intro W base args ds gs before hval0 hW hcnd hk hsz0 hL _ _;have hval : ∀ (j : Nat) t v,Tryd.f5.params[j]? = some t → args[j]? = some v → Value.okWide Tryd.prog W .any base t v := hval0;have hW' := hW;obtain ⟨p,q,hA0,hV,rfl,hfz,hnd⟩ := hW;have hA : DataW.TrodAll enc Tryd.prog W 0 (fun _ => true) true Tryd.f5.params.toList args.toList ds p := hA0;rw [Tryd.params5] at hA hval hsz0;obtain ⟨v0,vs0,d0,ds0,p0,q0,hargs0,rfl,rfl,h0,r0⟩ := trodAll_cons hA;obtain ⟨hend,rfl,rfl⟩ := trodAll_nil r0;obtain rfl : args = #[v0] := by
    apply Array.ext'
    simp_all
  obtain ⟨rfl,rfl⟩ := trodVars_none hV;obtain ⟨n0,u0,x0,g0,w0⟩ := arg_V flat  (t := 34) (of_decide_eq_true (by kernel_rfl)) (hval 0 34 v0 rfl rfl) h0 (Nat.le_refl _) (fun x hx => by simpa using List.all_eq_true.1 hsz0 x (DataW.weights_mem_each (j := 0) rfl rfl x hx)) (fun _ => ⟨_,Tryd.underlying34⟩);obtain ⟨k,r,H',hk1,hr1⟩ := Go.Eng.Gra.law_GraphShapes g0 w0;refine (law_calls Go.Eng.Gra.T_ok hk1 (W := W) (args := #[v0]) rfl (fun j c hj => ?_) hr1 (globals hL)).mono fun e W' ⟨he,bel⟩ => ?_
  · match j with
    | 0 => simp at hj; subst hj; exact x0
    | j + 1 => simp at hj
  subst he;have hlt0 : ∀ x ∈ p0,x.block < W.heap.size := fun x hx => by simpa using hW'.lt x (by simp [hx])
  exact ⟨_,rfl,_,_,_,[],_,[],hW',trodAll_mk1 (shut_bool Tryd.underlying4 _),(trodAll_cons_mk (Below.trod laidOut (by kernel_rfl) (of_decide_eq_true (by kernel_rfl)) h0 bel (fun x hx => hlt0 x hx)) trodAll_mk0),rfl,bel.frame _,fun h => by cases h⟩
theorem said : Rows.graphShapesRow.holds Tryd.pinned (OpenSpec.ofChange Rows.graphShapesSpec) :=
  OpenClaim.holds_of_cond 5 Tryd.f5 rfl rfl rfl rfl rfl rfl rfl ⟨rfl,rfl,rfl,rfl,rfl⟩ rfl rfl rfl rfl rfl (by kernel_rfl) Tryd.func5 (by kernel_rfl)
    (of_decide_eq_true (by kernel_rfl)) (by unfold Func.isWrapper; first | (rw [if_pos (by decide +kernel)]; kernel_rfl) | (rw [if_neg (by decide +kernel)]; exact ⟨rfl,rfl⟩))
    (fun os started H enc _ F => by rw [OpenClaim.pre_eq_preRow]; exact lifted os started H enc F)
theorem plain (f : FuncId) (fn : Func) (hf : Tryd.pinned.checked.prog.funcNamed "smithy/smithylaw07.GraphShapes" = some f) (hfn : Tryd.pinned.checked.prog.funcs[f]? = some fn) :
    false = Tryd.pinned.checked.prog.looks [] ∧ ∀ (j : Nat) t,fn.params[j]? = some t → Tryd.pinned.checked.prog.wantsStandIn t = false := by
  obtain rfl : f = 5 := Option.some.inj ((show Tryd.prog.funcNamed "smithy/smithylaw07.GraphShapes" = some 5 by kernel_rfl).symm.trans hf) |>.symm;obtain rfl : fn = Tryd.f5 := (Option.some.inj (Tryd.func5.symm.trans hfn)).symm;refine ⟨by kernel_rfl,fun j t ht => ?_⟩;rw [Tryd.params5] at ht;have hm : ∀ t ∈ [34],Tryd.prog.wantsStandIn t = false := by intro t ht; simp at ht; rcases ht with rfl <;> kernel_rfl
  exact hm t (by have := Array.mem_of_getElem? ht; simpa using this)
theorem proved : Rows.GraphShapesCardSaid :=
  Claim7.holds_tied_plain_at .later [] _ _ _ _ said (fun _ h => by cases h) (by kernel_rfl) (fun _ h => by cases h) graphShapes_row_tie rfl ⟨rfl,rfl⟩ (by kernel_rfl) rfl plain (by kernel_rfl)
#print axioms proved
end Go.Proofs.YtfkakbipedafiaaDoor.graphShapes
namespace Go.Proofs.YtfkakbipedafiaaDoor
theorem graphShapes_holds : Rows.GraphShapesCardSaid := graphShapes.proved
end Go.Proofs.YtfkakbipedafiaaDoor
