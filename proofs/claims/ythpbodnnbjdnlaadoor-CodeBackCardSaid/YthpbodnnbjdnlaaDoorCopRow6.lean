/- The tied card of CodeBack: for every input the law returns true, and its arguments read behind the call as before; the table that it reads is the one of the program's text (no condition). -/
import Derived.Test.YthpbodnnbjdnlaaDoorCards
import Derived.Test.YthpbodnnbjdnlaaDoorTie
import Derived.Test.YthpbodnnbjdnlaaDoorEngRUp
import Derived.WalkKit
import Derived.ProofKit
import Derived.OpenShut
import Derived.ShutString
import Derived.ChangeOld
import Derived.Below
import Derived.SizedLaws
import Derived.Carry
import Derived.Deep.CondSized
import Derived.Deep.DeepHandedRow
import Derived.Lib.LaidTab
set_option linter.unusedSectionVars false
namespace Go.Proofs.YthpbodnnbjdnlaaDoor.codeBack
open Go.ChangeShapes Go.WideShapes Go.ChangeAt Go.RowKit Go.Eng
set_option linter.unusedSectionVars false
set_option linter.unusedVariables false
set_option linter.unusedSimpArgs false
theorem own : ownKnob Tryd.prog.godebug = none := by kernel_rfl
theorem flat : allFlat Tryd.prog = true := by decide +kernel
theorem laidOut : laidOutB Tryd.prog = true := by kernel_rfl
theorem globals {W : World} (h : laidMetH Tryd.prog Rows.codeBackRow.laid W) : GOk (fun _ => False) W := by
  intro g cs hg;have e : (if g = 0 then some Go.Eng.Cop.GC0 else none) = some cs := hg
  split at e
  case isFalse => cases e
  rename_i hk
  subst hk;cases e;exact laid_fp (n := 8) (name := "smithy/code.forms") (t := 108) (by kernel_rfl) (by kernel_rfl) (vs := [Value.int .u8 0, Value.int .u8 0, Value.int .u8 0, Value.bool false, Value.bool false, Value.bool false, Value.bool false, Value.bool false, Value.bool false, Value.int .u8 1, Value.int .u8 0, Value.int .u8 0, Value.bool false, Value.bool false, Value.bool false, Value.bool false, Value.bool true, Value.bool false, Value.int .u8 1, Value.int .u8 1, Value.int .u8 0, Value.bool false, Value.bool false, Value.bool false, Value.bool false, Value.bool false, Value.bool false, Value.int .u8 1, Value.int .u8 1, Value.int .u8 7, Value.bool true, Value.bool true, Value.bool false, Value.bool false, Value.bool false, Value.bool false, Value.int .u8 1, Value.int .u8 1, Value.int .u8 0, Value.bool false, Value.bool true, Value.bool true, Value.bool false, Value.bool false, Value.bool false, Value.int .u8 1, Value.int .u8 2, Value.int .u8 0, Value.bool false, Value.bool false, Value.bool false, Value.bool false, Value.bool false, Value.bool false, Value.int .u8 2, Value.int .u8 1, Value.int .u8 0, Value.bool false, Value.bool false, Value.bool false, Value.bool false, Value.bool false, Value.bool false, Value.int .u8 1, Value.int .u8 1, Value.int .u8 0, Value.bool false, Value.bool false, Value.bool false, Value.bool false, Value.bool false, Value.bool true, Value.int .u8 1, Value.int .u8 1, Value.int .u8 0, Value.bool false, Value.bool false, Value.bool false, Value.bool false, Value.bool false, Value.bool true, Value.int .u8 0, Value.int .u8 0, Value.int .u8 0, Value.bool false, Value.bool false, Value.bool false, Value.bool false, Value.bool false, Value.bool true, Value.int .u8 1, Value.int .u8 4, Value.int .u8 0, Value.bool false, Value.bool false, Value.bool false, Value.bool false, Value.bool false, Value.bool false, Value.int .u8 5, Value.int .u8 1, Value.int .u8 0, Value.bool false, Value.bool false, Value.bool false, Value.bool false, Value.bool false, Value.bool false, Value.int .u8 6, Value.int .u8 0, Value.int .u8 0, Value.bool false, Value.bool false, Value.bool false, Value.bool false, Value.bool false, Value.bool false, Value.int .u8 1, Value.int .u8 0, Value.int .u8 0, Value.bool false, Value.bool true, Value.bool false, Value.bool false, Value.bool false, Value.bool false, Value.int .u8 3, Value.int .u8 0, Value.int .u8 0, Value.bool false, Value.bool false, Value.bool false, Value.bool false, Value.bool false, Value.bool false, Value.int .u8 1, Value.int .u8 3, Value.int .u8 3, Value.bool false, Value.bool false, Value.bool false, Value.bool false, Value.bool false, Value.bool false, Value.int .u8 1, Value.int .u8 0, Value.int .u8 0, Value.bool false, Value.bool false, Value.bool false, Value.bool false, Value.bool false, Value.bool false, Value.int .u8 0, Value.int .u8 0, Value.int .u8 0, Value.bool false, Value.bool false, Value.bool false, Value.bool true, Value.bool false, Value.bool false]) (by kernel_rfl) (by kernel_rfl) h
noncomputable def laidWorld (os : Os) : World :=
  { World.holding Tryd.prog os ⟨#[],#[],[]⟩ with heap := (World.holding Tryd.prog os ⟨#[],#[],[]⟩).heap.modify 0 fun
      | .cells _ t frozen => .cells #[Value.int .u8 0,Value.int .u8 0,Value.int .u8 0,Value.bool false,Value.bool false,Value.bool false,Value.bool false,Value.bool false,Value.bool false,Value.int .u8 1,Value.int .u8 0,Value.int .u8 0,Value.bool false,Value.bool false,Value.bool false,Value.bool false,Value.bool true,Value.bool false,Value.int .u8 1,Value.int .u8 1,Value.int .u8 0,Value.bool false,Value.bool false,Value.bool false,Value.bool false,Value.bool false,Value.bool false,Value.int .u8 1,Value.int .u8 1,Value.int .u8 7,Value.bool true,Value.bool true,Value.bool false,Value.bool false,Value.bool false,Value.bool false,Value.int .u8 1,Value.int .u8 1,Value.int .u8 0,Value.bool false,Value.bool true,Value.bool true,Value.bool false,Value.bool false,Value.bool false,Value.int .u8 1,Value.int .u8 2,Value.int .u8 0,Value.bool false,Value.bool false,Value.bool false,Value.bool false,Value.bool false,Value.bool false,Value.int .u8 2,Value.int .u8 1,Value.int .u8 0,Value.bool false,Value.bool false,Value.bool false,Value.bool false,Value.bool false,Value.bool false,Value.int .u8 1,Value.int .u8 1,Value.int .u8 0,Value.bool false,Value.bool false,Value.bool false,Value.bool false,Value.bool false,Value.bool true,Value.int .u8 1,Value.int .u8 1,Value.int .u8 0,Value.bool false,Value.bool false,Value.bool false,Value.bool false,Value.bool false,Value.bool true,Value.int .u8 0,Value.int .u8 0,Value.int .u8 0,Value.bool false,Value.bool false,Value.bool false,Value.bool false,Value.bool false,Value.bool true,Value.int .u8 1,Value.int .u8 4,Value.int .u8 0,Value.bool false,Value.bool false,Value.bool false,Value.bool false,Value.bool false,Value.bool false,Value.int .u8 5,Value.int .u8 1,Value.int .u8 0,Value.bool false,Value.bool false,Value.bool false,Value.bool false,Value.bool false,Value.bool false,Value.int .u8 6,Value.int .u8 0,Value.int .u8 0,Value.bool false,Value.bool false,Value.bool false,Value.bool false,Value.bool false,Value.bool false,Value.int .u8 1,Value.int .u8 0,Value.int .u8 0,Value.bool false,Value.bool true,Value.bool false,Value.bool false,Value.bool false,Value.bool false,Value.int .u8 3,Value.int .u8 0,Value.int .u8 0,Value.bool false,Value.bool false,Value.bool false,Value.bool false,Value.bool false,Value.bool false,Value.int .u8 1,Value.int .u8 3,Value.int .u8 3,Value.bool false,Value.bool false,Value.bool false,Value.bool false,Value.bool false,Value.bool false,Value.int .u8 1,Value.int .u8 0,Value.int .u8 0,Value.bool false,Value.bool false,Value.bool false,Value.bool false,Value.bool false,Value.bool false,Value.int .u8 0,Value.int .u8 0,Value.int .u8 0,Value.bool false,Value.bool false,Value.bool false,Value.bool true,Value.bool false,Value.bool false] t frozen
      | o => o }
theorem laid_met (os : Os) : laidMet Tryd.prog Rows.codeBackRow.laid ((laidWorld os).forCall (fun _ _ => 0) ⟨#[],#[.slice none 0 0,.slice none 0 0,.int .i64 0,.slice none 0 0],[]⟩).memory :=
  laidMet_of_run' 8 (by kernel_rfl) (by kernel_rfl)
theorem reads (os : Os) {H : Type} (enc : TypeId × Value → H) : ∃ places,DataW.whole enc Tryd.prog ((laidWorld os).forCall (fun _ _ => 0) ⟨#[],#[.slice none 0 0,.slice none 0 0,.int .i64 0,.slice none 0 0],[]⟩).memory Tryd.f6.params.toList Rows.codeBackSpec.vars false (#[.slice none 0 0,.slice none 0 0,.int .i64 0,.slice none 0 0] : Array Value).toList 8 = some ([.nil,.nil,.lit (.int .i64 0),.nil],[],places) :=
  ⟨[],by kernel_rfl⟩
set_option maxRecDepth 100000 in
theorem lifted (os : Os) (started : os.Started) (H : Type) (enc : TypeId × Value → H) (F : Stop.Interp) :
    ReturnsInHanded {} Tryd.checked os 6 .any ((OpenSpec.ofChange Rows.codeBackSpec).preRow enc Tryd.prog Tryd.f6 Rows.codeBackRow.domain false Rows.codeBackRow.laid) (((OpenSpec.ofChange Rows.codeBackSpec).at F).post enc Tryd.prog Tryd.f6 false true false false) := by
  obtain ⟨places,hx⟩ := reads os enc;refine returnsInHanded_of_row (C := Tryd.checked) (s := OpenSpec.ofChange Rows.codeBackSpec) own started (by kernel_rfl) Tryd.func6
    (witness_row_at (enc := enc) (C := Tryd.checked) false (laidWorld os) #[.slice none 0 0,.slice none 0 0,.int .i64 0,.slice none 0 0] rfl (by kernel_rfl) (by kernel_rfl) (by kernel_rfl)
      (OpenSpec.preRow_of_cond 8 hx (by kernel_rfl) (fun k hk => by cases hk) (by kernel_rfl) (laid_met os))) ?_
  intro W base args ds gs before hval0 hW hcnd hk hsz0 hL _ _;have hval : ∀ (j : Nat) t v,Tryd.f6.params[j]? = some t → args[j]? = some v → Value.okWide Tryd.prog W .any base t v := hval0;have hW' := hW;obtain ⟨p,q,hA0,hV,rfl,hfz,hnd⟩ := hW;have hA : DataW.TrodAll enc Tryd.prog W 0 (fun _ => true) true Tryd.f6.params.toList args.toList ds p := hA0;rw [Tryd.params6] at hA hval hsz0;obtain ⟨v0,vs0,d0,ds0,p0,q0,hargs0,rfl,rfl,h0,r0⟩ := trodAll_cons hA;obtain ⟨v1,vs1,d1,ds1,p1,q1,hargs1,rfl,rfl,h1,r1⟩ := trodAll_cons r0;obtain ⟨v2,vs2,d2,ds2,p2,q2,hargs2,rfl,rfl,h2,r2⟩ := trodAll_cons r1;obtain ⟨v3,vs3,d3,ds3,p3,q3,hargs3,rfl,rfl,h3,r3⟩ := trodAll_cons r2;obtain ⟨hend,rfl,rfl⟩ := trodAll_nil r3;obtain rfl : args = #[v0,v1,v2,v3] := by
    apply Array.ext'
    simp_all
  obtain ⟨rfl,rfl⟩ := trodVars_none hV;obtain ⟨n0,u0,x0,g0,w0⟩ := arg_V flat  (t := 22) (of_decide_eq_true (by kernel_rfl)) (hval 0 22 v0 rfl rfl) h0 (Nat.le_refl _) (fun x hx => by simpa using List.all_eq_true.1 hsz0 x (DataW.weights_mem_each (j := 0) rfl rfl x hx)) (fun h => absurd h (by decide +kernel));obtain ⟨n1,u1,x1,g1,w1⟩ := arg_V flat  (t := 26) (of_decide_eq_true (by kernel_rfl)) (hval 1 26 v1 rfl rfl) h1 (Nat.le_refl _) (fun x hx => by simpa using List.all_eq_true.1 hsz0 x (DataW.weights_mem_each (j := 1) rfl rfl x hx)) (fun h => absurd h (by decide +kernel));obtain ⟨n2,u2,x2,g2,w2⟩ := arg_V flat  (t := 3) (of_decide_eq_true (by kernel_rfl)) (hval 2 3 v2 rfl rfl) h2 (Nat.le_refl _) (fun x hx => by simpa using List.all_eq_true.1 hsz0 x (DataW.weights_mem_each (j := 2) rfl rfl x hx)) (fun h => absurd h (by decide +kernel));obtain ⟨n3,u3,x3,g3,w3⟩ := arg_V flat  (t := 26) (of_decide_eq_true (by kernel_rfl)) (hval 3 26 v3 rfl rfl) h3 (Nat.le_refl _) (fun x hx => by simpa using List.all_eq_true.1 hsz0 x (DataW.weights_mem_each (j := 3) rfl rfl x hx)) (fun h => absurd h (by decide +kernel));obtain ⟨k,r,H',hk1,hr1⟩ := Go.Eng.Cop.law_CodeBack g0 w0 g1 w1 g2 w2 g3 w3;refine (law_calls Go.Eng.Cop.T_ok hk1 (W := W) (args := #[v0,v1,v2,v3]) rfl (fun j c hj => ?_) hr1 (globals hL)).mono fun e W' ⟨he,bel⟩ => ?_
  · match j with
    | 0 => simp at hj; subst hj; exact x0
    | 1 => simp at hj; subst hj; exact x1
    | 2 => simp at hj; subst hj; exact x2
    | 3 => simp at hj; subst hj; exact x3
    | j + 4 => simp at hj
  subst he;have hlt0 : ∀ x ∈ p0,x.block < W.heap.size := fun x hx => by simpa using hW'.lt x (by simp [hx])
  have hlt1 : ∀ x ∈ p1,x.block < W.heap.size := fun x hx => by simpa using hW'.lt x (by simp [hx])
  have hlt2 : ∀ x ∈ p2,x.block < W.heap.size := fun x hx => by simpa using hW'.lt x (by simp [hx])
  have hlt3 : ∀ x ∈ p3,x.block < W.heap.size := fun x hx => by simpa using hW'.lt x (by simp [hx])
  exact ⟨_,rfl,_,_,_,[],_,[],hW',trodAll_mk1 (shut_bool Tryd.underlying4 _),(trodAll_cons_mk (Below.trod laidOut (by kernel_rfl) (of_decide_eq_true (by kernel_rfl)) h0 bel (fun x hx => hlt0 x hx)) (trodAll_cons_mk (Below.trod laidOut (by kernel_rfl) (of_decide_eq_true (by kernel_rfl)) h1 bel (fun x hx => hlt1 x hx)) (trodAll_cons_mk (Below.trod laidOut (by kernel_rfl) (of_decide_eq_true (by kernel_rfl)) h2 bel (fun x hx => hlt2 x hx)) (trodAll_cons_mk (Below.trod laidOut (by kernel_rfl) (of_decide_eq_true (by kernel_rfl)) h3 bel (fun x hx => hlt3 x hx)) trodAll_mk0)))),rfl,bel.frame _,fun h => by cases h⟩
theorem said : Rows.codeBackRow.holds Tryd.pinned (OpenSpec.ofChange Rows.codeBackSpec) :=
  OpenClaim.holds_of_cond 6 Tryd.f6 rfl rfl rfl rfl rfl rfl rfl ⟨rfl,rfl,rfl,rfl,rfl⟩ rfl rfl rfl rfl rfl (by kernel_rfl) Tryd.func6 (by kernel_rfl)
    (of_decide_eq_true (by kernel_rfl)) (by unfold Func.isWrapper; first | (rw [if_pos (by decide +kernel)]; kernel_rfl) | (rw [if_neg (by decide +kernel)]; exact ⟨rfl,rfl⟩))
    (fun os started H enc _ F => by rw [OpenClaim.pre_eq_preRow]; exact lifted os started H enc F)
theorem plain (f : FuncId) (fn : Func) (hf : Tryd.pinned.checked.prog.funcNamed "smithy/smithylaw28.CodeBack" = some f) (hfn : Tryd.pinned.checked.prog.funcs[f]? = some fn) :
    false = Tryd.pinned.checked.prog.looks [] ∧ ∀ (j : Nat) t,fn.params[j]? = some t → Tryd.pinned.checked.prog.wantsStandIn t = false := by
  obtain rfl : f = 6 := Option.some.inj ((show Tryd.prog.funcNamed "smithy/smithylaw28.CodeBack" = some 6 by kernel_rfl).symm.trans hf) |>.symm;obtain rfl : fn = Tryd.f6 := (Option.some.inj (Tryd.func6.symm.trans hfn)).symm;refine ⟨by kernel_rfl,fun j t ht => ?_⟩;rw [Tryd.params6] at ht;have hm : ∀ t ∈ [22,26,3,26],Tryd.prog.wantsStandIn t = false := by intro t ht; simp at ht; rcases ht with rfl | rfl | rfl | rfl <;> kernel_rfl
  exact hm t (by have := Array.mem_of_getElem? ht; simpa using this)
theorem proved : Rows.CodeBackCardSaid :=
  Claim7.holds_tied_plain_at .later [] _ _ _ _ said (fun _ h => by cases h) (by kernel_rfl) (fun _ h => by cases h) codeBack_row_tie rfl ⟨rfl,rfl⟩ (by kernel_rfl) rfl plain (by kernel_rfl)
#print axioms proved
end Go.Proofs.YthpbodnnbjdnlaaDoor.codeBack
namespace Go.Proofs.YthpbodnnbjdnlaaDoor
theorem codeBack_holds : Rows.CodeBackCardSaid := codeBack.proved
end Go.Proofs.YthpbodnnbjdnlaaDoor
