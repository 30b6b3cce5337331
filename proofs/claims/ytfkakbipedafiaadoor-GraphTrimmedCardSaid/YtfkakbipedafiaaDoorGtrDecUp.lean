/- Functions of this seat, run on unknown values by the rules of the small machine (no condition beyond those stated). -/
import Derived.Test.YtfkakbipedafiaaDoorGtrEUp
import Derived.Test.YtfkakbipedafiaaDoorGtrTyUp
import Derived.Test.YtfkakbipedafiaaDoorGtrIr
import Derived.Lib.LaidTab
import GoSem.ClaimJoined
namespace Go.Eng.Gra
open Go Go.Eng
set_option linter.unusedSectionVars false
set_option linter.unusedVariables false
set_option linter.unusedSimpArgs false
def Q_Array (B : Nat) (x : T_Array) : Prop := (fun _ m => IntKind.u8.min ≤ m ∧ m ≤ IntKind.u8.max) B x.fType ∧ (fun _ m => IntKind.i64.min ≤ m ∧ m ≤ IntKind.i64.max) B x.fSize
theorem dec_Array : DecC Go.Proofs.Tryd.prog E_Array 62 Q_Array := by
  refine ⟨by kernel_rfl,fun B n us h => ?_⟩;obtain ⟨hl, m, hf⟩ := dec_fields (fs := #[⟨"Type", 29, 0, false, "", "", 0⟩, ⟨"Size", 3, 1, false, "", "", 8⟩]) (by kernel_rfl) h;have hl : us.length = 2 := hl.trans (by kernel_rfl);have hf : ∀ f ∈ ([⟨"Type", 29, 0, false, "", "", 0⟩, ⟨"Size", 3, 1, false, "", "", 8⟩] : List Field), WfT Go.Proofs.Tryd.prog B m f.type ((us.drop f.offset).take (Go.Proofs.Tryd.prog.cellsOf f.type)) := hf;have z0 : Go.Proofs.Tryd.prog.cellsOf 29 = 1 := by kernel_rfl
  obtain ⟨x0, e0, q0⟩ := (dec_int (P := Go.Proofs.Tryd.prog) (t := 29) (k := .u8) (by kernel_rfl)).2 B m _ (hf ⟨"Type", 29, 0, false, "", "", 0⟩ (by simp));rw [z0] at e0;have e0 : (us.drop 0).take 1 = (EI .u8).c x0 := e0;have s0 := seg_cons e0 (by omega);have z1 : Go.Proofs.Tryd.prog.cellsOf 3 = 1 := by kernel_rfl
  obtain ⟨x1, e1, q1⟩ := (dec_int (P := Go.Proofs.Tryd.prog) (t := 3) (k := .i64) (by kernel_rfl)).2 B m _ (hf ⟨"Size", 3, 1, false, "", "", 8⟩ (by simp));rw [z1] at e1;have e1 : (us.drop 1).take 1 = (EI .i64).c x1 := e1;have s1 := seg_cons e1 (by omega);refine ⟨⟨x0,x1⟩,?_,⟨q0,q1⟩⟩;have hend : us.drop 2 = [] := List.drop_eq_nil_of_le (by omega);rw [← List.drop_zero (l := us)];rw [show us.drop 0 = _ from s0];rw [show us.drop 1 = _ from s1];rw [show us.drop (1 + 1) = _ from hend]
  rfl
def Q_Ins (B : Nat) (x : T_Ins) : Prop := (fun _ m => IntKind.u8.min ≤ m ∧ m ≤ IntKind.u8.max) B x.fKind ∧ (fun _ m => IntKind.u8.min ≤ m ∧ m ≤ IntKind.u8.max) B x.fOp ∧ (fun _ m => IntKind.i64.min ≤ m ∧ m ≤ IntKind.i64.max) B x.fDst ∧ (fun B l => l.length ≤ min B 140737488355328 ∧ ∀ x ∈ l,(fun _ m => IntKind.i64.min ≤ m ∧ m ≤ IntKind.i64.max) B x) B x.fArgs ∧ (fun _ m => IntKind.u64.min ≤ m ∧ m ≤ IntKind.u64.max) B x.fBits ∧ (fun _ m => IntKind.i64.min ≤ m ∧ m ≤ IntKind.i64.max) B x.fRef
theorem dec_Ins : DecC Go.Proofs.Tryd.prog E_Ins 60 Q_Ins := by
  refine ⟨by kernel_rfl,fun B n us h => ?_⟩;obtain ⟨hl, m, hf⟩ := dec_fields (fs := #[⟨"Kind", 56, 0, false, "", "", 0⟩, ⟨"Op", 57, 1, false, "", "", 1⟩, ⟨"Dst", 3, 2, false, "", "", 8⟩, ⟨"Args", 28, 3, false, "", "", 16⟩, ⟨"Bits", 58, 4, false, "", "", 40⟩, ⟨"Ref", 3, 5, false, "", "", 48⟩]) (by kernel_rfl) h;have hl : us.length = 6 := hl.trans (by kernel_rfl);have hf : ∀ f ∈ ([⟨"Kind", 56, 0, false, "", "", 0⟩, ⟨"Op", 57, 1, false, "", "", 1⟩, ⟨"Dst", 3, 2, false, "", "", 8⟩, ⟨"Args", 28, 3, false, "", "", 16⟩, ⟨"Bits", 58, 4, false, "", "", 40⟩, ⟨"Ref", 3, 5, false, "", "", 48⟩] : List Field), WfT Go.Proofs.Tryd.prog B m f.type ((us.drop f.offset).take (Go.Proofs.Tryd.prog.cellsOf f.type)) := hf;have z0 : Go.Proofs.Tryd.prog.cellsOf 56 = 1 := by kernel_rfl
  obtain ⟨x0, e0, q0⟩ := (dec_int (P := Go.Proofs.Tryd.prog) (t := 56) (k := .u8) (by kernel_rfl)).2 B m _ (hf ⟨"Kind", 56, 0, false, "", "", 0⟩ (by simp));rw [z0] at e0;have e0 : (us.drop 0).take 1 = (EI .u8).c x0 := e0;have s0 := seg_cons e0 (by omega);have z1 : Go.Proofs.Tryd.prog.cellsOf 57 = 1 := by kernel_rfl
  obtain ⟨x1, e1, q1⟩ := (dec_int (P := Go.Proofs.Tryd.prog) (t := 57) (k := .u8) (by kernel_rfl)).2 B m _ (hf ⟨"Op", 57, 1, false, "", "", 1⟩ (by simp));rw [z1] at e1;have e1 : (us.drop 1).take 1 = (EI .u8).c x1 := e1;have s1 := seg_cons e1 (by omega);have z2 : Go.Proofs.Tryd.prog.cellsOf 3 = 1 := by kernel_rfl
  obtain ⟨x2, e2, q2⟩ := (dec_int (P := Go.Proofs.Tryd.prog) (t := 3) (k := .i64) (by kernel_rfl)).2 B m _ (hf ⟨"Dst", 3, 2, false, "", "", 8⟩ (by simp));rw [z2] at e2;have e2 : (us.drop 2).take 1 = (EI .i64).c x2 := e2;have s2 := seg_cons e2 (by omega);have z3 : Go.Proofs.Tryd.prog.cellsOf 28 = 1 := by kernel_rfl
  obtain ⟨x3, e3, q3⟩ := (dec_slice (P := Go.Proofs.Tryd.prog) (t := 28) (e := 3) (by kernel_rfl) (dec_int (P := Go.Proofs.Tryd.prog) (t := 3) (k := .i64) (by kernel_rfl))).2 B m _ (hf ⟨"Args", 28, 3, false, "", "", 16⟩ (by simp));rw [z3] at e3;have e3 : (us.drop 3).take 1 = (EL (EI .i64)).c x3 := e3;have s3 := seg_cons e3 (by omega);have z4 : Go.Proofs.Tryd.prog.cellsOf 58 = 1 := by kernel_rfl
  obtain ⟨x4, e4, q4⟩ := (dec_int (P := Go.Proofs.Tryd.prog) (t := 58) (k := .u64) (by kernel_rfl)).2 B m _ (hf ⟨"Bits", 58, 4, false, "", "", 40⟩ (by simp));rw [z4] at e4;have e4 : (us.drop 4).take 1 = (EI .u64).c x4 := e4;have s4 := seg_cons e4 (by omega);have z5 : Go.Proofs.Tryd.prog.cellsOf 3 = 1 := by kernel_rfl
  obtain ⟨x5, e5, q5⟩ := (dec_int (P := Go.Proofs.Tryd.prog) (t := 3) (k := .i64) (by kernel_rfl)).2 B m _ (hf ⟨"Ref", 3, 5, false, "", "", 48⟩ (by simp));rw [z5] at e5;have e5 : (us.drop 5).take 1 = (EI .i64).c x5 := e5;have s5 := seg_cons e5 (by omega);refine ⟨⟨x0,x1,x2,x3,x4,x5⟩,?_,⟨q0,q1,q2,q3,q4,q5⟩⟩;have hend : us.drop 6 = [] := List.drop_eq_nil_of_le (by omega);rw [← List.drop_zero (l := us)];rw [show us.drop 0 = _ from s0];rw [show us.drop 1 = _ from s1];rw [show us.drop 2 = _ from s2];rw [show us.drop 3 = _ from s3];rw [show us.drop 4 = _ from s4];rw [show us.drop 5 = _ from s5];rw [show us.drop (5 + 1) = _ from hend]
  rfl
def Q_2int (B : Nat) (x : T_2int) : Prop := (fun _ m => IntKind.i64.min ≤ m ∧ m ≤ IntKind.i64.max) B x.a0 ∧ (fun _ m => IntKind.i64.min ≤ m ∧ m ≤ IntKind.i64.max) B x.a1
theorem dec_2int : DecC Go.Proofs.Tryd.prog E_2int 42 Q_2int := by
  refine ⟨by kernel_rfl,fun B n us h => ?_⟩;obtain ⟨hl,m,hf⟩ := dec_array (m := 2) (e := 3) (z := 1) (by kernel_rfl) (by kernel_rfl) h;obtain ⟨x0,e0,q0⟩ := (dec_int (P := Go.Proofs.Tryd.prog) (t := 3) (k := .i64) (by kernel_rfl)).2 B m _ (hf 0 (by decide));have e0 : (us.drop 0).take 1 = (EI .i64).c x0 := e0;have s0 := seg_cons e0 (by omega);obtain ⟨x1,e1,q1⟩ := (dec_int (P := Go.Proofs.Tryd.prog) (t := 3) (k := .i64) (by kernel_rfl)).2 B m _ (hf 1 (by decide));have e1 : (us.drop 1).take 1 = (EI .i64).c x1 := e1;have s1 := seg_cons e1 (by omega);refine ⟨⟨x0,x1⟩,?_,⟨q0,q1⟩⟩;have hend : us.drop 2 = [] := List.drop_eq_nil_of_le (by omega);rw [← List.drop_zero (l := us)];rw [show us.drop 0 = _ from s0];rw [show us.drop 1 = _ from s1];rw [show us.drop (1 * 1 + 1) = _ from hend]
  rfl
def Q_Term (B : Nat) (x : T_Term) : Prop := (fun _ m => IntKind.u8.min ≤ m ∧ m ≤ IntKind.u8.max) B x.fKind ∧ (fun _ m => IntKind.i64.min ≤ m ∧ m ≤ IntKind.i64.max) B x.fArg ∧ Q_2int B x.fTo ∧ (fun _ m => IntKind.u8.min ≤ m ∧ m ≤ IntKind.u8.max) B x.fTrap
theorem dec_Term : DecC Go.Proofs.Tryd.prog E_Term 45 Q_Term := by
  refine ⟨by kernel_rfl,fun B n us h => ?_⟩;obtain ⟨hl, m, hf⟩ := dec_fields (fs := #[⟨"Kind", 41, 0, false, "", "", 0⟩, ⟨"Arg", 3, 1, false, "", "", 8⟩, ⟨"To", 42, 2, false, "", "", 16⟩, ⟨"Trap", 43, 4, false, "", "", 32⟩]) (by kernel_rfl) h;have hl : us.length = 5 := hl.trans (by kernel_rfl);have hf : ∀ f ∈ ([⟨"Kind", 41, 0, false, "", "", 0⟩, ⟨"Arg", 3, 1, false, "", "", 8⟩, ⟨"To", 42, 2, false, "", "", 16⟩, ⟨"Trap", 43, 4, false, "", "", 32⟩] : List Field), WfT Go.Proofs.Tryd.prog B m f.type ((us.drop f.offset).take (Go.Proofs.Tryd.prog.cellsOf f.type)) := hf;have z0 : Go.Proofs.Tryd.prog.cellsOf 41 = 1 := by kernel_rfl
  obtain ⟨x0, e0, q0⟩ := (dec_int (P := Go.Proofs.Tryd.prog) (t := 41) (k := .u8) (by kernel_rfl)).2 B m _ (hf ⟨"Kind", 41, 0, false, "", "", 0⟩ (by simp));rw [z0] at e0;have e0 : (us.drop 0).take 1 = (EI .u8).c x0 := e0;have s0 := seg_cons e0 (by omega);have z1 : Go.Proofs.Tryd.prog.cellsOf 3 = 1 := by kernel_rfl
  obtain ⟨x1, e1, q1⟩ := (dec_int (P := Go.Proofs.Tryd.prog) (t := 3) (k := .i64) (by kernel_rfl)).2 B m _ (hf ⟨"Arg", 3, 1, false, "", "", 8⟩ (by simp));rw [z1] at e1;have e1 : (us.drop 1).take 1 = (EI .i64).c x1 := e1;have s1 := seg_cons e1 (by omega);have z2 : Go.Proofs.Tryd.prog.cellsOf 42 = 2 := by kernel_rfl
  obtain ⟨x2, e2, q2⟩ := dec_2int.2 B m _ (hf ⟨"To", 42, 2, false, "", "", 16⟩ (by simp));rw [z2] at e2;have e2 : (us.drop 2).take 2 = E_2int.c x2 := e2;have s2 := seg_cons e2 (by omega);have z3 : Go.Proofs.Tryd.prog.cellsOf 43 = 1 := by kernel_rfl
  obtain ⟨x3, e3, q3⟩ := (dec_int (P := Go.Proofs.Tryd.prog) (t := 43) (k := .u8) (by kernel_rfl)).2 B m _ (hf ⟨"Trap", 43, 4, false, "", "", 32⟩ (by simp));rw [z3] at e3;have e3 : (us.drop 4).take 1 = (EI .u8).c x3 := e3;have s3 := seg_cons e3 (by omega);refine ⟨⟨x0,x1,x2,x3⟩,?_,⟨q0,q1,q2,q3⟩⟩;have hend : us.drop 5 = [] := List.drop_eq_nil_of_le (by omega);rw [← List.drop_zero (l := us)];rw [show us.drop 0 = _ from s0];rw [show us.drop 1 = _ from s1];rw [show us.drop 2 = _ from s2];rw [show us.drop 4 = _ from s3];rw [show us.drop (4 + 1) = _ from hend]
  rfl
def Q_Block (B : Nat) (x : T_Block) : Prop := (fun B l => l.length ≤ min B 140737488355328 ∧ ∀ x ∈ l,Q_Ins B x) B x.fIns ∧ Q_Term B x.fTerm
theorem dec_Block : DecC Go.Proofs.Tryd.prog E_Block 47 Q_Block := by
  refine ⟨by kernel_rfl,fun B n us h => ?_⟩;obtain ⟨hl, m, hf⟩ := dec_fields (fs := #[⟨"Ins", 40, 0, false, "", "", 0⟩, ⟨"Term", 45, 1, false, "", "", 24⟩]) (by kernel_rfl) h;have hl : us.length = 6 := hl.trans (by kernel_rfl);have hf : ∀ f ∈ ([⟨"Ins", 40, 0, false, "", "", 0⟩, ⟨"Term", 45, 1, false, "", "", 24⟩] : List Field), WfT Go.Proofs.Tryd.prog B m f.type ((us.drop f.offset).take (Go.Proofs.Tryd.prog.cellsOf f.type)) := hf;have z0 : Go.Proofs.Tryd.prog.cellsOf 40 = 1 := by kernel_rfl
  obtain ⟨x0, e0, q0⟩ := (dec_slice (P := Go.Proofs.Tryd.prog) (t := 40) (e := 60) (by kernel_rfl) dec_Ins).2 B m _ (hf ⟨"Ins", 40, 0, false, "", "", 0⟩ (by simp));rw [z0] at e0;have e0 : (us.drop 0).take 1 = (EL E_Ins).c x0 := e0;have s0 := seg_cons e0 (by omega);have z1 : Go.Proofs.Tryd.prog.cellsOf 45 = 5 := by kernel_rfl
  obtain ⟨x1, e1, q1⟩ := dec_Term.2 B m _ (hf ⟨"Term", 45, 1, false, "", "", 24⟩ (by simp));rw [z1] at e1;have e1 : (us.drop 1).take 5 = E_Term.c x1 := e1;have s1 := seg_cons e1 (by omega);refine ⟨⟨x0,x1⟩,?_,⟨q0,q1⟩⟩;have hend : us.drop 6 = [] := List.drop_eq_nil_of_le (by omega);rw [← List.drop_zero (l := us)];rw [show us.drop 0 = _ from s0];rw [show us.drop 1 = _ from s1];rw [show us.drop (1 + 5) = _ from hend]
  rfl
def Q_Graph (B : Nat) (x : T_Graph) : Prop := (fun B l => l.length ≤ min B 140737488355328) B x.fName ∧ (fun B l => l.length ≤ min B 140737488355328 ∧ ∀ x ∈ l,(fun _ m => IntKind.i64.min ≤ m ∧ m ≤ IntKind.i64.max) B x) B x.fParams ∧ (fun _ m => IntKind.u8.min ≤ m ∧ m ≤ IntKind.u8.max) B x.fResult ∧ (fun B l => l.length ≤ min B 140737488355328 ∧ ∀ x ∈ l,(fun _ m => IntKind.u8.min ≤ m ∧ m ≤ IntKind.u8.max) B x) B x.fVars ∧ (fun B l => l.length ≤ min B 140737488355328 ∧ ∀ x ∈ l,Q_Array B x) B x.fArrays ∧ (fun B l => l.length ≤ min B 140737488355328 ∧ ∀ x ∈ l,Q_Block B x) B x.fBlocks
theorem dec_Graph : DecC Go.Proofs.Tryd.prog E_Graph 34 Q_Graph := by
  refine ⟨by kernel_rfl,fun B n us h => ?_⟩;obtain ⟨hl, m, hf⟩ := dec_fields (fs := #[⟨"Name", 9, 0, false, "", "", 0⟩, ⟨"Params", 28, 1, false, "", "", 16⟩, ⟨"Result", 29, 2, false, "", "", 40⟩, ⟨"Vars", 30, 3, false, "", "", 48⟩, ⟨"Arrays", 31, 4, false, "", "", 72⟩, ⟨"Blocks", 32, 5, false, "", "", 96⟩]) (by kernel_rfl) h;have hl : us.length = 6 := hl.trans (by kernel_rfl);have hf : ∀ f ∈ ([⟨"Name", 9, 0, false, "", "", 0⟩, ⟨"Params", 28, 1, false, "", "", 16⟩, ⟨"Result", 29, 2, false, "", "", 40⟩, ⟨"Vars", 30, 3, false, "", "", 48⟩, ⟨"Arrays", 31, 4, false, "", "", 72⟩, ⟨"Blocks", 32, 5, false, "", "", 96⟩] : List Field), WfT Go.Proofs.Tryd.prog B m f.type ((us.drop f.offset).take (Go.Proofs.Tryd.prog.cellsOf f.type)) := hf;have z0 : Go.Proofs.Tryd.prog.cellsOf 9 = 1 := by kernel_rfl
  obtain ⟨x0, e0, q0⟩ := (dec_str (P := Go.Proofs.Tryd.prog) (t := 9) (by kernel_rfl)).2 B m _ (hf ⟨"Name", 9, 0, false, "", "", 0⟩ (by simp));rw [z0] at e0;have e0 : (us.drop 0).take 1 = ES.c x0 := e0;have s0 := seg_cons e0 (by omega);have z1 : Go.Proofs.Tryd.prog.cellsOf 28 = 1 := by kernel_rfl
  obtain ⟨x1, e1, q1⟩ := (dec_slice (P := Go.Proofs.Tryd.prog) (t := 28) (e := 3) (by kernel_rfl) (dec_int (P := Go.Proofs.Tryd.prog) (t := 3) (k := .i64) (by kernel_rfl))).2 B m _ (hf ⟨"Params", 28, 1, false, "", "", 16⟩ (by simp));rw [z1] at e1;have e1 : (us.drop 1).take 1 = (EL (EI .i64)).c x1 := e1;have s1 := seg_cons e1 (by omega);have z2 : Go.Proofs.Tryd.prog.cellsOf 29 = 1 := by kernel_rfl
  obtain ⟨x2, e2, q2⟩ := (dec_int (P := Go.Proofs.Tryd.prog) (t := 29) (k := .u8) (by kernel_rfl)).2 B m _ (hf ⟨"Result", 29, 2, false, "", "", 40⟩ (by simp));rw [z2] at e2;have e2 : (us.drop 2).take 1 = (EI .u8).c x2 := e2;have s2 := seg_cons e2 (by omega);have z3 : Go.Proofs.Tryd.prog.cellsOf 30 = 1 := by kernel_rfl
  obtain ⟨x3, e3, q3⟩ := (dec_slice (P := Go.Proofs.Tryd.prog) (t := 30) (e := 29) (by kernel_rfl) (dec_int (P := Go.Proofs.Tryd.prog) (t := 29) (k := .u8) (by kernel_rfl))).2 B m _ (hf ⟨"Vars", 30, 3, false, "", "", 48⟩ (by simp));rw [z3] at e3;have e3 : (us.drop 3).take 1 = (EL (EI .u8)).c x3 := e3;have s3 := seg_cons e3 (by omega);have z4 : Go.Proofs.Tryd.prog.cellsOf 31 = 1 := by kernel_rfl
  obtain ⟨x4, e4, q4⟩ := (dec_slice (P := Go.Proofs.Tryd.prog) (t := 31) (e := 62) (by kernel_rfl) dec_Array).2 B m _ (hf ⟨"Arrays", 31, 4, false, "", "", 72⟩ (by simp));rw [z4] at e4;have e4 : (us.drop 4).take 1 = (EL E_Array).c x4 := e4;have s4 := seg_cons e4 (by omega);have z5 : Go.Proofs.Tryd.prog.cellsOf 32 = 1 := by kernel_rfl
  obtain ⟨x5, e5, q5⟩ := (dec_slice (P := Go.Proofs.Tryd.prog) (t := 32) (e := 47) (by kernel_rfl) dec_Block).2 B m _ (hf ⟨"Blocks", 32, 5, false, "", "", 96⟩ (by simp));rw [z5] at e5;have e5 : (us.drop 5).take 1 = (EL E_Block).c x5 := e5;have s5 := seg_cons e5 (by omega);refine ⟨⟨x0,x1,x2,x3,x4,x5⟩,?_,⟨q0,q1,q2,q3,q4,q5⟩⟩;have hend : us.drop 6 = [] := List.drop_eq_nil_of_le (by omega);rw [← List.drop_zero (l := us)];rw [show us.drop 0 = _ from s0];rw [show us.drop 1 = _ from s1];rw [show us.drop 2 = _ from s2];rw [show us.drop 3 = _ from s3];rw [show us.drop 4 = _ from s4];rw [show us.drop 5 = _ from s5];rw [show us.drop (5 + 1) = _ from hend]
  rfl
theorem dec22 : DecC Go.Proofs.Tryd.prog (EL E_Graph) 22 (fun B l => l.length ≤ min B 140737488355328 ∧ ∀ x ∈ l,Q_Graph B x) := (dec_slice (P := Go.Proofs.Tryd.prog) (t := 22) (e := 34) (by kernel_rfl) dec_Graph)
theorem dec34 : DecC Go.Proofs.Tryd.prog E_Graph 34 Q_Graph := dec_Graph
end Go.Eng.Gra
namespace Go.Eng.Gra
open Go Go.Eng
set_option linter.unusedSectionVars false
set_option linter.unusedVariables false
theorem sz_of {B n : Nat} (h : n ≤ min B 140737488355328) : n ≤ 140737488355328 := Nat.le_trans h (Nat.min_le_right _ _)
theorem szG_of {B : Nat} {g : T_Graph} (h : Q_Graph B g) : SzG g := by
  obtain ⟨_,h1,_,h2,h3,h4⟩ := h;refine ⟨sz_of h1.1,sz_of h2.1,sz_of h3.1,sz_of h4.1,fun b hb => sz_of (h4.2 b hb).1.1,fun b hb x hx => ?_,fun b hb x hx => ?_⟩
  · obtain ⟨_,_,_,h5,_⟩ := (h4.2 b hb).1.2 x hx;exact sz_of h5.1
  · obtain ⟨_,_,_,_,h5,_⟩ := (h4.2 b hb).1.2 x hx;have e0 : IntKind.u64.min = 0 := by decide
    have e1 : IntKind.u64.max = 18446744073709551615 := by decide
    have h6 : IntKind.u64.min ≤ x.fBits ∧ x.fBits ≤ IntKind.u64.max := h5
    omega
theorem law_GraphTrimmed {B0 n0 : Nat} {u0 : V} (g0 : u0.isAg = agOf Go.Proofs.Tryd.prog 22) (w0 : WfT Go.Proofs.Tryd.prog B0 n0 22 u0.cells) : Fn T 7 [u0] [] (fun r h => r = .bool true) := by
  obtain ⟨p,rfl,h1,h2⟩ := dec22.get g0 w0;exact (w7 (trimmed p (sz_of h1) (fun g hg => szG_of (h2 g hg))) HP.nil).mono fun v h hv => hv.1
end Go.Eng.Gra
namespace Go.Eng
open Go
set_option linter.unusedSectionVars false
set_option linter.unusedVariables false
set_option linter.unusedSimpArgs false
def contig (P : Program) : Nat → List Field → Option Nat
  | o,[] => some o
  | o,f :: l => if f.offset = o then contig P (o + P.cellsOf f.type) l else none
def litCells (P : Program) : Nat → TypeId → DataW Unit → Option (List Value)
  | 0,_,_ => none
  | n + 1,t,d =>
    match P.underlying t,d with
    | some .bool,.lit (.bool b) => some [.bool b]
    | some (.int k),.lit (.int k' z) => if k' = k then some [.int k z] else none
    | some (.struct fs),.agg parts => if contig P 0 fs.toList = some (P.cellsOf t) then ((fs.toList.zip parts).mapM fun x => litCells P n x.1.type x.2).map List.flatten else none
    | some (.array m e),.agg parts => if P.cellsOf t = m * P.cellsOf e then (parts.mapM fun x => litCells P n e x).map List.flatten else none
    | _,_ => none
theorem mapM_cons_some {α β : Type} {f : α → Option β} {a : α} {l : List α} {r : List β} (h : (a :: l).mapM f = some r) : ∃ b r',f a = some b ∧ l.mapM f = some r' ∧ r = b :: r' := by
  simp only [List.mapM_cons,Option.bind_eq_bind,Option.bind_eq_some_iff,Option.pure_def,Option.some.injEq] at h;obtain ⟨b,hb,r',hr',rfl⟩ := h;exact ⟨b,r',hb,hr',rfl⟩
theorem contig_le {P : Program} : ∀ (l : List Field) {o e : Nat},contig P o l = some e → o ≤ e
  | [],o,e,h => by simp [contig] at h; omega
  | f :: l,o,e,h => by
    simp only [contig] at h
    split at h
    · have := contig_le l h; omega
    · cases h
theorem litCells_spec {P : Program} {W : World} {base : Nat} {sp : Nat → Bool} {held : Bool} : ∀ (n fuel : Nat) (t : TypeId) (cs : List Value) (d : DataW Unit) (p : List MemPlace) (vs : List Value),
    DataW.trod (fun _ => ()) P W base sp held fuel t cs = some (d,p) → litCells P n t d = some vs → cs = vs
  | 0,fuel,t,cs,d,p,vs,h,hl => by simp [litCells] at hl
  | n + 1,0,t,cs,d,p,vs,h,hl => by simp [DataW.trod] at h
  | n + 1,fuel + 1,t,cs,d,p,vs,h,hl => by
    have ih := litCells_spec (P := P) (W := W) (base := base) (sp := sp) (held := held) n fuel;unfold litCells at hl
    split at hl
    · rename_i b hu
      unfold DataW.trod at h;rw [hu] at h
      split at h <;> simp_all
    · rename_i k k' z hu
      split at hl
      · rename_i hk; subst hk
        obtain ⟨z',hc,hd,_⟩ := DataW.trod_int hu h;cases hd; cases hl; exact hc
      · cases hl
    · rename_i fs parts hu
      split at hl
      case isFalse => cases hl
      rename_i hcg
      obtain ⟨vss,hm,rfl⟩ := Option.map_eq_some_iff.1 hl;simp only [DataW.trod,hu] at h
      split at h
      case isFalse => cases h
      rename_i hlen
      obtain ⟨xs,hx,he⟩ := Option.map_eq_some_iff.1 h;have hp : parts = xs.map (·.1) := by
        have := congrArg Prod.fst he; simp only [DataW.agg.injEq] at this; exact this.symm
      subst hp;have key : ∀ (l : List Field) (xs : List (DataW Unit × List MemPlace)) (vss : List (List Value)) (o e : Nat),
          (l.mapM fun f => DataW.trod (fun _ => ()) P W base sp held fuel f.type ((cs.drop f.offset).take (P.cellsOf f.type))) = some xs →
          ((l.zip (xs.map (·.1))).mapM fun x => litCells P n x.1.type x.2) = some vss → contig P o l = some e → (cs.drop o).take (e - o) = vss.flatten := by
        intro l
        induction l with
        | nil => intro xs vss o e h1 h2 h3; simp [contig] at h3; subst h3; simp at h2; subst h2; simp
        | cons f l ihl =>
          intro xs vss o e h1 h2 h3;obtain ⟨x,xs',hx,hxs,rfl⟩ := mapM_cons_some h1;rw [List.map_cons,List.zip_cons_cons] at h2;obtain ⟨v,vss',hv,hvs,rfl⟩ := mapM_cons_some h2;simp only [contig] at h3
          split at h3
          case isFalse => cases h3
          rename_i ho; subst ho
          have h4 := ihl xs' vss' _ e hxs hvs h3;have h5 := ih _ _ x.1 x.2 v hx hv;have h6 := contig_le l h3;rw [List.flatten_cons,← h4,← h5,← List.drop_drop];have : e - f.offset = P.cellsOf f.type + (e - (f.offset + P.cellsOf f.type)) := by omega
          rw [this,List.take_add]
      have := key _ _ _ 0 _ hx hm hcg;rw [List.drop_zero,Nat.sub_zero,← hlen,List.take_length] at this;exact this
    · rename_i m e parts hu
      split at hl
      case isFalse => cases hl
      rename_i hct
      obtain ⟨vss,hm,rfl⟩ := Option.map_eq_some_iff.1 hl;simp only [DataW.trod,hu] at h
      split at h
      case isFalse => cases h
      rename_i hlen
      obtain ⟨xs,hx,he⟩ := Option.map_eq_some_iff.1 h;have hp : parts = xs.map (·.1) := by
        have := congrArg Prod.fst he; simp only [DataW.agg.injEq] at this; exact this.symm
      subst hp;have key : ∀ (k a : Nat) (xs : List (DataW Unit × List MemPlace)) (vss : List (List Value)),
          ((List.range' a k).mapM fun i => DataW.trod (fun _ => ()) P W base sp held fuel e ((cs.drop (i * P.cellsOf e)).take (P.cellsOf e))) = some xs →
          ((xs.map (·.1)).mapM fun x => litCells P n e x) = some vss → (cs.drop (a * P.cellsOf e)).take (k * P.cellsOf e) = vss.flatten := by
        intro k
        induction k with
        | zero => intro a xs vss h1 h2; simp at h1; subst h1; simp at h2; subst h2; simp
        | succ k ihk =>
          intro a xs vss h1 h2;rw [List.range'_succ] at h1;obtain ⟨x,xs',hx,hxs,rfl⟩ := mapM_cons_some h1;rw [List.map_cons] at h2;obtain ⟨v,vss',hv,hvs,rfl⟩ := mapM_cons_some h2;have h4 := ihk _ xs' vss' hxs hvs;have h5 := ih _ _ x.1 x.2 v hx hv;rw [List.flatten_cons,← h4,← h5,Nat.add_mul a 1,Nat.one_mul,← List.drop_drop,Nat.add_comm k 1,Nat.add_mul 1 k,Nat.one_mul,List.take_add]
      rw [List.range_eq_range'] at hx;have := key m 0 xs vss hx hm;rw [Nat.zero_mul,List.drop_zero,← hct,← hlen,List.take_length] at this;exact this
    · cases hl
def litV : V → Option Value
  | .bool b => some (.bool b)
  | .int k n => some (.int k n)
  | _ => none
theorem litV_VR {wr : Nat → Prop} {W : World} {own : Own} {c : V} {v : Value} (h : litV c = some v) : VR wr W own c v := by
  cases c <;> simp [litV] at h
  · subst h; exact .bool _
  · subst h; exact .int _ _
theorem laid_fp {P : Program} {W : World} {name : String} {d : DataW Unit} {rest : List (String × DataW Unit)} {g n : Nat} {t : TypeId} {cs : List V} {vs : List Value} (hg : P.globalNamed name = some g) (hty : (P.globals[g]?).map (·.type) = some t)
    (hl : litCells P n t d = some vs) (hc : cs.mapM litV = some vs) (h : laidMet P ((name,d) :: rest) W) : VR (fun _ => False) W own0 (.fp (.ag cs)) (.pointer (some ⟨g,0,none⟩)) := by
  obtain ⟨ps,⟨g',t',as1,fuel,p,q,hg',ht',hvar,hd,_,_⟩,_⟩ := h;obtain rfl := Option.some.inj (hg.symm.trans hg');obtain rfl := Option.some.inj (hty.symm.trans ht');have he := litCells_spec n fuel t as1.toList d p vs hd hl;have hlt : g < W.heap.size := by
    simp only [World.var?,hg,Option.bind_some] at hvar
    split at hvar
    · rename_i h; exact (Array.getElem?_eq_some_iff.mp h).1
    · cases hvar
  have hat : ∀ (j : Nat) (c : V),cs[j]? = some c → ∃ v,as1[j]? = some v ∧ litV c = some v := by
    intro j c hj;obtain ⟨v,hv,hf⟩ := Lib.mapM_at hc j c hj;refine ⟨v,?_,hf⟩;rw [← Array.getElem?_toList,he]; exact hv
  refine .fp (fun j => as1.getD j undef) (fun h => h) hlt (fun j c hj => ?_) (fun j c hj => ?_)
  · obtain ⟨v,hv,_⟩ := hat j c hj;rw [Nat.zero_add,World.var?_cell hg hvar j,hv]
    simp [Array.getD_eq_getD_getElem?,hv]
  · obtain ⟨v,hv,hf⟩ := hat j c hj;have : as1.getD j undef = v := by simp [Array.getD_eq_getD_getElem?,hv]
    rw [this]; exact litV_VR hf
end Go.Eng
