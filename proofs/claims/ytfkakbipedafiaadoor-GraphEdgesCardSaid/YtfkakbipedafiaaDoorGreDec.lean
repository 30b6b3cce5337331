/- What a row hands in, as plain values (lines written by a program of this session's; no condition beyond those stated). -/
import Derived.Test.YtfkakbipedafiaaDoorEngQ
import Derived.Test.YtfkakbipedafiaaDoorGraTy
import Derived.Test.YtfkakbipedafiaaDoorGreIr
namespace Go.Eng.Gra
open Go Go.Eng
set_option linter.unusedSectionVars false
set_option linter.unusedVariables false
set_option linter.unusedSimpArgs false
def Q_Array (B : Nat) (x : T_Array) : Prop := (fun _ m => IntKind.u8.min ≤ m ∧ m ≤ IntKind.u8.max) B x.fType ∧ (fun _ m => IntKind.i64.min ≤ m ∧ m ≤ IntKind.i64.max) B x.fSize
theorem dec_Array : DecC Go.Proofs.Tryd.prog E_Array 62 Q_Array := by
  refine ⟨by kernel_rfl, fun B n us h => ?_⟩
  obtain ⟨hl, m, hf⟩ := dec_fields (fs := #[⟨"Type", 29, 0, false, "", "", 0⟩, ⟨"Size", 3, 1, false, "", "", 8⟩]) (by kernel_rfl) h
  have hl : us.length = 2 := hl.trans (by kernel_rfl)
  have hf : ∀ f ∈ ([⟨"Type", 29, 0, false, "", "", 0⟩, ⟨"Size", 3, 1, false, "", "", 8⟩] : List Field), WfT Go.Proofs.Tryd.prog B m f.type ((us.drop f.offset).take (Go.Proofs.Tryd.prog.cellsOf f.type)) := hf
  have z0 : Go.Proofs.Tryd.prog.cellsOf 29 = 1 := by kernel_rfl
  obtain ⟨x0, e0, q0⟩ := (dec_int (P := Go.Proofs.Tryd.prog) (t := 29) (k := .u8) (by kernel_rfl)).2 B m _ (hf ⟨"Type", 29, 0, false, "", "", 0⟩ (by simp))
  rw [z0] at e0
  have e0 : (us.drop 0).take 1 = (EI .u8).c x0 := e0
  have s0 := seg_cons e0 (by omega)
  have z1 : Go.Proofs.Tryd.prog.cellsOf 3 = 1 := by kernel_rfl
  obtain ⟨x1, e1, q1⟩ := (dec_int (P := Go.Proofs.Tryd.prog) (t := 3) (k := .i64) (by kernel_rfl)).2 B m _ (hf ⟨"Size", 3, 1, false, "", "", 8⟩ (by simp))
  rw [z1] at e1
  have e1 : (us.drop 1).take 1 = (EI .i64).c x1 := e1
  have s1 := seg_cons e1 (by omega)
  refine ⟨⟨x0, x1⟩, ?_, ⟨q0, q1⟩⟩
  have hend : us.drop 2 = [] := List.drop_eq_nil_of_le (by omega)
  rw [← List.drop_zero (l := us)]
  rw [show us.drop 0 = _ from s0]
  rw [show us.drop 1 = _ from s1]
  rw [show us.drop (1 + 1) = _ from hend]
  rfl

def Q_Ins (B : Nat) (x : T_Ins) : Prop := (fun _ m => IntKind.u8.min ≤ m ∧ m ≤ IntKind.u8.max) B x.fKind ∧ (fun _ m => IntKind.u8.min ≤ m ∧ m ≤ IntKind.u8.max) B x.fOp ∧ (fun _ m => IntKind.i64.min ≤ m ∧ m ≤ IntKind.i64.max) B x.fDst ∧ (fun B l => l.length ≤ min B 140737488355328 ∧ ∀ x ∈ l, (fun _ m => IntKind.i64.min ≤ m ∧ m ≤ IntKind.i64.max) B x) B x.fArgs ∧ (fun _ m => IntKind.u64.min ≤ m ∧ m ≤ IntKind.u64.max) B x.fBits ∧ (fun _ m => IntKind.i64.min ≤ m ∧ m ≤ IntKind.i64.max) B x.fRef
theorem dec_Ins : DecC Go.Proofs.Tryd.prog E_Ins 60 Q_Ins := by
  refine ⟨by kernel_rfl, fun B n us h => ?_⟩
  obtain ⟨hl, m, hf⟩ := dec_fields (fs := #[⟨"Kind", 56, 0, false, "", "", 0⟩, ⟨"Op", 57, 1, false, "", "", 1⟩, ⟨"Dst", 3, 2, false, "", "", 8⟩, ⟨"Args", 28, 3, false, "", "", 16⟩, ⟨"Bits", 58, 4, false, "", "", 40⟩, ⟨"Ref", 3, 5, false, "", "", 48⟩]) (by kernel_rfl) h
  have hl : us.length = 6 := hl.trans (by kernel_rfl)
  have hf : ∀ f ∈ ([⟨"Kind", 56, 0, false, "", "", 0⟩, ⟨"Op", 57, 1, false, "", "", 1⟩, ⟨"Dst", 3, 2, false, "", "", 8⟩, ⟨"Args", 28, 3, false, "", "", 16⟩, ⟨"Bits", 58, 4, false, "", "", 40⟩, ⟨"Ref", 3, 5, false, "", "", 48⟩] : List Field), WfT Go.Proofs.Tryd.prog B m f.type ((us.drop f.offset).take (Go.Proofs.Tryd.prog.cellsOf f.type)) := hf
  have z0 : Go.Proofs.Tryd.prog.cellsOf 56 = 1 := by kernel_rfl
  obtain ⟨x0, e0, q0⟩ := (dec_int (P := Go.Proofs.Tryd.prog) (t := 56) (k := .u8) (by kernel_rfl)).2 B m _ (hf ⟨"Kind", 56, 0, false, "", "", 0⟩ (by simp))
  rw [z0] at e0
  have e0 : (us.drop 0).take 1 = (EI .u8).c x0 := e0
  have s0 := seg_cons e0 (by omega)
  have z1 : Go.Proofs.Tryd.prog.cellsOf 57 = 1 := by kernel_rfl
  obtain ⟨x1, e1, q1⟩ := (dec_int (P := Go.Proofs.Tryd.prog) (t := 57) (k := .u8) (by kernel_rfl)).2 B m _ (hf ⟨"Op", 57, 1, false, "", "", 1⟩ (by simp))
  rw [z1] at e1
  have e1 : (us.drop 1).take 1 = (EI .u8).c x1 := e1
  have s1 := seg_cons e1 (by omega)
  have z2 : Go.Proofs.Tryd.prog.cellsOf 3 = 1 := by kernel_rfl
  obtain ⟨x2, e2, q2⟩ := (dec_int (P := Go.Proofs.Tryd.prog) (t := 3) (k := .i64) (by kernel_rfl)).2 B m _ (hf ⟨"Dst", 3, 2, false, "", "", 8⟩ (by simp))
  rw [z2] at e2
  have e2 : (us.drop 2).take 1 = (EI .i64).c x2 := e2
  have s2 := seg_cons e2 (by omega)
  have z3 : Go.Proofs.Tryd.prog.cellsOf 28 = 1 := by kernel_rfl
  obtain ⟨x3, e3, q3⟩ := (dec_slice (P := Go.Proofs.Tryd.prog) (t := 28) (e := 3) (by kernel_rfl) (dec_int (P := Go.Proofs.Tryd.prog) (t := 3) (k := .i64) (by kernel_rfl))).2 B m _ (hf ⟨"Args", 28, 3, false, "", "", 16⟩ (by simp))
  rw [z3] at e3
  have e3 : (us.drop 3).take 1 = (EL (EI .i64)).c x3 := e3
  have s3 := seg_cons e3 (by omega)
  have z4 : Go.Proofs.Tryd.prog.cellsOf 58 = 1 := by kernel_rfl
  obtain ⟨x4, e4, q4⟩ := (dec_int (P := Go.Proofs.Tryd.prog) (t := 58) (k := .u64) (by kernel_rfl)).2 B m _ (hf ⟨"Bits", 58, 4, false, "", "", 40⟩ (by simp))
  rw [z4] at e4
  have e4 : (us.drop 4).take 1 = (EI .u64).c x4 := e4
  have s4 := seg_cons e4 (by omega)
  have z5 : Go.Proofs.Tryd.prog.cellsOf 3 = 1 := by kernel_rfl
  obtain ⟨x5, e5, q5⟩ := (dec_int (P := Go.Proofs.Tryd.prog) (t := 3) (k := .i64) (by kernel_rfl)).2 B m _ (hf ⟨"Ref", 3, 5, false, "", "", 48⟩ (by simp))
  rw [z5] at e5
  have e5 : (us.drop 5).take 1 = (EI .i64).c x5 := e5
  have s5 := seg_cons e5 (by omega)
  refine ⟨⟨x0, x1, x2, x3, x4, x5⟩, ?_, ⟨q0, q1, q2, q3, q4, q5⟩⟩
  have hend : us.drop 6 = [] := List.drop_eq_nil_of_le (by omega)
  rw [← List.drop_zero (l := us)]
  rw [show us.drop 0 = _ from s0]
  rw [show us.drop 1 = _ from s1]
  rw [show us.drop 2 = _ from s2]
  rw [show us.drop 3 = _ from s3]
  rw [show us.drop 4 = _ from s4]
  rw [show us.drop 5 = _ from s5]
  rw [show us.drop (5 + 1) = _ from hend]
  rfl

def Q_2int (B : Nat) (x : T_2int) : Prop := (fun _ m => IntKind.i64.min ≤ m ∧ m ≤ IntKind.i64.max) B x.a0 ∧ (fun _ m => IntKind.i64.min ≤ m ∧ m ≤ IntKind.i64.max) B x.a1
theorem dec_2int : DecC Go.Proofs.Tryd.prog E_2int 42 Q_2int := by
  refine ⟨by kernel_rfl, fun B n us h => ?_⟩
  obtain ⟨hl, m, hf⟩ := dec_array (m := 2) (e := 3) (z := 1) (by kernel_rfl) (by kernel_rfl) h
  obtain ⟨x0, e0, q0⟩ := (dec_int (P := Go.Proofs.Tryd.prog) (t := 3) (k := .i64) (by kernel_rfl)).2 B m _ (hf 0 (by decide))
  have e0 : (us.drop 0).take 1 = (EI .i64).c x0 := e0
  have s0 := seg_cons e0 (by omega)
  obtain ⟨x1, e1, q1⟩ := (dec_int (P := Go.Proofs.Tryd.prog) (t := 3) (k := .i64) (by kernel_rfl)).2 B m _ (hf 1 (by decide))
  have e1 : (us.drop 1).take 1 = (EI .i64).c x1 := e1
  have s1 := seg_cons e1 (by omega)
  refine ⟨⟨x0, x1⟩, ?_, ⟨q0, q1⟩⟩
  have hend : us.drop 2 = [] := List.drop_eq_nil_of_le (by omega)
  rw [← List.drop_zero (l := us)]
  rw [show us.drop 0 = _ from s0]
  rw [show us.drop 1 = _ from s1]
  rw [show us.drop (1 * 1 + 1) = _ from hend]
  rfl

def Q_Term (B : Nat) (x : T_Term) : Prop := (fun _ m => IntKind.u8.min ≤ m ∧ m ≤ IntKind.u8.max) B x.fKind ∧ (fun _ m => IntKind.i64.min ≤ m ∧ m ≤ IntKind.i64.max) B x.fArg ∧ Q_2int B x.fTo ∧ (fun _ m => IntKind.u8.min ≤ m ∧ m ≤ IntKind.u8.max) B x.fTrap
theorem dec_Term : DecC Go.Proofs.Tryd.prog E_Term 45 Q_Term := by
  refine ⟨by kernel_rfl, fun B n us h => ?_⟩
  obtain ⟨hl, m, hf⟩ := dec_fields (fs := #[⟨"Kind", 41, 0, false, "", "", 0⟩, ⟨"Arg", 3, 1, false, "", "", 8⟩, ⟨"To", 42, 2, false, "", "", 16⟩, ⟨"Trap", 43, 4, false, "", "", 32⟩]) (by kernel_rfl) h
  have hl : us.length = 5 := hl.trans (by kernel_rfl)
  have hf : ∀ f ∈ ([⟨"Kind", 41, 0, false, "", "", 0⟩, ⟨"Arg", 3, 1, false, "", "", 8⟩, ⟨"To", 42, 2, false, "", "", 16⟩, ⟨"Trap", 43, 4, false, "", "", 32⟩] : List Field), WfT Go.Proofs.Tryd.prog B m f.type ((us.drop f.offset).take (Go.Proofs.Tryd.prog.cellsOf f.type)) := hf
  have z0 : Go.Proofs.Tryd.prog.cellsOf 41 = 1 := by kernel_rfl
  obtain ⟨x0, e0, q0⟩ := (dec_int (P := Go.Proofs.Tryd.prog) (t := 41) (k := .u8) (by kernel_rfl)).2 B m _ (hf ⟨"Kind", 41, 0, false, "", "", 0⟩ (by simp))
  rw [z0] at e0
  have e0 : (us.drop 0).take 1 = (EI .u8).c x0 := e0
  have s0 := seg_cons e0 (by omega)
  have z1 : Go.Proofs.Tryd.prog.cellsOf 3 = 1 := by kernel_rfl
  obtain ⟨x1, e1, q1⟩ := (dec_int (P := Go.Proofs.Tryd.prog) (t := 3) (k := .i64) (by kernel_rfl)).2 B m _ (hf ⟨"Arg", 3, 1, false, "", "", 8⟩ (by simp))
  rw [z1] at e1
  have e1 : (us.drop 1).take 1 = (EI .i64).c x1 := e1
  have s1 := seg_cons e1 (by omega)
  have z2 : Go.Proofs.Tryd.prog.cellsOf 42 = 2 := by kernel_rfl
  obtain ⟨x2, e2, q2⟩ := dec_2int.2 B m _ (hf ⟨"To", 42, 2, false, "", "", 16⟩ (by simp))
  rw [z2] at e2
  have e2 : (us.drop 2).take 2 = E_2int.c x2 := e2
  have s2 := seg_cons e2 (by omega)
  have z3 : Go.Proofs.Tryd.prog.cellsOf 43 = 1 := by kernel_rfl
  obtain ⟨x3, e3, q3⟩ := (dec_int (P := Go.Proofs.Tryd.prog) (t := 43) (k := .u8) (by kernel_rfl)).2 B m _ (hf ⟨"Trap", 43, 4, false, "", "", 32⟩ (by simp))
  rw [z3] at e3
  have e3 : (us.drop 4).take 1 = (EI .u8).c x3 := e3
  have s3 := seg_cons e3 (by omega)
  refine ⟨⟨x0, x1, x2, x3⟩, ?_, ⟨q0, q1, q2, q3⟩⟩
  have hend : us.drop 5 = [] := List.drop_eq_nil_of_le (by omega)
  rw [← List.drop_zero (l := us)]
  rw [show us.drop 0 = _ from s0]
  rw [show us.drop 1 = _ from s1]
  rw [show us.drop 2 = _ from s2]
  rw [show us.drop 4 = _ from s3]
  rw [show us.drop (4 + 1) = _ from hend]
  rfl

def Q_Block (B : Nat) (x : T_Block) : Prop := (fun B l => l.length ≤ min B 140737488355328 ∧ ∀ x ∈ l, Q_Ins B x) B x.fIns ∧ Q_Term B x.fTerm
theorem dec_Block : DecC Go.Proofs.Tryd.prog E_Block 47 Q_Block := by
  refine ⟨by kernel_rfl, fun B n us h => ?_⟩
  obtain ⟨hl, m, hf⟩ := dec_fields (fs := #[⟨"Ins", 40, 0, false, "", "", 0⟩, ⟨"Term", 45, 1, false, "", "", 24⟩]) (by kernel_rfl) h
  have hl : us.length = 6 := hl.trans (by kernel_rfl)
  have hf : ∀ f ∈ ([⟨"Ins", 40, 0, false, "", "", 0⟩, ⟨"Term", 45, 1, false, "", "", 24⟩] : List Field), WfT Go.Proofs.Tryd.prog B m f.type ((us.drop f.offset).take (Go.Proofs.Tryd.prog.cellsOf f.type)) := hf
  have z0 : Go.Proofs.Tryd.prog.cellsOf 40 = 1 := by kernel_rfl
  obtain ⟨x0, e0, q0⟩ := (dec_slice (P := Go.Proofs.Tryd.prog) (t := 40) (e := 60) (by kernel_rfl) dec_Ins).2 B m _ (hf ⟨"Ins", 40, 0, false, "", "", 0⟩ (by simp))
  rw [z0] at e0
  have e0 : (us.drop 0).take 1 = (EL E_Ins).c x0 := e0
  have s0 := seg_cons e0 (by omega)
  have z1 : Go.Proofs.Tryd.prog.cellsOf 45 = 5 := by kernel_rfl
  obtain ⟨x1, e1, q1⟩ := dec_Term.2 B m _ (hf ⟨"Term", 45, 1, false, "", "", 24⟩ (by simp))
  rw [z1] at e1
  have e1 : (us.drop 1).take 5 = E_Term.c x1 := e1
  have s1 := seg_cons e1 (by omega)
  refine ⟨⟨x0, x1⟩, ?_, ⟨q0, q1⟩⟩
  have hend : us.drop 6 = [] := List.drop_eq_nil_of_le (by omega)
  rw [← List.drop_zero (l := us)]
  rw [show us.drop 0 = _ from s0]
  rw [show us.drop 1 = _ from s1]
  rw [show us.drop (1 + 5) = _ from hend]
  rfl

def Q_Graph (B : Nat) (x : T_Graph) : Prop := (fun B l => l.length ≤ min B 140737488355328) B x.fName ∧ (fun B l => l.length ≤ min B 140737488355328 ∧ ∀ x ∈ l, (fun _ m => IntKind.i64.min ≤ m ∧ m ≤ IntKind.i64.max) B x) B x.fParams ∧ (fun _ m => IntKind.u8.min ≤ m ∧ m ≤ IntKind.u8.max) B x.fResult ∧ (fun B l => l.length ≤ min B 140737488355328 ∧ ∀ x ∈ l, (fun _ m => IntKind.u8.min ≤ m ∧ m ≤ IntKind.u8.max) B x) B x.fVars ∧ (fun B l => l.length ≤ min B 140737488355328 ∧ ∀ x ∈ l, Q_Array B x) B x.fArrays ∧ (fun B l => l.length ≤ min B 140737488355328 ∧ ∀ x ∈ l, Q_Block B x) B x.fBlocks
theorem dec_Graph : DecC Go.Proofs.Tryd.prog E_Graph 34 Q_Graph := by
  refine ⟨by kernel_rfl, fun B n us h => ?_⟩
  obtain ⟨hl, m, hf⟩ := dec_fields (fs := #[⟨"Name", 9, 0, false, "", "", 0⟩, ⟨"Params", 28, 1, false, "", "", 16⟩, ⟨"Result", 29, 2, false, "", "", 40⟩, ⟨"Vars", 30, 3, false, "", "", 48⟩, ⟨"Arrays", 31, 4, false, "", "", 72⟩, ⟨"Blocks", 32, 5, false, "", "", 96⟩]) (by kernel_rfl) h
  have hl : us.length = 6 := hl.trans (by kernel_rfl)
  have hf : ∀ f ∈ ([⟨"Name", 9, 0, false, "", "", 0⟩, ⟨"Params", 28, 1, false, "", "", 16⟩, ⟨"Result", 29, 2, false, "", "", 40⟩, ⟨"Vars", 30, 3, false, "", "", 48⟩, ⟨"Arrays", 31, 4, false, "", "", 72⟩, ⟨"Blocks", 32, 5, false, "", "", 96⟩] : List Field), WfT Go.Proofs.Tryd.prog B m f.type ((us.drop f.offset).take (Go.Proofs.Tryd.prog.cellsOf f.type)) := hf
  have z0 : Go.Proofs.Tryd.prog.cellsOf 9 = 1 := by kernel_rfl
  obtain ⟨x0, e0, q0⟩ := (dec_str (P := Go.Proofs.Tryd.prog) (t := 9) (by kernel_rfl)).2 B m _ (hf ⟨"Name", 9, 0, false, "", "", 0⟩ (by simp))
  rw [z0] at e0
  have e0 : (us.drop 0).take 1 = ES.c x0 := e0
  have s0 := seg_cons e0 (by omega)
  have z1 : Go.Proofs.Tryd.prog.cellsOf 28 = 1 := by kernel_rfl
  obtain ⟨x1, e1, q1⟩ := (dec_slice (P := Go.Proofs.Tryd.prog) (t := 28) (e := 3) (by kernel_rfl) (dec_int (P := Go.Proofs.Tryd.prog) (t := 3) (k := .i64) (by kernel_rfl))).2 B m _ (hf ⟨"Params", 28, 1, false, "", "", 16⟩ (by simp))
  rw [z1] at e1
  have e1 : (us.drop 1).take 1 = (EL (EI .i64)).c x1 := e1
  have s1 := seg_cons e1 (by omega)
  have z2 : Go.Proofs.Tryd.prog.cellsOf 29 = 1 := by kernel_rfl
  obtain ⟨x2, e2, q2⟩ := (dec_int (P := Go.Proofs.Tryd.prog) (t := 29) (k := .u8) (by kernel_rfl)).2 B m _ (hf ⟨"Result", 29, 2, false, "", "", 40⟩ (by simp))
  rw [z2] at e2
  have e2 : (us.drop 2).take 1 = (EI .u8).c x2 := e2
  have s2 := seg_cons e2 (by omega)
  have z3 : Go.Proofs.Tryd.prog.cellsOf 30 = 1 := by kernel_rfl
  obtain ⟨x3, e3, q3⟩ := (dec_slice (P := Go.Proofs.Tryd.prog) (t := 30) (e := 29) (by kernel_rfl) (dec_int (P := Go.Proofs.Tryd.prog) (t := 29) (k := .u8) (by kernel_rfl))).2 B m _ (hf ⟨"Vars", 30, 3, false, "", "", 48⟩ (by simp))
  rw [z3] at e3
  have e3 : (us.drop 3).take 1 = (EL (EI .u8)).c x3 := e3
  have s3 := seg_cons e3 (by omega)
  have z4 : Go.Proofs.Tryd.prog.cellsOf 31 = 1 := by kernel_rfl
  obtain ⟨x4, e4, q4⟩ := (dec_slice (P := Go.Proofs.Tryd.prog) (t := 31) (e := 62) (by kernel_rfl) dec_Array).2 B m _ (hf ⟨"Arrays", 31, 4, false, "", "", 72⟩ (by simp))
  rw [z4] at e4
  have e4 : (us.drop 4).take 1 = (EL E_Array).c x4 := e4
  have s4 := seg_cons e4 (by omega)
  have z5 : Go.Proofs.Tryd.prog.cellsOf 32 = 1 := by kernel_rfl
  obtain ⟨x5, e5, q5⟩ := (dec_slice (P := Go.Proofs.Tryd.prog) (t := 32) (e := 47) (by kernel_rfl) dec_Block).2 B m _ (hf ⟨"Blocks", 32, 5, false, "", "", 96⟩ (by simp))
  rw [z5] at e5
  have e5 : (us.drop 5).take 1 = (EL E_Block).c x5 := e5
  have s5 := seg_cons e5 (by omega)
  refine ⟨⟨x0, x1, x2, x3, x4, x5⟩, ?_, ⟨q0, q1, q2, q3, q4, q5⟩⟩
  have hend : us.drop 6 = [] := List.drop_eq_nil_of_le (by omega)
  rw [← List.drop_zero (l := us)]
  rw [show us.drop 0 = _ from s0]
  rw [show us.drop 1 = _ from s1]
  rw [show us.drop 2 = _ from s2]
  rw [show us.drop 3 = _ from s3]
  rw [show us.drop 4 = _ from s4]
  rw [show us.drop 5 = _ from s5]
  rw [show us.drop (5 + 1) = _ from hend]
  rfl

theorem dec22 : DecC Go.Proofs.Tryd.prog (EL E_Graph) 22 (fun B l => l.length ≤ min B 140737488355328 ∧ ∀ x ∈ l, Q_Graph B x) := (dec_slice (P := Go.Proofs.Tryd.prog) (t := 22) (e := 34) (by kernel_rfl) dec_Graph)
theorem dec34 : DecC Go.Proofs.Tryd.prog E_Graph 34 Q_Graph := dec_Graph
end Go.Eng.Gra
