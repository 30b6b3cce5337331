/- Next, walked by hand (no condition). -/
import Derived.Test.YtfkakbipedafiaaDoorGreN
import Derived.Test.YtfkakbipedafiaaDoorEngU
import Derived.Test.YtfkakbipedafiaaDoorEngP
namespace Go.Eng.Gra
open Go Go.Eng
set_option linter.unusedSectionVars false
set_option linter.unusedVariables false
set_option linter.unusedSimpArgs false
set_option maxRecDepth 20000

/-- the blocks that an end names -/
def nextV (b : T_Block) : List Int :=
  if b.fTerm.fKind = 1 then [b.fTerm.fTo.a0]
  else if b.fTerm.fKind = 2 then (if b.fTerm.fTo.a0 = b.fTerm.fTo.a1 then [b.fTerm.fTo.a0] else if b.fTerm.fTo.a0 < b.fTerm.fTo.a1 then [b.fTerm.fTo.a0, b.fTerm.fTo.a1] else [b.fTerm.fTo.a1, b.fTerm.fTo.a0])
  else []
theorem F18_is (b : T_Block) : F18 b = some (nextV b) := by
  simp only [F18, F18_j1, F18_j2, nextV]
  split <;> split <;> split <;> (try split) <;> (try split) <;> (try split) <;> simp_all <;> omega
def F15 (b : T_Block) : Option (List Int) := some (nextV b)

def X.nrm? : X → Bool | .nrm => true | _ => false
def X.ret? : X → Bool | .ret => true | _ => false
theorem Run.nowC {T : Nat → Option IFun} {ir : Ir} {env : List V} {H : Heap} {Q : X → List V → Heap → Prop} {ts : List Nat} {b : Ir} (k : Nat) {e' : List V} {H' : Heap} (hx : (exec noF k ir env H).map (fun r => (X.nrm? r.1, clrEnv ts r.2.1, r.2.2)) = some (true, e', H')) (h : Run T b e' H' Q) : Run T ir env H (thn T (.clr ts b) Q) := by
  cases he : exec noF k ir env H with
  | none => rw [he] at hx; cases hx
  | some r =>
    obtain ⟨x, e, h1⟩ := r
    rw [he] at hx; simp only [Option.map_some, Option.some.injEq, Prod.mk.injEq] at hx
    obtain ⟨hx, rfl, rfl⟩ := hx
    cases x with
    | nrm => exact ⟨k, .nrm, e, h1, exec_mono (F' := exF T k) (noF_le _) k (Nat.le_refl k) he, Run.clr h⟩
    | ret => cases hx
    | ext i => cases hx
theorem Run.nowQ {T : Nat → Option IFun} {ir : Ir} {env : List V} {H : Heap} {Q : X → List V → Heap → Prop} (k : Nat) {e' : List V} (hx : (exec noF k ir env H).map (fun r => (X.nrm? r.1, r.2.1, r.2.2)) = some (true, e', H)) (h : Q .nrm e' H) : Run T ir env H Q := by
  cases he : exec noF k ir env H with
  | none => rw [he] at hx; cases hx
  | some r =>
    obtain ⟨x, e, h1⟩ := r
    rw [he] at hx; simp only [Option.map_some, Option.some.injEq, Prod.mk.injEq] at hx
    obtain ⟨hx, rfl, rfl⟩ := hx
    cases x with
    | nrm => exact ⟨k, .nrm, e, h1, exec_mono (F' := exF T k) (noF_le _) k (Nat.le_refl k) he, h⟩
    | ret => cases hx
    | ext i => cases hx
theorem Run.nowR {T : Nat → Option IFun} {ir : Ir} {env : List V} {H : Heap} {Q : X → List V → Heap → Prop} {cs : Option (List (Option Sh))} {res : List Nat} {QF : V → Heap → Prop} (k : Nat) {v : V} {H' : Heap} (hx : (exec noF k ir env H).map (fun r => (X.ret? r.1, resW cs res r.2.1 r.2.2, r.2.2)) = some (true, some v, H')) (h : QF v H') (hQ : ∀ e h, endR cs res QF e h → Q .ret e h) : Run T ir env H Q := by
  cases he : exec noF k ir env H with
  | none => rw [he] at hx; cases hx
  | some r =>
    obtain ⟨x, e, h1⟩ := r
    rw [he] at hx; simp only [Option.map_some, Option.some.injEq, Prod.mk.injEq] at hx
    obtain ⟨hx, hv, rfl⟩ := hx
    cases x with
    | nrm => cases hx
    | ret => exact ⟨k, .ret, e, h1, exec_mono (F' := exF T k) (noF_le _) k (Nat.le_refl k) he, hQ e h1 ⟨v, hv, h⟩⟩
    | ext i => cases hx

theorem Run.nowK {T : Nat → Option IFun} {ir : Ir} {env : List V} {H : Heap} {Q : X → List V → Heap → Prop} {ts : List Nat} {b : Ir} (k : Nat) {e' : List V} (hx : (exec noF k ir env H).map (fun r => (X.nrm? r.1, clrEnv ts r.2.1, r.2.2)) = some (true, e', H)) (h : Run T b e' H Q) : Run T ir env H (thn T (.clr ts b) Q) := Run.nowC k hx h

abbrev S2 : V := .sl 1 0 0 2 1 false
/-- Compact of two numbers -/
theorem two_same (p : Int) (o : List V) : Fn T 37 [S2] [(0, o), (0, [.int .i64 p, .int .i64 p])] (fun v h => v = .sl 1 0 0 1 1 false ∧ h = [(0, o), (0, [.int .i64 p, .int .i64 0])]) := by
  refine Fn.enterE t37 (e0 := mkE [(0, S2)] 60) (by kernel_rfl) ?_
  show Run T (.clr [] i37n48) _ _ (finE none [2] _)
  refine Run.clrE (e' := mkE [(0, S2)] 60) (by kernel_rfl) ?_
  refine Run.seq (Run.nowK 9 (e' := mkE [(0, S2)] 60) (by kernel_rfl) ?_)
  refine Run.seq (Run.nowK 9 (e' := mkE [(0, S2)] 60) (by kernel_rfl) ?_)
  refine Run.seq (Run.seq (Run.nowK 9 (e' := mkE [(0, S2), (2, .int .i64 1)] 57) (by kernel_rfl) ?_))
  refine Run.block (Run.loop1 (Run.clrE (e' := mkE [(0, S2), (2, .int .i64 1)] 57) (by kernel_rfl) ?_))
  refine Run.seq (Run.nowK 9 (e' := mkE [(0, S2), (2, .int .i64 1)] 57) (by kernel_rfl) ?_)
  refine Run.seq (Run.block (Run.seq (Run.nowK 9 (e' := mkE [(0, S2), (2, .int .i64 1), (21, .bool (decide (p = p)))] 35) (by kernel_rfl) ?_)))
  refine Run.condT (by rw [decide_eq_true (rfl : p = p)]; kernel_rfl) ?_
  refine Run.nowR 30 (cs := none) (res := [2]) (v := .sl 1 0 0 1 1 false) (H' := [(0, o), (0, [.int .i64 p, .int .i64 0])]) (by kernel_rfl) ⟨rfl, rfl⟩ (fun e h hh => hh)
theorem two_diff {p q : Int} (hpq : q ≠ p) (o : List V) : Fn T 37 [S2] [(0, o), (0, [.int .i64 p, .int .i64 q])] (fun v h => v = S2 ∧ h = [(0, o), (0, [.int .i64 p, .int .i64 q])]) := by
  refine Fn.enterE t37 (e0 := mkE [(0, S2)] 60) (by kernel_rfl) ?_
  show Run T (.clr [] i37n48) _ _ (finE none [2] _)
  refine Run.clrE (e' := mkE [(0, S2)] 60) (by kernel_rfl) ?_
  refine Run.seq (Run.nowK 9 (e' := mkE [(0, S2)] 60) (by kernel_rfl) ?_)
  refine Run.seq (Run.nowK 9 (e' := mkE [(0, S2)] 60) (by kernel_rfl) ?_)
  refine Run.seq (Run.seq (Run.nowK 9 (e' := mkE [(0, S2), (2, .int .i64 1)] 57) (by kernel_rfl) ?_))
  refine Run.block (Run.loop1 (Run.clrE (e' := mkE [(0, S2), (2, .int .i64 1)] 57) (by kernel_rfl) ?_))
  refine Run.seq (Run.nowK 9 (e' := mkE [(0, S2), (2, .int .i64 1)] 57) (by kernel_rfl) ?_)
  refine Run.seq (Run.block (Run.seq (Run.nowK 9 (e' := mkE [(0, S2), (2, .int .i64 1), (21, .bool (decide (q = p)))] 35) (by kernel_rfl) ?_)))
  refine Run.condF (by rw [decide_eq_false hpq]; kernel_rfl) ?_
  refine Run.skip ?_
  show Run T (.clr _ (.rgn i37r38)) _ _ _
  refine Run.clrE (e' := mkE [(0, S2), (2, .int .i64 1)] 57) (by kernel_rfl) ?_
  refine Run.nowQ 9 (e' := mkE [(0, S2), (2, .int .i64 2), (10, .int .i64 1), (0, .int .i64 2)] 45) (by kernel_rfl) ?_
  show Run T (.loop _) _ _ _
  refine Run.loop1 (Run.clrE (e' := mkE [(0, S2), (2, .int .i64 2)] 57) (by kernel_rfl) ?_)
  refine Run.seq (Run.seq (Run.nowK 9 (e' := mkE [(0, S2), (2, .int .i64 2), (9, .bool false)] 47) (by kernel_rfl) ?_))
  refine Run.condF (by kernel_rfl) ?_
  refine Run.exit ?_
  show Run T (.clr _ i37n45) _ _ _
  refine Run.clrE (e' := mkE [(0, S2)] 60) (by kernel_rfl) ?_
  refine Run.nowR 30 (cs := none) (res := [2]) (v := S2) (H' := [(0, o), (0, [.int .i64 p, .int .i64 q])]) (by kernel_rfl) ⟨rfl, rfl⟩ (fun e h hh => hh)

theorem c15 {x0 : T_Block} {r : List Int} (h : F15 x0 = some r) : Fn T 15 [(E_Block.e x0)] [] (fun v hh => deep false hh deepN v = some ((EL (EI .i64)).e r)) := by
  obtain rfl : nextV x0 = r := Option.some.inj h
  refine Fn.enterE t15 (e0 := mkE [(0, E_Block.e x0)] 30) (by kernel_rfl) ?_
  show Run T (.clr [] i15n21) _ _ (finE none [2] _)
  refine Run.clrE (e' := mkE [(0, E_Block.e x0)] 30) (by kernel_rfl) ?_
  refine Run.seq (Run.nowK 9 (e' := mkE [(1, .fp (E_Block.e x0))] 29) (by kernel_rfl) ?_)
  refine Run.seq (Run.nowC 9 (e' := mkE [(1, .fp (E_Block.e x0)), (1, .ptr 0 0 0)] 27) (H' := [(0, [.int .i64 x0.fTerm.fTo.a0, .int .i64 x0.fTerm.fTo.a1])]) (by kernel_rfl) ?_)
  refine Run.seq (Run.seq (Run.nowK 9 (e' := mkE [(3, .ptr 0 0 0), (6, .int .u8 x0.fTerm.fKind)] 20) (by kernel_rfl) ?_))
  refine Run.block (Run.seq (Run.nowK 9 (e' := mkE [(3, .ptr 0 0 0), (6, .int .u8 x0.fTerm.fKind), (0, .bool (decide (x0.fTerm.fKind = 1)))] 19) (by kernel_rfl) ?_))
  by_cases h1 : x0.fTerm.fKind = 1
  · refine Run.condT (by rw [decide_eq_true h1]; kernel_rfl) ?_
    refine Run.nowR 30 (cs := none) (res := [2]) (v := .fz [.int .i64 x0.fTerm.fTo.a0]) (H' := [(0, [.int .i64 x0.fTerm.fTo.a0, .int .i64 x0.fTerm.fTo.a1])]) (by kernel_rfl) ?_ (fun e h hh => hh)
    rw [show nextV x0 = [x0.fTerm.fTo.a0] by simp [nextV, h1]]; rfl
  refine Run.condF (by rw [decide_eq_false h1]; kernel_rfl) ?_
  refine Run.seq (Run.nowK 9 (e' := mkE [(3, .ptr 0 0 0), (12, .bool (decide (x0.fTerm.fKind = 2)))] 14) (by kernel_rfl) ?_)
  by_cases h2 : x0.fTerm.fKind = 2
  · refine Run.condT (by rw [decide_eq_true h2]; kernel_rfl) ?_
    generalize ha : x0.fTerm.fTo.a0 = a
    generalize hb : x0.fTerm.fTo.a1 = b
    refine Run.seq (Run.nowC 9 (e' := mkE [(4, S2)] 26) (H' := [(0, [.int .i64 a, .int .i64 b]), (0, [.int .i64 (if b < a then b else a), .int .i64 (if a < b then b else a)])]) (by kernel_rfl) ?_)
    refine Run.seq (Run.rgn (RunO.tk 1 (by kernel_rfl) ?_))
    refine RunO.h1 (n := 37) (caps := []) (us := [S2]) (by kernel_rfl) (by kernel_rfl) (by kernel_rfl) ?_
    by_cases hab : a = b
    · subst hab
      simp only [Int.lt_irrefl, if_false]
      refine (two_same a _).mono ?_
      rintro v hh ⟨rfl, rfl⟩
      refine RunO.tk 1 (by kernel_rfl) ?_
      refine RunO.nil ?_
      refine Run.clrE (e' := mkE [(2, .sl 1 0 0 1 1 false)] 28) (by kernel_rfl) ?_
      refine Run.nowR 30 (cs := none) (res := [2]) (v := .sl 1 0 0 1 1 false) (H' := [(0, [.int .i64 a, .int .i64 a]), (0, [.int .i64 a, .int .i64 0])]) (by kernel_rfl) ?_ (fun e h hh => hh)
      rw [show nextV x0 = [a] by simp [nextV, h2, ha, hb]]; rfl
    · have hne : (if a < b then b else a) ≠ (if b < a then b else a) := by split <;> split <;> omega
      refine (two_diff hne _).mono ?_
      rintro v hh ⟨rfl, rfl⟩
      refine RunO.tk 1 (by kernel_rfl) ?_
      refine RunO.nil ?_
      refine Run.clrE (e' := mkE [(2, S2)] 28) (by kernel_rfl) ?_
      refine Run.nowR 30 (cs := none) (res := [2]) (v := S2) (H' := [(0, [.int .i64 a, .int .i64 b]), (0, [.int .i64 (if b < a then b else a), .int .i64 (if a < b then b else a)])]) (by kernel_rfl) ?_ (fun e h hh => hh)
      have he : nextV x0 = [(if b < a then b else a), (if a < b then b else a)] := by
        rcases Int.lt_or_gt_of_ne hab with hl | hl
        · simp [nextV, h2, ha, hb, hab, hl, show ¬ b < a by omega]
        · simp [nextV, h2, ha, hb, hab, show ¬ a < b by omega, show b < a from hl]
      rw [he]; rfl
  · refine Run.condF (by rw [decide_eq_false h2]; kernel_rfl) ?_
    refine Run.skip ?_
    show Run T (.clr _ i15n18) _ _ _
    refine Run.clrE (e' := mkE [] 31) (by kernel_rfl) ?_
    refine Run.nowR 30 (cs := none) (res := [2]) (v := .nils) (H' := [(0, [.int .i64 x0.fTerm.fTo.a0, .int .i64 x0.fTerm.fTo.a1])]) (by kernel_rfl) ?_ (fun e h hh => hh)
    rw [show nextV x0 = [] by simp [nextV, h1, h2]]; rfl
end Go.Eng.Gra
