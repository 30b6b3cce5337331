/- The chapter's graph, and its order, by the kernel (no condition). -/
import Derived.Test.YtfkakbipedafiaaDoorGreO2
namespace Go.Eng.Gra
open Go Go.Eng
set_option linter.unusedSectionVars false
set_option linter.unusedVariables false
set_option linter.unusedSimpArgs false
set_option maxRecDepth 20000
theorem Fn.now {T : Nat → Option IFun} {f : Nat} {args : List V} {H : Heap} (k : Nat) {v : V} (h : ((exF T k f args H).bind fun r => deep false r.2 deepN r.1) = some v) : Fn T f args H (fun r hh => deep false hh deepN r = some v) := by
  cases he : exF T k f args H with
  | none => rw [he] at h; cases h
  | some r => rw [he] at h; exact ⟨k, r.1, r.2, he, h⟩

/-- the chapter's graph -/
def smallV (more : Bool) : T_Graph :=
  ⟨[103], [0], 4, [4, 1, 4], [], [
    ⟨[⟨2, 0, 2, [], 5, 0⟩, ⟨4, 13, 1, [0, 2], 0, 0⟩], ⟨2, 1, ⟨2, 1⟩, 0⟩⟩,
    ⟨[⟨10, 0, 0, [0], 0, 0⟩], ⟨1, 0, ⟨3, 0⟩, 0⟩⟩,
    ⟨[], ⟨1, 0, ⟨3, 0⟩, 0⟩⟩,
    ⟨[⟨1, 0, 2, if more then [0, 2, 2] else [0, 2], 0, 0⟩], ⟨3, 2, ⟨0, 0⟩, 0⟩⟩,
    ⟨[], ⟨1, 0, ⟨3, 0⟩, 0⟩⟩]⟩
def F28 (more : Bool) : Option T_Graph := some (smallV more)
theorem c28 {x0 : Bool} {r : T_Graph} (h : F28 x0 = some r) : Fn T 28 [.bool x0] [] (fun v hh => deep false hh deepN v = some (E_Graph.e r)) := by
  obtain rfl : smallV x0 = r := Option.some.inj h
  cases x0
  · exact Fn.now 40 (by kernel_rfl)
  · exact Fn.now 40 (by kernel_rfl)

abbrev F14 := orderV
theorem c14 {x0 : T_Graph} {r : List Int} (h : F14 x0 = some r) : Fn T 14 [E_Graph.e x0] [] (fun v hh => deep false hh deepN v = some ((EL (EI .i64)).e r)) := order14 h
end Go.Eng.Gra
