/- A byte's sort, by the kernel (no condition). -/
import Derived.Test.YtimnlnkjogbjfaaTokIr
import Derived.Test.YtimnlnkjogbjfaaEngS
namespace Go.Eng.Tok
open Go Go.Eng
/-- a byte's sort: 2 a letter, 3 a digit, 1 a blank, 4 a sign, 0 any other -/
def kd (b : UInt8) : Nat :=
  if (97 ≤ b ∧ b ≤ 122) ∨ (65 ≤ b ∧ b ≤ 90) ∨ b = 95 then 2 else if 48 ≤ b ∧ b ≤ 57 then 3 else if b = 32 ∨ b = 9 ∨ b = 10 ∨ b = 13 then 1
  else if b ∈ [40, 41, 123, 125, 91, 93, 44, 59, 61, 60, 62, 43, 45, 42, 47, 37, 38, 124, 94, 33] then 4 else 0
def isI (r : Option (V × Heap)) (n : Nat) : Bool :=
  match r with
  | some (.int .i64 m, []) => m == (n : Int)
  | _ => false
theorem of_fin : ∀ n : Fin 256, isI (exF T 60 21 [.int .u8 (n.val : Int)] []) (kd (UInt8.ofNat n.val)) = true := by decide +kernel
end Go.Eng.Tok
