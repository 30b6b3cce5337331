/- What Scan and awake tell, in plain words (no condition beyond those stated). -/
import Derived.Test.YtimnlnkjogbjfaaTokE
import Derived.Test.YtimnlnkjogbjfaaTokAw
import Derived.Test.YtimnlnkjogbjfaaTokTy
namespace Go.Eng.Tok
open Go Go.Eng
set_option linter.unusedVariables false
set_option linter.unusedSimpArgs false
def tkT (t : Nat × Nat × Nat) : T_Token := ⟨(t.1 : Int), (t.2.1 : Int), (t.2.2 : Int)⟩
def F11 (l : List UInt8) : Option (List T_Token × T_Fault) :=
  some (if 65536 < l.length then ([], ⟨3, 0⟩) else match scanR l with | .error e => ([], ⟨120, (e : Int)⟩) | .ok ts => (ts.map tkT, ⟨0, 0⟩))
theorem c11 {x : List UInt8} {r : List T_Token × T_Fault} (h : F11 x = some r) : Fn T 11 [ES.e x] [] (fun v hh => deep false hh deepN v = some (.tup [(EL E_Token).e r.1, E_Fault.e r.2])) := by
  unfold F11 at h
  have h := Option.some.inj h; subst h
  refine (scan x).mono fun v hh hd => ?_
  rw [hd]
  unfold scanV
  split
  · rfl
  · cases scanR x with
    | error e => rfl
    | ok ts =>
      show some (V.tup [.fz (ts.map tokV), _]) = some (V.tup [.fz ((ts.map tkT).map E_Token.e), _])
      rw [List.map_map]; rfl
def F10 : Option Bool := some true
theorem c10 {r : Bool} (h : F10 = some r) (s : Bool) : Fn T 10 [] [] (fun v hh => deep s hh deepN v = some (EB.e r)) := by
  have h := Option.some.inj h; subst h
  obtain ⟨h', h1⟩ := yes_spec awake_yes
  exact ⟨200, _, _, h1, EB.hd s h' 38 true (.inr rfl)⟩
end Go.Eng.Tok
