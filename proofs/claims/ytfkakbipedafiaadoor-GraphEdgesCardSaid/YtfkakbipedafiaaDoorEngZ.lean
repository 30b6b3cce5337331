/- Short names of rules, for printed proofs (no condition beyond those stated). -/
import Derived.Test.YtfkakbipedafiaaDoorEngT
namespace Go.Eng
open Go
set_option linter.unusedSectionVars false
set_option linter.unusedVariables false
set_option linter.unusedSimpArgs false
abbrev Zl {α : Type} (E : Enc α) (l : List α) : V := V.fz (List.map E.e l)
abbrev i6 (n : Int) : V := V.int .i64 n
abbrev ln {α : Type} (l : List α) : Int := ((List.length l : Nat) : Int)
section
variable {T : Nat → Option IFun} {env : List V} {H : Heap}
theorem Ro.t (n : Nat) {ops : List IOp} {Q : List V → Heap → Prop} (hr : RunO T (ops.drop n) (envAfter (ops.take n) env H) H Q) (h : exOps noF (ops.take n) env H = some (envAfter (ops.take n) env H, H) := by kernel_rfl) : RunO T ops env H Q := RunO.tk n h hr
theorem Ro.d (e' : List V) {ts : List Nat} {b : Ir} {Q : X → List V → Heap → Prop} (h : Run T b e' H Q) (he : clrEnv ts env = e' := by kernel_rfl) : RunO T [] env H (fun e h => thn T (.clr ts b) Q .nrm e h) := RunO.done he h
theorem Rn.c (e' : List V) {ts : List Nat} {b : Ir} {Q : X → List V → Heap → Prop} (h : Run T b e' H Q) (he : clrEnv ts env = e' := by kernel_rfl) : thn T (.clr ts b) Q .nrm env H := Run.clr (he ▸ h)
theorem Rn.k (e' : List V) {ts : List Nat} {b : Ir} {Q : X → List V → Heap → Prop} (h : Run T b e' H Q) (he : clrEnv ts env = e' := by kernel_rfl) : Run T (.clr ts b) env H Q := Run.clr (he ▸ h)
theorem Ro.p {d : Option Nat} {g : Option (Nat × Bool)} {lo : Bool} {k : Kind} {r : List IOp} {Q : List V → Heap → Prop} {v : Option V} {u : V} (hv : v = some u) (hr : RunO T r (put env d u) H Q) (hg : gdB env g = true := by kernel_rfl) (hq : k.quiet = true := by rfl) (h : evq noF env (if lo then [] else H) k = v := by kernel_rfl) :
    RunO T (⟨d, g, lo, k⟩ :: r) env H Q := RunO.p1 hg hq h hv hr
theorem Rn.t {c : Opd} {a b : Ir} {Q : X → List V → Heap → Prop} {x : Bool} (hx : x = true) (h : Run T a env H Q) (hc : c.ev env = .bool x := by kernel_rfl) : Run T (.cond c a b) env H Q := Run.condT (hx ▸ hc) h
theorem Rn.f {c : Opd} {a b : Ir} {Q : X → List V → Heap → Prop} {x : Bool} (hx : x = false) (h : Run T b env H Q) (hc : c.ev env = .bool x := by kernel_rfl) : Run T (.cond c a b) env H Q := Run.condF (hx ▸ hc) h
theorem Rn.g {a : List IOp} {b : Ir} {Q : X → List V → Heap → Prop} (h : RunO T a env H (fun e h => thn T b Q .nrm e h)) : Run T (.seq (.rgn a) b) env H Q := Run.seq (Run.rgn h)
end
theorem tf (b : Bool) : b = true ∨ b = false := by cases b <;> simp
end Go.Eng
