/- Functions of this seat, run on unknown values by the rules of the small machine (no condition beyond those stated). -/
import Derived.Test.YtolhfdcgmcaglaaDoorEngTUp
import Derived.Test.YtolhfdcgmcaglaaDoorCodIr
namespace Go.Eng
open Go
set_option linter.unusedSectionVars false
set_option linter.unusedVariables false
set_option linter.unusedSimpArgs false
abbrev Zl {α : Type} (E : Enc α) (l : List α) : V := V.fz (List.map E.e l)
abbrev i6 (n : Int) : V := V.int .i64 n
abbrev ln {α : Type} (l : List α) : Int := ((List.length l : Nat) : Int)
section
variable {T : Nat → Option IFun} {env : List V} {H : Heap}
theorem Ro.t (n : Nat) {ops : List IOp} {Q : List V → Heap → Prop} (hr : RunO T (ops.drop n) (envAfter (ops.take n) env H) H Q) (h : exOps noF (ops.take n) env H = some (envAfter (ops.take n) env H,H) := by kernel_rfl) : RunO T ops env H Q := RunO.tk n h hr
theorem Ro.d (e' : List V) {ts : List Nat} {b : Ir} {Q : X → List V → Heap → Prop} (h : Run T b e' H Q) (he : clrEnv ts env = e' := by kernel_rfl) : RunO T [] env H (fun e h => thn T (.clr ts b) Q .nrm e h) := RunO.done he h
theorem Rn.c (e' : List V) {ts : List Nat} {b : Ir} {Q : X → List V → Heap → Prop} (h : Run T b e' H Q) (he : clrEnv ts env = e' := by kernel_rfl) : thn T (.clr ts b) Q .nrm env H := Run.clr (he ▸ h)
theorem Rn.k (e' : List V) {ts : List Nat} {b : Ir} {Q : X → List V → Heap → Prop} (h : Run T b e' H Q) (he : clrEnv ts env = e' := by kernel_rfl) : Run T (.clr ts b) env H Q := Run.clr (he ▸ h)
theorem Ro.p {d : Option Nat} {g : Option (Nat × Bool)} {lo : Bool} {k : Kind} {r : List IOp} {Q : List V → Heap → Prop} {v : Option V} {u : V} (hv : v = some u) (hr : RunO T r (put env d u) H Q) (hg : gdB env g = true := by kernel_rfl) (hq : k.quiet = true := by rfl) (h : evq noF env (if lo then [] else H) k = v := by kernel_rfl) :
    RunO T (⟨d,g,lo,k⟩ :: r) env H Q := RunO.p1 hg hq h hv hr
theorem Rn.t {c : Opd} {a b : Ir} {Q : X → List V → Heap → Prop} {x : Bool} (hx : x = true) (h : Run T a env H Q) (hc : c.ev env = .bool x := by kernel_rfl) : Run T (.cond c a b) env H Q := Run.condT (hx ▸ hc) h
theorem Rn.f {c : Opd} {a b : Ir} {Q : X → List V → Heap → Prop} {x : Bool} (hx : x = false) (h : Run T b env H Q) (hc : c.ev env = .bool x := by kernel_rfl) : Run T (.cond c a b) env H Q := Run.condF (hx ▸ hc) h
theorem Rn.g {a : List IOp} {b : Ir} {Q : X → List V → Heap → Prop} (h : RunO T a env H (fun e h => thn T b Q .nrm e h)) : Run T (.seq (.rgn a) b) env H Q := Run.seq (Run.rgn h)
end
theorem tf (b : Bool) : b = true ∨ b = false := by cases b <;> simp
end Go.Eng
namespace Go.Eng.Cod
open Go Go.Eng
set_option linter.unusedSectionVars false
set_option linter.unusedVariables false
set_option linter.unusedSimpArgs false
set_option maxRecDepth 100000
theorem Fn.now {T : Nat → Option IFun} {f : Nat} {args : List V} {H : Heap} (k : Nat) {v : V} {s : Bool} (h : ((exF T k f args H).bind fun r => deep s r.2 deepN r.1) = some v) : Fn T f args H (fun r hh => deep s hh deepN r = some v) := by
  cases he : exF T k f args H with
  | none => rw [he] at h; cases h
  | some r => rw [he] at h; exact ⟨k,r.1,r.2,he,h⟩
def smallU : List T_Unit := [⟨[102],[],4,0,[⟨1,0,0,0,0,0,0,0,300⟩,⟨16,0,0,0,0,0,0,0,0⟩]⟩]
def smallB : List Int := [1,1,102,0,4,0,2,1,0,44,1,0,0,0,0,0,0,16,0]
def keepsU : T_Unit := ⟨[102],[],4,1,[⟨6,0,0,0,0,0,3,0,0⟩,⟨1,0,0,0,0,3,0,0,5⟩,⟨2,0,0,0,0,1,3,0,0⟩,⟨5,0,0,0,0,3,0,0,0⟩,⟨16,0,0,0,0,1,0,0,0⟩]⟩
def F9 (x : List T_Unit) : Option (List Int × Int) := if x = smallU then some (smallB,0) else none
def F10 (x : List Int) : Option (List T_Unit × Int) := if x = smallB then some (smallU,0) else none
def F14 (x : List T_Unit) (u : Int) : Option Bool := if x = [keepsU] ∧ u = 0 then some true else if x = [keepsU] ∧ u = 1 then some false else none
end Go.Eng.Cod
namespace Go.Eng.Cod
open Go Go.Eng
set_option linter.unusedSectionVars false
set_option linter.unusedVariables false
set_option maxRecDepth 100000
theorem Run.ex {T : Nat → Option IFun} {ir : Ir} {env env' : List V} {H H' : Heap} {x : X} {Q : X → List V → Heap → Prop} (k : Nat) (h : exec (exF T k) k ir env H = some (x,env',H')) (hq : Q x env' H') : Run T ir env H Q := ⟨k,x,env',H',h,hq⟩
def bodyOf : Ir → Ir
  | .block _ (.loop b) => b
  | i => i
abbrev bL : Ir := bodyOf i23n40
abbrev bM : Ir := bodyOf i23n57
def cV (k a b bits : Int) : V := .ag [.int .u8 k,.int .u8 0,.int .u8 0,.int .u8 0,.int .u8 0,.int .i64 a,.int .i64 b,.int .i64 0,.int .u64 bits]
def k0 : Nat × List V := (1,[(.mpb [(.int .i64 0)] [(.int .i64 0)])])
def k1 : Nat × List V := (0,[(.ptr 11 0 0),.nilp,.nilp,.nilp,.nilp])
def k2 : Nat × List V := (0,[(.fp (.ag [(.str ⟨#[102]⟩),(.fz []),(.int .u8 4),(.int .i64 1),(.fz [(cV 6 0 3 0),(cV 1 3 0 5),(cV 2 1 3 0),(cV 5 3 0 0),(cV 16 1 0 0)])])),(.int .i64 1),(.int .i64 (-1)),(.int .i64 (-1)),(.int .i64 (-1)),(.int .i64 0),(.int .i64 (-1)),(.int .i64 (-1)),(.int .i64 (-1)),(.int .i64 (-1)),(.mp 0),(.sl 1 0 0 5 1 false)])
def k3 : Nat × List V := (0,[(.ptr 2 0 0)])
def k4 : Nat × List V := (0,[(.int .u8 6),(.int .u8 0),(.int .u8 0),(.int .u8 0),(.int .u8 0),(.int .i64 0),(.int .i64 3),(.int .i64 0),(.int .u64 0)])
def k5 : Nat × List V := (0,[(.int .u8 1),(.int .u8 0),(.int .u8 0),(.int .u8 0),(.int .u8 0),(.int .i64 3),(.int .i64 0),(.int .i64 0),(.int .u64 5)])
def k6 : Nat × List V := (0,[(.int .u8 2),(.int .u8 0),(.int .u8 0),(.int .u8 0),(.int .u8 0),(.int .i64 1),(.int .i64 3),(.int .i64 0),(.int .u64 0)])
def k7 : Nat × List V := (0,[(.int .u8 5),(.int .u8 0),(.int .u8 0),(.int .u8 0),(.int .u8 0),(.int .i64 3),(.int .i64 0),(.int .i64 0),(.int .u64 0)])
def k8 : Nat × List V := (0,[(.int .u8 16),(.int .u8 0),(.int .u8 0),(.int .u8 0),(.int .u8 0),(.int .i64 1),(.int .i64 0),(.int .i64 0),(.int .u64 0)])
def k9 : Nat × List V := (0,[(.int .u64 0)])
def k10 : Nat × List V := (0,[(.int .u8 0),(.int .u8 248),(.int .u8 0),(.sl 10 0 0 1 1 false)])
def f_b : List V := mkE [] 0
def g_b : Heap := [k0,k1,k2,k3,k4,k4,k5,k6,k7,k8,k9,k10]
def f_r0 : List V := mkE [(0,(.ptr 2 0 0)),(1,(.bool false))] 134
def g_r0 : Heap := [k0,k1,k2,k3,k4,k4,k5,k6,k7,k8,k9,k10]
def k11 : Nat × List V := (0,[(.int .i64 0)])
def f_r1 : List V := mkE [(0,(.ptr 2 0 0)),(1,(.bool false)),(0,(.sl 12 0 0 1 1 false)),(7,(.sl 12 0 0 1 1 false))] 125
def g_r1 : Heap := [k0,k1,k2,k3,k4,k4,k5,k6,k7,k8,k9,k10,k11]
def k12 : Nat × List V := (0,[(.ptr 11 0 0),(.ptr 17 0 0),.nilp,.nilp,.nilp])
def k13 : Nat × List V := (1,[(.int .i64 1)])
def k14 : Nat × List V := (1,[(.int .u64 1)])
def k15 : Nat × List V := (0,[(.int .u8 0),(.int .u8 248),(.int .u8 8),(.sl 14 1 0 1 1 false)])
def k16 : Nat × List V := (0,[(.int .u8 0),(.int .u8 248),(.int .u8 8),(.sl 16 1 0 1 1 false)])
def f_l0 : List V := mkE [(0,(.ptr 2 0 0)),(2,(.sl 12 1 0 1 1 false)),(2,(.ptr 15 0 0)),(41,(.fz [(.int .i64 1)])),(0,(.int .i64 1)),(0,(.int .i64 1)),(0,(.bool false))] 85
def g_l0 : Heap := [k0,k12,k2,k3,k4,k4,k5,k6,k7,k8,k9,k10,k13,k4,k14,k15,k14,k16]
def k17 : Nat × List V := (0,[(.ptr 11 0 0),(.ptr 17 0 0),(.ptr 22 0 0),.nilp,.nilp])
def k18 : Nat × List V := (2,[(.int .i64 2)])
def k19 : Nat × List V := (0,[(.int .u8 8),(.int .u8 240),(.int .u8 8),(.sl 19 1 0 1 1 false)])
def k20 : Nat × List V := (0,[(.int .u8 8),(.int .u8 240),(.int .u8 8),(.sl 21 1 0 1 1 false)])
def f_l1 : List V := mkE [(0,(.ptr 2 0 0)),(2,(.sl 12 2 0 1 1 false)),(2,(.ptr 20 0 0)),(41,(.fz [(.int .i64 2)])),(0,(.int .i64 1)),(0,(.int .i64 1)),(0,(.bool false))] 85
def g_l1 : Heap := [k0,k17,k2,k3,k4,k4,k5,k6,k7,k8,k9,k10,k18,k4,k14,k15,k14,k16,k5,k14,k19,k14,k20]
def k21 : Nat × List V := (0,[(.ptr 11 0 0),(.ptr 17 0 0),(.ptr 22 0 0),(.ptr 27 0 0),.nilp])
def k22 : Nat × List V := (3,[(.int .i64 3)])
def k23 : Nat × List V := (0,[(.int .u8 10),(.int .u8 240),(.int .u8 8),(.sl 24 1 0 1 1 false)])
def k24 : Nat × List V := (0,[(.int .u8 10),(.int .u8 240),(.int .u8 8),(.sl 26 1 0 1 1 false)])
def f_l2 : List V := mkE [(0,(.ptr 2 0 0)),(2,(.sl 12 3 0 1 1 false)),(2,(.ptr 25 0 0)),(41,(.fz [(.int .i64 3)])),(0,(.int .i64 1)),(0,(.int .i64 1)),(0,(.bool false))] 85
def g_l2 : Heap := [k0,k21,k2,k3,k4,k4,k5,k6,k7,k8,k9,k10,k22,k4,k14,k15,k14,k16,k5,k14,k19,k14,k20,k6,k14,k23,k14,k24]
def k25 : Nat × List V := (0,[(.ptr 11 0 0),(.ptr 17 0 0),(.ptr 22 0 0),(.ptr 27 0 0),(.ptr 32 0 0)])
def k26 : Nat × List V := (4,[(.int .i64 4)])
def k27 : Nat × List V := (0,[(.int .u8 10),(.int .u8 248),(.int .u8 8),(.sl 29 1 0 1 1 false)])
def k28 : Nat × List V := (0,[(.int .u8 10),(.int .u8 248),(.int .u8 8),(.sl 31 1 0 1 1 false)])
def f_l3 : List V := mkE [(0,(.ptr 2 0 0)),(2,(.sl 12 4 0 1 1 false)),(2,(.ptr 30 0 0)),(41,(.fz [(.int .i64 4)])),(0,(.int .i64 1)),(0,(.int .i64 1)),(0,(.bool false))] 85
def g_l3 : Heap := [k0,k25,k2,k3,k4,k4,k5,k6,k7,k8,k9,k10,k26,k4,k14,k15,k14,k16,k5,k14,k19,k14,k20,k6,k14,k23,k14,k24,k7,k14,k27,k14,k28]
def k29 : Nat × List V := (0,[(.int .u8 10),(.int .u8 248),(.int .u8 8),(.sl 34 1 0 1 1 false)])
def f_l4 : List V := mkE [(0,(.ptr 2 0 0)),(2,(.sl 12 4 0 0 1 false)),(2,(.ptr 35 0 0)),(41,(.fz [])),(0,(.int .i64 0)),(0,(.int .i64 0)),(0,(.bool false))] 85
def g_l4 : Heap := [k0,k25,k2,k3,k4,k4,k5,k6,k7,k8,k9,k10,k26,k4,k14,k15,k14,k16,k5,k14,k19,k14,k20,k6,k14,k23,k14,k24,k7,k14,k27,k14,k28,k8,k14,k29]
def f_l5 : List V := mkE [(0,(.ptr 2 0 0)),(2,(.sl 12 4 0 0 1 false)),(8,(.sl 12 4 0 0 1 false)),(0,(.int .i64 0)),(0,(.bool false))] 122
def g_l5 : Heap := [k0,k25,k2,k3,k4,k4,k5,k6,k7,k8,k9,k10,k26,k4,k14,k15,k14,k16,k5,k14,k19,k14,k20,k6,k14,k23,k14,k24,k7,k14,k27,k14,k28,k8,k14,k29]
def f_q : List V := mkE [(0,(.ptr 2 0 0)),(2,(.sl 12 4 0 0 1 false)),(8,(.sl 12 4 0 0 1 false)),(0,(.int .i64 0)),(0,(.bool false)),(92,(.ptr 2 0 0)),(0,(.ptr 2 0 0)),(0,(.ptr 2 0 11)),(0,(.sl 1 0 0 5 1 false)),(0,(.int .i64 5)),(0,(.int .i64 0))] 24
def g_q : Heap := [k0,k25,k2,k3,k4,k4,k5,k6,k7,k8,k9,k10,k26,k4,k14,k15,k14,k16,k5,k14,k19,k14,k20,k6,k14,k23,k14,k24,k7,k14,k27,k14,k28,k8,k14,k29]
def f_m0 : List V := mkE [(0,(.ptr 2 0 0)),(8,(.int .i64 0)),(0,(.ptr 11 0 0)),(99,(.sl 1 0 0 5 1 false)),(0,(.int .i64 5)),(0,(.int .i64 1)),(0,(.bool true)),(0,(.int .i64 0)),(0,(.ptr 1 0 0)),(0,(.ptr 11 0 0)),(0,(.ptr 11 0 0)),(0,(.bool true)),(0,(.bool true)),(0,(.ptr 2 0 0)),(0,(.ptr 11 0 0)),(0,(.ptr 2 0 0)),(0,(.ptr 2 0 0)),(0,(.ptr 2 0 0)),(0,(.fp (.ag [(.str ⟨#[102]⟩),(.fz []),(.int .u8 4),(.int .i64 1),(.fz [(cV 6 0 3 0),(cV 1 3 0 5),(cV 2 1 3 0),(cV 5 3 0 0),(cV 16 1 0 0)])]))),(0,(.fp (.ag [(.str ⟨#[102]⟩),(.fz []),(.int .u8 4),(.int .i64 1),(.fz [(cV 6 0 3 0),(cV 1 3 0 5),(cV 2 1 3 0),(cV 5 3 0 0),(cV 16 1 0 0)])]))),(0,(.fp (.fz [(cV 6 0 3 0),(cV 1 3 0 5),(cV 2 1 3 0),(cV 5 3 0 0),(cV 16 1 0 0)]))),(0,(.fz [(cV 6 0 3 0),(cV 1 3 0 5),(cV 2 1 3 0),(cV 5 3 0 0),(cV 16 1 0 0)])),(0,(.int .i64 0)),(0,(.fp (cV 6 0 3 0))),(0,(cV 6 0 3 0)),(0,(.int .i64 0)),(0,(.bool true)),(0,(.bool false)),(0,(.bool false)),(0,(.int .i64 1))] 0
def g_m0 : Heap := [k0,k25,k2,k3,k4,k4,k5,k6,k7,k8,k9,k10,k26,k4,k14,k15,k14,k16,k5,k14,k19,k14,k20,k6,k14,k23,k14,k24,k7,k14,k27,k14,k28,k8,k14,k29]
def f_m1 : List V := mkE [(0,(.ptr 2 0 0)),(8,(.int .i64 1)),(0,(.ptr 17 0 0)),(99,(.sl 1 0 0 5 1 false)),(0,(.int .i64 5)),(0,(.int .i64 2)),(0,(.bool true)),(0,(.int .i64 1)),(0,(.ptr 1 0 1)),(0,(.ptr 17 0 0)),(0,(.ptr 17 0 0)),(0,(.bool true)),(0,(.bool true)),(0,(.ptr 2 0 0)),(0,(.ptr 17 0 0)),(0,(.ptr 2 0 0)),(0,(.ptr 2 0 0)),(0,(.ptr 2 0 0)),(0,(.fp (.ag [(.str ⟨#[102]⟩),(.fz []),(.int .u8 4),(.int .i64 1),(.fz [(cV 6 0 3 0),(cV 1 3 0 5),(cV 2 1 3 0),(cV 5 3 0 0),(cV 16 1 0 0)])]))),(0,(.fp (.ag [(.str ⟨#[102]⟩),(.fz []),(.int .u8 4),(.int .i64 1),(.fz [(cV 6 0 3 0),(cV 1 3 0 5),(cV 2 1 3 0),(cV 5 3 0 0),(cV 16 1 0 0)])]))),(0,(.fp (.fz [(cV 6 0 3 0),(cV 1 3 0 5),(cV 2 1 3 0),(cV 5 3 0 0),(cV 16 1 0 0)]))),(0,(.fz [(cV 6 0 3 0),(cV 1 3 0 5),(cV 2 1 3 0),(cV 5 3 0 0),(cV 16 1 0 0)])),(0,(.int .i64 1)),(0,(.fp (cV 1 3 0 5))),(0,(cV 1 3 0 5)),(0,(.int .i64 1)),(0,(.bool true)),(0,(.bool false)),(0,(.bool false)),(0,(.int .i64 2))] 0
def g_m1 : Heap := [k0,k25,k2,k3,k4,k4,k5,k6,k7,k8,k9,k10,k26,k4,k14,k15,k14,k16,k5,k14,k19,k14,k20,k6,k14,k23,k14,k24,k7,k14,k27,k14,k28,k8,k14,k29]
def f_m2 : List V := mkE [(0,(.ptr 2 0 0)),(8,(.int .i64 2)),(0,(.ptr 22 0 0)),(99,(.sl 1 0 0 5 1 false)),(0,(.int .i64 5)),(0,(.int .i64 3)),(0,(.bool true)),(0,(.int .i64 2)),(0,(.ptr 1 0 2)),(0,(.ptr 22 0 0)),(0,(.ptr 22 0 0)),(0,(.bool true)),(0,(.bool true)),(0,(.ptr 2 0 0)),(0,(.ptr 22 0 0)),(0,(.ptr 2 0 0)),(0,(.ptr 2 0 0)),(0,(.ptr 2 0 0)),(0,(.fp (.ag [(.str ⟨#[102]⟩),(.fz []),(.int .u8 4),(.int .i64 1),(.fz [(cV 6 0 3 0),(cV 1 3 0 5),(cV 2 1 3 0),(cV 5 3 0 0),(cV 16 1 0 0)])]))),(0,(.fp (.ag [(.str ⟨#[102]⟩),(.fz []),(.int .u8 4),(.int .i64 1),(.fz [(cV 6 0 3 0),(cV 1 3 0 5),(cV 2 1 3 0),(cV 5 3 0 0),(cV 16 1 0 0)])]))),(0,(.fp (.fz [(cV 6 0 3 0),(cV 1 3 0 5),(cV 2 1 3 0),(cV 5 3 0 0),(cV 16 1 0 0)]))),(0,(.fz [(cV 6 0 3 0),(cV 1 3 0 5),(cV 2 1 3 0),(cV 5 3 0 0),(cV 16 1 0 0)])),(0,(.int .i64 2)),(0,(.fp (cV 2 1 3 0))),(0,(cV 2 1 3 0)),(0,(.int .i64 2)),(0,(.bool true)),(0,(.bool false)),(0,(.bool false)),(0,(.int .i64 3))] 0
def g_m2 : Heap := [k0,k25,k2,k3,k4,k4,k5,k6,k7,k8,k9,k10,k26,k4,k14,k15,k14,k16,k5,k14,k19,k14,k20,k6,k14,k23,k14,k24,k7,k14,k27,k14,k28,k8,k14,k29]
def f_m3 : List V := mkE [(0,(.ptr 2 0 0)),(8,(.int .i64 3)),(0,(.ptr 27 0 0)),(99,(.sl 1 0 0 5 1 false)),(0,(.int .i64 5)),(0,(.int .i64 4)),(0,(.bool true)),(0,(.int .i64 3)),(0,(.ptr 1 0 3)),(0,(.ptr 27 0 0)),(0,(.ptr 27 0 0)),(0,(.bool true)),(0,(.bool true)),(0,(.ptr 2 0 0)),(0,(.ptr 27 0 0)),(0,(.ptr 2 0 0)),(0,(.ptr 2 0 0)),(0,(.ptr 2 0 0)),(0,(.fp (.ag [(.str ⟨#[102]⟩),(.fz []),(.int .u8 4),(.int .i64 1),(.fz [(cV 6 0 3 0),(cV 1 3 0 5),(cV 2 1 3 0),(cV 5 3 0 0),(cV 16 1 0 0)])]))),(0,(.fp (.ag [(.str ⟨#[102]⟩),(.fz []),(.int .u8 4),(.int .i64 1),(.fz [(cV 6 0 3 0),(cV 1 3 0 5),(cV 2 1 3 0),(cV 5 3 0 0),(cV 16 1 0 0)])]))),(0,(.fp (.fz [(cV 6 0 3 0),(cV 1 3 0 5),(cV 2 1 3 0),(cV 5 3 0 0),(cV 16 1 0 0)]))),(0,(.fz [(cV 6 0 3 0),(cV 1 3 0 5),(cV 2 1 3 0),(cV 5 3 0 0),(cV 16 1 0 0)])),(0,(.int .i64 3)),(0,(.fp (cV 5 3 0 0))),(0,(cV 5 3 0 0)),(0,(.int .i64 3)),(0,(.bool true)),(0,(.bool false)),(0,(.bool false)),(0,(.int .i64 4))] 0
def g_m3 : Heap := [k0,k25,k2,k3,k4,k4,k5,k6,k7,k8,k9,k10,k26,k4,k14,k15,k14,k16,k5,k14,k19,k14,k20,k6,k14,k23,k14,k24,k7,k14,k27,k14,k28,k8,k14,k29]
def f_m4 : List V := mkE [(0,(.ptr 2 0 0)),(8,(.int .i64 4)),(0,(.ptr 32 0 0)),(99,(.sl 1 0 0 5 1 false)),(0,(.int .i64 5)),(0,(.int .i64 5)),(0,(.bool true)),(0,(.int .i64 4)),(0,(.ptr 1 0 4)),(0,(.ptr 32 0 0)),(0,(.ptr 32 0 0)),(0,(.bool true)),(0,(.bool true)),(0,(.ptr 2 0 0)),(0,(.ptr 32 0 0)),(0,(.ptr 2 0 0)),(0,(.ptr 2 0 0)),(0,(.ptr 2 0 0)),(0,(.fp (.ag [(.str ⟨#[102]⟩),(.fz []),(.int .u8 4),(.int .i64 1),(.fz [(cV 6 0 3 0),(cV 1 3 0 5),(cV 2 1 3 0),(cV 5 3 0 0),(cV 16 1 0 0)])]))),(0,(.fp (.ag [(.str ⟨#[102]⟩),(.fz []),(.int .u8 4),(.int .i64 1),(.fz [(cV 6 0 3 0),(cV 1 3 0 5),(cV 2 1 3 0),(cV 5 3 0 0),(cV 16 1 0 0)])]))),(0,(.fp (.fz [(cV 6 0 3 0),(cV 1 3 0 5),(cV 2 1 3 0),(cV 5 3 0 0),(cV 16 1 0 0)]))),(0,(.fz [(cV 6 0 3 0),(cV 1 3 0 5),(cV 2 1 3 0),(cV 5 3 0 0),(cV 16 1 0 0)])),(0,(.int .i64 4)),(0,(.fp (cV 16 1 0 0))),(0,(cV 16 1 0 0)),(0,(.int .i64 4)),(0,(.bool true)),(0,(.bool false)),(0,(.bool false)),(0,(.int .i64 5))] 0
def g_m4 : Heap := [k0,k25,k2,k3,k4,k4,k5,k6,k7,k8,k9,k10,k26,k4,k14,k15,k14,k16,k5,k14,k19,k14,k20,k6,k14,k23,k14,k24,k7,k14,k27,k14,k28,k8,k14,k29]
def f_m5 : List V := mkE [(0,(.ptr 2 0 0)),(109,(.sl 1 0 0 5 1 false)),(0,(.int .i64 5)),(0,(.int .i64 5)),(0,(.bool false))] 23
def g_m5 : Heap := [k0,k25,k2,k3,k4,k4,k5,k6,k7,k8,k9,k10,k26,k4,k14,k15,k14,k16,k5,k14,k19,k14,k20,k6,k14,k23,k14,k24,k7,k14,k27,k14,k28,k8,k14,k29]
def f_z : List V := mkE [(0,(.ptr 2 0 0)),(1,(.bool true)),(107,(.sl 1 0 0 5 1 false)),(0,(.int .i64 5)),(0,(.int .i64 5)),(0,(.bool false))] 23
def g_z : Heap := [k0,k25,k2,k3,k4,k4,k5,k6,k7,k8,k9,k10,k26,k4,k14,k15,k14,k16,k5,k14,k19,k14,k20,k6,k14,k23,k14,k24,k7,k14,k27,k14,k28,k8,k14,k29]
end Go.Eng.Cod
namespace Go.Eng.Cod
open Go Go.Eng
set_option linter.unusedSectionVars false
set_option maxRecDepth 100000
theorem s_b : exF T 60 22 [.fp (E_Unit.e keepsU)] [] = some (.ptr 2 0 0,g_b) := by kernel_rfl
end Go.Eng.Cod
namespace Go.Eng.Cod
open Go Go.Eng
set_option linter.unusedSectionVars false
set_option maxRecDepth 100000
theorem s_r0 : exec (exF T 60) 60 (.rgn i23r0) ((.ptr 2 0 0) :: List.replicate 136 .un) g_b = some (.nrm,f_r0,g_b) := by kernel_rfl
theorem s_r1 : exec (exF T 60) 60 (.rgn i23r1) f_r0 g_b = some (.nrm,f_r1,g_r1) := by kernel_rfl
theorem s_l0 : exec (exF T 60) 60 bL f_r1 g_r1 = some (.nrm,f_l0,g_l0) := by kernel_rfl
theorem s_l1 : exec (exF T 60) 60 bL f_l0 g_l0 = some (.nrm,f_l1,g_l1) := by kernel_rfl
theorem s_l2 : exec (exF T 60) 60 bL f_l1 g_l1 = some (.nrm,f_l2,g_l2) := by kernel_rfl
end Go.Eng.Cod
namespace Go.Eng.Cod
open Go Go.Eng
set_option linter.unusedSectionVars false
set_option maxRecDepth 100000
theorem s_l3 : exec (exF T 60) 60 bL f_l2 g_l2 = some (.nrm,f_l3,g_l3) := by kernel_rfl
theorem s_l4 : exec (exF T 60) 60 bL f_l3 g_l3 = some (.nrm,f_l4,g_l4) := by kernel_rfl
theorem s_l5 : exec (exF T 60) 60 bL f_l4 g_l4 = some (.ext 0,f_l5,g_l5) := by kernel_rfl
end Go.Eng.Cod
namespace Go.Eng.Cod
open Go Go.Eng
set_option linter.unusedSectionVars false
set_option maxRecDepth 100000
theorem s_q : exec (exF T 60) 60 (.rgn i23r41) f_l5 g_l5 = some (.nrm,f_q,g_q) := by kernel_rfl
theorem s_m0 : exec (exF T 60) 60 bM f_q g_q = some (.nrm,f_m0,g_m0) := by kernel_rfl
theorem s_m1 : exec (exF T 60) 60 bM f_m0 g_m0 = some (.nrm,f_m1,g_m1) := by kernel_rfl
theorem s_m2 : exec (exF T 60) 60 bM f_m1 g_m1 = some (.nrm,f_m2,g_m2) := by kernel_rfl
theorem s_m3 : exec (exF T 60) 60 bM f_m2 g_m2 = some (.nrm,f_m3,g_m3) := by kernel_rfl
theorem s_m4 : exec (exF T 60) 60 bM f_m3 g_m3 = some (.nrm,f_m4,g_m4) := by kernel_rfl
theorem s_m5 : exec (exF T 60) 60 bM f_m4 g_m4 = some (.ext 5,f_m5,g_m5) := by kernel_rfl
theorem s_z : exec (exF T 60) 60 i23n60 f_m5 g_m5 = some (.ret,f_z,g_z) := by kernel_rfl
end Go.Eng.Cod
namespace Go.Eng.Cod
open Go Go.Eng
set_option linter.unusedSectionVars false
set_option maxRecDepth 100000
theorem c9 {x0 : List T_Unit} {r : List Int × Int} (h : F9 x0 = some r) : Fn T 9 [Zl E_Unit x0] [] (fun v hh => deep false hh deepN v = some (.tup [(EL (EI .u8)).e r.1,(EI .i64).e r.2])) := by
  unfold F9 at h
  split at h
  · rename_i hx; subst hx; cases h
    exact Fn.now 60 (by kernel_rfl)
  · cases h
end Go.Eng.Cod
namespace Go.Eng.Cod
open Go Go.Eng
set_option linter.unusedSectionVars false
set_option maxRecDepth 100000
theorem c10 {x0 : List Int} {r : List T_Unit × Int} (h : F10 x0 = some r) : Fn T 10 [Zl (EI .u8) x0] [] (fun v hh => deep false hh deepN v = some (.tup [(EL E_Unit).e r.1,(EI .i64).e r.2])) := by
  unfold F10 at h
  split at h
  · rename_i hx; subst hx; cases h
    exact Fn.now 60 (by kernel_rfl)
  · cases h
end Go.Eng.Cod
namespace Go.Eng.Cod
open Go Go.Eng
set_option linter.unusedSectionVars false
set_option maxRecDepth 100000
theorem sound1 : (exF T 60 14 [Zl E_Unit [keepsU],.int .i64 1] []).map (·.1) = some (.bool false) := by kernel_rfl
end Go.Eng.Cod
namespace Go.Eng.Cod
open Go Go.Eng
set_option linter.unusedSectionVars false
set_option maxRecDepth 100000
theorem run23 : Fn T 23 [.ptr 2 0 0] g_b (fun v _ => v = .bool true) := by
  refine Fn.enterE t23 (e0 := (.ptr 2 0 0) :: List.replicate 136 .un) rfl ?_;show Run T i23n64 _ _ (finE none [2] _);refine Run.seq (Run.ex 60 s_r0 ?_);show Run T i23n63 f_r0 g_b _;refine Run.seq (Run.ex 60 s_r1 ?_);show Run T i23n62 f_r1 g_r1 _;refine Run.seq (Run.block ?_);show Run T (.loop bL) f_r1 g_r1 _;refine Run.loop1 (Run.ex 60 s_l0 ?_);show Run T (.loop bL) f_l0 g_l0 _;refine Run.loop1 (Run.ex 60 s_l1 ?_);show Run T (.loop bL) f_l1 g_l1 _;refine Run.loop1 (Run.ex 60 s_l2 ?_);show Run T (.loop bL) f_l2 g_l2 _;refine Run.loop1 (Run.ex 60 s_l3 ?_);show Run T (.loop bL) f_l3 g_l3 _;refine Run.loop1 (Run.ex 60 s_l4 ?_);show Run T (.loop bL) f_l4 g_l4 _;refine Run.loop1 (Run.ex 60 s_l5 ?_);show Run T i23n61 f_l5 g_l5 _;refine Run.seq (Run.seq (Run.ex 60 s_q ?_));refine Run.block ?_;show Run T (.loop bM) f_q g_q _;refine Run.loop1 (Run.ex 60 s_m0 ?_);show Run T (.loop bM) f_m0 g_m0 _;refine Run.loop1 (Run.ex 60 s_m1 ?_);show Run T (.loop bM) f_m1 g_m1 _;refine Run.loop1 (Run.ex 60 s_m2 ?_);show Run T (.loop bM) f_m2 g_m2 _;refine Run.loop1 (Run.ex 60 s_m3 ?_);show Run T (.loop bM) f_m3 g_m3 _;refine Run.loop1 (Run.ex 60 s_m4 ?_);show Run T (.loop bM) f_m4 g_m4 _;refine Run.loop1 (Run.ex 60 s_m5 ?_);show Run T i23n60 f_m5 g_m5 _;refine Run.ex 60 s_z ?_;exact ⟨.bool true,rfl,rfl⟩
theorem fn22 : Fn T 22 [.fp (E_Unit.e keepsU)] [] (fun v h => v = .ptr 2 0 0 ∧ h = g_b) := ⟨60,_,_,s_b,rfl,rfl⟩
abbrev e14 : List V := [Zl E_Unit [keepsU],.int .i64 0] ++ List.replicate 27 .un
def e14b : List V := mkE [(0,Zl E_Unit [keepsU]),(0,.int .i64 0),(2,.bool false),(0,.int .i64 0),(0,.int .i64 0),(0,.tup [.int .i64 0,.int .i64 0]),(0,Zl E_Unit [keepsU]),(0,.tup [.int .i64 0,.int .i64 0]),(0,.int .i64 0),(0,.int .i64 0)] 17
def e14a : List V := mkE [(0,Zl E_Unit [keepsU]),(0,.int .i64 0),(2,.bool false)] 24
theorem o14 : exec (exF T 60) 60 (.rgn i14r0) e14 [] = some (.nrm,e14a,[]) := by kernel_rfl
theorem p14 : exec (exF T 60) 60 (.rgn i14r1) e14a [] = some (.nrm,e14b,[]) := by kernel_rfl
def e14c : List V := mkE [(0,Zl E_Unit [keepsU]),(0,.int .i64 0),(2,.bool false),(0,.int .i64 0),(0,.int .i64 0),(0,.tup [.int .i64 0,.int .i64 0]),(0,Zl E_Unit [keepsU]),(0,.tup [.int .i64 0,.int .i64 0]),(0,.int .i64 0),(0,.int .i64 0),(0,.int .i64 0),(0,.bool false),(0,.bool false),(0,.int .i64 0),(0,.bool false),(0,.bool false),(0,.bool false),(0,.int .i64 0),(0,Zl E_Unit [keepsU]),(0,.int .i64 1),(0,.bool false),(0,.bool false)] 5
theorem q14 : exec (exF T 60) 60 i14n6 e14b [] = some (.nrm,e14c,[]) := by kernel_rfl
end Go.Eng.Cod
namespace Go.Eng.Cod
open Go Go.Eng
set_option linter.unusedSectionVars false
set_option maxRecDepth 100000
theorem sound0 : Fn T 14 [Zl E_Unit [keepsU],.int .i64 0] [] (fun v _ => v = .bool true) := by
  refine Fn.enterE t14 (e0 := e14) rfl ?_;show Run T i14n11 _ _ (finE none [4] _);refine Run.seq (Run.ex 60 o14 ?_);show Run T i14n10 e14a [] _;refine Run.seq (Run.seq (Run.ex 60 p14 ?_));show Run T i14n6 e14b [] _;refine Run.ex 60 q14 ?_;show Run T i14n9 e14c [] _;refine Run.seq (Run.rgn ?_);refine RunO.tk 3 (by kernel_rfl) ?_;refine RunO.h1 (us := [.fp (E_Unit.e keepsU)]) (n := 22) (caps := []) (by kernel_rfl) rfl (by kernel_rfl) (fn22.mono ?_);rintro v h ⟨rfl,rfl⟩;refine RunO.h1 (us := [.ptr 2 0 0]) (n := 23) (caps := []) (by kernel_rfl) rfl (by kernel_rfl) (run23.mono ?_);rintro v h rfl;refine RunO.tk 1 (by kernel_rfl) (RunO.nil ?_);refine Run.ret ?_;exact ⟨.bool true,by kernel_rfl,rfl⟩
theorem c14 {x0 : List T_Unit} {u : Int} {r : Bool} (h : F14 x0 u = some r) (s : Bool) : Fn T 14 [Zl E_Unit x0,.int .i64 u] [] (fun v hh => deep s hh deepN v = some (EB.e r)) := by
  unfold F14 at h
  split at h
  · rename_i hx; obtain ⟨rfl,rfl⟩ := hx; cases h
    exact sound0.mono fun v hh hv => by rw [hv]; rfl
  · split at h
    · rename_i hx; obtain ⟨rfl,rfl⟩ := hx; cases h
      have h1 := sound1;cases he : exF T 60 14 [Zl E_Unit [keepsU],.int .i64 1] [] with
      | none => rw [he] at h1; cases h1
      | some q =>
        rw [he] at h1;have h2 : q.1 = .bool false := Option.some.inj h1;refine ⟨60,q.1,q.2,he,?_⟩;rw [h2]; rfl
    · cases h
end Go.Eng.Cod
