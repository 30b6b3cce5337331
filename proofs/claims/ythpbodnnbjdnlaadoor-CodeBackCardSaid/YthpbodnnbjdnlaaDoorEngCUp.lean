/- Functions of this seat, run on unknown values by the rules of the small machine (no condition beyond those stated). -/
import Derived.Test.YthpbodnnbjdnlaaDoorEngAUp
import Derived.Tactics
import Derived.WalkKit
namespace Go.Eng
open Go
set_option linter.unusedSectionVars false
set_option linter.unusedVariables false
set_option linter.unusedSimpArgs false
variable [Glob]
def szOf (P : Program) (t : TypeId) : Option Nat := (P.info? t).map (·.size)
def agOf (P : Program) (t : TypeId) : Bool := match P.underlying t with | some (.struct _) | some (.array _ _) => true | _ => false
def hasT (P : Program) (t : TypeId) : Bool := (P.underlying t).isSome
def chkSh (P : Program) (t : TypeId) (n : Sh) : Bool :=
  match n with
  | none => hasT P t && !agOf P t && szOf P t == some 1
  | some m => agOf P t && szOf P t == some m
def isV0 : Value → V → Bool
  | .bool a,.bool b => a == b
  | .int k n,.int k' n' => k == k' && n == n'
  | .string s,.str s' => s.data.toList == s'.data.toList
  | .pointer none,.nilp => true
  | .slice none 0 0,.nils => true
  | .slice none 0 0,.fz [] => true
  | .map none,.mpn => true
  | .nilFunc,.nilf => true
  | .nilIface,.nili => true
  | .float .f64 b,.fl (some b') => b == b'
  | _,_ => false
def all2 {α β : Type} (f : α → β → Bool) : List α → List β → Bool
  | [],[] => true
  | a :: l,b :: r => f a b && all2 f l r
  | _,_ => false
def isV (v : Value) (u : V) : Bool :=
  match v,u with
  | .agg a,.ag cs => all2 isV0 a.toList cs
  | v,u => isV0 v u
def sameC : V → V → Bool
  | .bool a,.bool b => a == b
  | .int k n,.int k' n' => k == k' && n == n'
  | _,_ => false
theorem sameC_eq {a b : V} (h : sameC a b = true) : a = b := by
  unfold sameC at h
  split at h
  · rw [beq_iff_eq] at h; rw [h]
  · simp only [Bool.and_eq_true,beq_iff_eq] at h; rw [h.1,h.2]
  · cases h
theorem all2_same : ∀ {l r : List V},all2 sameC l r = true → l = r
  | [],[],_ => rfl
  | a :: l,b :: r,h => by
    simp only [all2,Bool.and_eq_true] at h;rw [sameC_eq h.1,all2_same h.2]
  | [],_ :: _,h => by simp [all2] at h
  | _ :: _,[],h => by simp [all2] at h
def chkOpd (o : Operand) (d : Opd) : Bool :=
  match o,d with
  | .global g,.c (.fp (.ag cs)) => match Glob.val g with | some cs' => all2 sameC cs cs' | none => false
  | .tmp n,.t m => n == m
  | .const v,.c u => isV v u
  | .func f,.c (.fn g []) => f == g
  | _,_ => false
theorem isV0_sound {wr : Nat → Prop} {W : World} {own : Own} {v : Value} {u : V} (h : isV0 v u = true) : VR wr W own u v := by
  unfold isV0 at h
  split at h
  · rw [beq_iff_eq] at h; subst h; exact .bool _
  · simp only [Bool.and_eq_true,beq_iff_eq] at h; obtain ⟨rfl,rfl⟩ := h; exact .int _ _
  · rename_i s s'
    have e : s = s' := by
      rw [beq_iff_eq] at h; cases s; cases s'; simp at h; simp [h]
    subst e; exact .str _
  · exact .nilp
  · exact .nils
  · exact .fzn
  · exact .mpn
  · exact .nilf
  · exact .nili
  · rw [beq_iff_eq] at h; subst h; exact .flt _
  · simp at h
theorem all2_get {α β : Type} {f : α → β → Bool} : ∀ {l : List α} {r : List β},all2 f l r = true → l.length = r.length ∧ ∀ (j : Nat) a b,l[j]? = some a → r[j]? = some b → f a b = true
  | [],[],_ => ⟨rfl,fun j a b h => by simp at h⟩
  | a :: l,b :: r,h => by
    simp only [all2,Bool.and_eq_true] at h;have ih := all2_get h.2;refine ⟨by simp [ih.1],fun j x y hx hy => ?_⟩;cases j with
    | zero => simp at hx hy; subst hx; subst hy; exact h.1
    | succ j => exact ih.2 j x y hx hy
  | [],_ :: _,h => by simp [all2] at h
  | _ :: _,[],h => by simp [all2] at h
theorem getD_of_some {α : Type} {l : Array α} {j : Nat} {x d : α} (h : l[j]? = some x) : l.getD j d = x := by
  simp [Array.getD_eq_getD_getElem?,h]
theorem isV_sound {wr : Nat → Prop} {W : World} {own : Own} {v : Value} {u : V} (h : isV v u = true) : VR wr W own u v := by
  unfold isV at h
  split at h
  · rename_i a cs
    have g := all2_get h;refine .ag (by rw [← g.1]; simp) ?_;intro j c hj;have hlt : j < a.toList.length := by rw [g.1]; exact (List.getElem?_eq_some_iff.mp hj).1
    have hx : a.toList[j]? = some a.toList[j] := List.getElem?_eq_getElem hlt;have hx' : a[j]? = some a.toList[j] := by simp
    rw [getD_of_some hx'];exact isV0_sound (g.2 j _ _ hx hj)
  · exact isV0_sound h
theorem opd_sim {wr : Nat → Prop} {W : World} {own : Own} (hG : GOk wr W) {env : List V} {a : Act} (hv : ∀ t,VR wr W own (env.getD t .un) (a.tmps.getD t undef))
    {o : Operand} {d : Opd} (h : chkOpd o d = true) : VR wr W own (d.ev env) (a.eval o) := by
  unfold chkOpd at h
  split at h
  · split at h
    · rename_i cs' hg
      rw [all2_same h];exact (hG _ _ hg).own_any
    · cases h
  · rw [beq_iff_eq] at h; subst h; exact hv _
  · exact isV_sound h
  · rw [beq_iff_eq] at h; subst h; exact .fn rfl (fun j c h => by simp at h)
  · simp at h
def chkOpt (o : Option Operand) (d : Option Opd) : Bool :=
  match o,d with
  | none,none => true
  | some o,some d => chkOpd o d
  | _,_ => false
def sliceOf (P : Program) (t : TypeId) : Option TypeId := match P.underlying t with | some (.slice e) => some e | _ => none
def chkEl (P : Program) (t : TypeId) (z : Nat) (ag : Bool) : Bool :=
  match sliceOf P t with
  | some e => szOf P e == some z && agOf P e == ag && hasT P e && decide (0 < z) && (ag || z == 1)
  | none => false
def fieldOf (P : Program) (t : TypeId) (f : Nat) : Option Field := match P.underlying t with | some (.struct fs) => fs[f]? | _ => none
def zeroOf (P : Program) (t : TypeId) : Option Value := (P.info? t).bind (·.zero)
def chkZero (P : Program) (t : TypeId) (zc : List V) : Bool :=
  match zeroOf P t with
  | some v => all2 isV0 v.cells.toList zc
  | none => false
def chkCls (P : Program) (_op : BinOp) (t : TypeId) (y : Operand) (cl : Cls) : Bool :=
  match cl with
  | .num => true
  | .bool => (P.underlying t matches some .bool)
  | .ptr => (P.underlying t matches some (.pointer _))
  | .slice => (P.underlying t matches some (.slice _))
  | .func => (P.underlying t matches some (.func _ _ _))
  | .iface => (P.underlying t matches some (.interface _)) && (y matches .const _)
def chkParts (P : Program) (fs : Array Field) : List (Nat × Operand) → List (Nat × Nat × Opd) → Bool
  | [],[] => true
  | (i,x) :: r,(off,size,d) :: s => (match fs[i]? with | some f => f.offset == off && szOf P f.type == some size | none => false) && chkOpd x d && chkParts P fs r s
  | _,_ => false
def isU8 (P : Program) (t : TypeId) : Bool := match sliceOf P t with | some e => (P.underlying e matches some (.int .u8)) && szOf P e == some 1 | none => false
def XF.name : XF → String
  | .bits => "math.Float64bits"
  | .frombits => "math.Float64frombits"
  | .trunc => "math.archTrunc"
def chkX (P : Program) (f : FuncId) (e : XF) : Bool :=
  match P.funcs[f]? with
  | some fn => fn.name == e.name && fn.origin == "" && fn.body.isNone
  | none => false
def chkXB (P : Program) (f : FuncId) : Bool :=
  match P.funcs[f]? with
  | some fn => fn.name == "internal/bytealg.IndexByteString" && fn.origin == "" && fn.body.isNone
  | none => false
def leafT (P : Program) (t : TypeId) : Leaf → Bool
  | .bool => (P.underlying t matches some .bool)
  | .int => (P.underlying t matches some (.int _))
  | .str => (P.underlying t matches some .string)
def chkEqF (P : Program) (rec : TypeId → List Leaf → Bool) : Nat → List Field → List Leaf → Bool
  | _,[],[] => true
  | o,f :: fs,sig => match szOf P f.type with
    | some z => f.name != "_" && f.offset == o && decide (0 < z ∧ z ≤ sig.length) && chkSh P f.type (if agOf P f.type then some z else none) && rec f.type (sig.take z) && chkEqF P rec (o + z) fs (sig.drop z)
    | none => false
  | _,[],_ :: _ => false
def chkEqT (P : Program) : Nat → TypeId → List Leaf → Bool
  | 0,_,_ => false
  | n + 1,t,sig => match P.underlying t with
    | some (.struct fs) => !P.stoodInHeld t && chkEqF P (chkEqT P n) 0 fs.toList sig
    | some (.array l e) => match szOf P e with
      | some z => sig.length == l * z && chkSh P e (if agOf P e then some z else none) && (List.range l).all fun i => chkEqT P n e ((sig.drop (i * z)).take z)
      | none => false
    | _ => match sig with
      | [l] => leafT P t l
      | _ => false
def chkPartsA (z : Nat) : List (Nat × Operand) → List (Nat × Nat × Opd) → Bool
  | [],[] => true
  | (i,x) :: r,(off,size,d) :: s => off == i * z && size == z && chkOpd x d && chkPartsA z r s
  | _,_ => false
def isMapI (P : Program) (t : TypeId) : Bool := match P.underlying t with | some (.map kt _) => (P.underlying kt matches some (.int _)) | _ => false
def chkK (P : Program) (o : Op) (k : Kind) : Bool :=
  match o,k with
  | .move x,.mov d => chkOpd x d
  | .assign x,.mov d => chkOpd x d
  | .pick c a b,.pick c' a' b' => chkOpd c c' && chkOpd a a' && chkOpd b b'
  | .binOp op t x y _,.bin cl op' x' y' => op == op' && chkOpd x x' && chkOpd y y' && chkCls P op t y cl
  | .unOp op _ x,.un op' x' => op == op' && chkOpd x x'
  | .convert s d x,.cvt k x' => chkOpd x x' && (hasT P s) && (match P.underlying d with | some (.int k') => k == k' | _ => false)
  | .convert s d x,.b2s x' => chkOpd x x' && isU8 P s && (P.underlying d matches some .string)
  | .load t a,.ld a' n => chkOpd a a' && chkSh P t n
  | .store t a x,.st a' x' n => chkOpd a a' && chkOpd x x' && chkSh P t n
  | .indexAddr t x i,.idxa x' i' z ag => chkOpd x x' && chkOpd i i' && chkEl P t z ag
  | .index t x i,.idxs x' i' => chkOpd x x' && chkOpd i i' && (P.underlying t matches some .string)
  | .field t x f,.fld x' off n => chkOpd x x' && (match fieldOf P t f with | some fl => fl.offset == off && chkSh P fl.type n | none => false)
  | .fieldAddr t x f,.flda x' off n => chkOpd x x' && (match fieldOf P t f with | some fl => fl.offset == off && chkSh P fl.type n && (szOf P fl.type != some 0) | none => false)
  | .box _ x,.box x' _ => chkOpd x x'
  | .box _ x,.boxr x' => chkOpd x x'
  | .alloc t,.alloc zc => chkZero P t zc
  | .build t parts,.bld zero ps => chkZero P t zero && (match P.underlying t with | some (.struct fs) => fs.all (fun f => (szOf P f.type).isSome) && chkParts P fs parts.toList ps | some (.array _ e) => (match szOf P e with | some z => chkPartsA z parts.toList ps | none => false) | _ => false)
  | .buildSlice t n parts,.bsl z ag n' zero ps _ => n == n' && chkEl P t z ag && (match sliceOf P t with | some e => chkZero P e zero.cells | none => false) &&
      all2 (fun p q => p.1 == q.1 && chkOpd p.2 q.2) parts.toList ps && decide (n * z ≤ 16777216)
  | .makeSlice t l c,.mks z ag zc by_ l' c' => chkOpd l l' && chkOpd c c' && chkEl P t z ag &&
      (match sliceOf P t with | some e => chkZero P e zc && ((P.info? e).map (·.bytes) == some by_) && decide (zc.length = z) | none => false)
  | .slice t x lo hi mx,.slc x' lo' hi' z => chkOpd x x' && chkOpt lo lo' && chkOpt hi hi' && mx.isNone &&
      (match P.underlying t with | some .string => z == 0 | some (.slice e) => szOf P e == some z && z != 0 | _ => false)
  | .call c,.app s x z ag by_ => (match c.callee with | .builtin .append => true | _ => false) &&
      (match c.args.toList,c.argTypes.toList with
       | [s',x'],[st,xt] => chkOpd s' s && chkOpd x' x && chkEl P st z ag && !((P.underlying xt) matches some (.int _)) && hasT P xt &&
          (match sliceOf P st with | some e => ((P.info? e).map (·.bytes) == some by_) && decide (0 < by_) && ((zeroOf P e).map (·.cells.size) == some z) | none => false)
       | _,_ => false)
  | .call c,.len s x => (match c.callee with | .builtin .len => true | _ => false) &&
      (match c.args.toList,c.argTypes.toList with
       | [x'],[t] => chkOpd x' x && (match P.underlying t with | some .string => s | some (.slice _) => !s | _ => false)
       | _,_ => false)
  | .call c,.call _ f args => (match c.callee with | .value f' => chkOpd f' f | _ => false) && all2 chkOpd c.args.toList args
  | .extract x i,.ext x' i' => chkOpd x x' && i == i'
  | .nilCheck x,.nchk x' => chkOpd x x'
  | .makeFunc (.func f) first caps,.mkf f' caps' => f == f' && first.isEmpty && all2 chkOpd caps.toList caps'
  | .makeInterface t x,.mki t' x' => t == t' && chkOpd x x' && (match P.underlying t with | some (.interface _) => false | some _ => true | none => false)
  | .binOp op _ x y _,.fbin op' x' y' => op == op' && chkOpd x x' && chkOpd y y'
  | .unOp op _ x,.fneg x' => op == .neg && chkOpd x x'
  | .convert s d x,.i2f x' => chkOpd x x' && hasT P s && (P.underlying d matches some (.float .f64))
  | .convert s d x,.f2i k x' => chkOpd x x' && hasT P s && (match P.underlying d with | some (.int k') => k == k' | _ => false)
  | .call c,.xc e x => (match c.callee with | .value (.func f) => chkX P f e | _ => false) && (match c.args.toList with | [x'] => chkOpd x' x | _ => false)
  | .binOp op t x y _,.eqs ne sig x' y' => op == (if ne then .neq else .eql) && chkOpd x x' && chkOpd y y' && !P.stoodInHeld t && !P.eqGuardType P.depth t &&
      agOf P t && chkEqT P 8 t sig
  | .makeFunc (.func f) first caps,.mkm f' first' => f == f' && caps.isEmpty && all2 chkOpd first.toList first'
  | .call c,.ixb x y => (match c.callee with | .value (.func f) => chkXB P f | _ => false) && (match c.args.toList with | [x',y'] => chkOpd x' x && chkOpd y' y | _ => false)
  | .index t x i,.idxg x' i' len z n => chkOpd x x' && chkOpd i i' && (match P.underlying t with | some (.array l e) => l == len && szOf P e == some z && chkSh P e n | _ => false)
  | .indexAddr t x i,.idxp x' i' len z n => chkOpd x x' && chkOpd i i' && (match P.underlying t with | some (.array l e) => l == len && szOf P e == some z && chkSh P e n | _ => false)
  | .call c,.mnx mx x y => (match c.callee with | .builtin b => b == (if mx then .max else .min) | _ => false) && (match c.args.toList with | [x',y'] => chkOpd x' x && chkOpd y' y | _ => false)
  | .call c,.cln _ f x => (match c.callee with | .value f' => chkOpd f' f | _ => false) && all2 chkOpd c.args.toList [x]
  | .makeMap _ r,.mkmp => r.isNone
  | .lookup t m k ok,.mget m' k' zero ok' => chkOpd m m' && chkOpd k k' && ok == ok' && (match P.underlying t with | some (.map kt et) => (match P.underlying kt,zeroOf P et with | some (.int _),some z => isV z zero | _,_ => false) | _ => false)
  | .mapUpdate t m k x,.mset m' k' x' => chkOpd m m' && chkOpd k k' && chkOpd x x' && isMapI P t
  | .insert t m k x,.mset m' k' x' => chkOpd m m' && chkOpd k k' && chkOpd x x' && isMapI P t
  | .call c,.mdel m' k' => (match c.callee with | .builtin .delete => true | _ => false) &&
      (match c.args.toList,c.argTypes.toList with
       | [m,k],t :: _ => chkOpd m m' && chkOpd k k' && isMapI P t
       | _,_ => false)
  | .call c,.mlen m' => (match c.callee with | .builtin .len => true | _ => false) &&
      (match c.args.toList,c.argTypes.toList with
       | [m],[t] => chkOpd m m' && isMapI P t
       | _,_ => false)
  | .slice t x lo hi mx,.slca x' lo' hi' n z _ => chkOpd x x' && chkOpt lo lo' && chkOpt hi hi' && mx.isNone && (match P.underlying t with | some (.array l e) => l == n && szOf P e == some z | _ => false)
  | _,.stuck => true
  | .call c,.clr x z zc => (match c.callee with | .builtin .clear => true | _ => false) &&
      (match c.args.toList,c.argTypes.toList with
       | [x'],[t] => chkOpd x' x && (match sliceOf P t with | some e => szOf P e == some z && chkZero P e zc && decide (0 < z) && decide (zc.length = z) | none => false)
       | _,_ => false)
  | .slice t x lo (some hi) (some mx),.slcm x' lo' hi' mx' z => chkOpd x x' && chkOpt lo lo' && chkOpd hi hi' && chkOpd mx mx' && (match P.underlying t with | some (.slice e) => szOf P e == some z && z != 0 | _ => false)
  | _,_ => false
def chkOp (P : Program) (ops : Array Oper) (o : Oper) (i : IOp) : Bool :=
  o.dst == i.dst && chkK P o.op i.k &&
  (match o.guard,i.guard with
   | none,none => true
   | some (j,w),some (t,w') => w == w' && ((ops[j]?).bind (·.dst) == some t)
   | _,_ => false)
end Go.Eng
namespace Go.Eng
open Go
set_option linter.unusedSectionVars false
set_option linter.unusedVariables false
set_option linter.unusedSimpArgs false
variable [Glob]
section
variable {wr : Nat → Prop} {W : World} {own : Own} {P : Program}
theorem cells_sim {x : V} {x' : Value} (h : VR wr W own x x') (hx : x.isCell = true ∨ x.isAg = true) :
    x'.cells.size = x.cells.length ∧ ∀ (j : Nat) (c : V),x.cells[j]? = some c → VR wr W own c (x'.cells.getD j undef) := by
  cases h with
  | un => simp [V.isCell,V.isAg] at hx
  | sk => simp [V.isCell,V.isAg] at hx
  | tup => simp [V.isCell,V.isAg] at hx
  | ag hl hv => exact ⟨hl.symm,fun j c hj => hv j c hj⟩
  | bool b => exact ⟨rfl,fun j c hj => by cases j <;> simp [V.cells] at hj; subst hj; exact .bool b⟩
  | int k n => exact ⟨rfl,fun j c hj => by cases j <;> simp [V.cells] at hj; subst hj; exact .int k n⟩
  | str s => exact ⟨rfl,fun j c hj => by cases j <;> simp [V.cells] at hj; subst hj; exact .str s⟩
  | nilp => exact ⟨rfl,fun j c hj => by cases j <;> simp [V.cells] at hj; subst hj; exact .nilp⟩
  | ptr h => exact ⟨rfl,fun j c hj => by cases j <;> simp [V.cells] at hj; subst hj; exact .ptr h⟩
  | fp cv hw hlt hc hv => exact ⟨rfl,fun j c hj => by cases j <;> simp [V.cells] at hj; subst hj; exact .fp cv hw hlt hc hv⟩
  | bx cv hw hlt hc hv => exact ⟨rfl,fun j c hj => by cases j <;> simp [V.cells] at hj; subst hj; exact .bx cv hw hlt hc hv⟩
  | nils => exact ⟨rfl,fun j c hj => by cases j <;> simp [V.cells] at hj; subst hj; exact .nils⟩
  | sl h hl ha hN => exact ⟨rfl,fun j c hj => by cases j <;> simp [V.cells] at hj; subst hj; exact .sl h hl ha hN⟩
  | fz z cv hl hw hz hc hv => exact ⟨rfl,fun j c hj => by cases j <;> simp [V.cells] at hj; subst hj; exact .fz z cv hl hw hz hc hv⟩
  | fzn => exact ⟨rfl,fun j c hj => by cases j <;> simp [V.cells] at hj; subst hj; exact .fzn⟩
  | fn hl hv => exact ⟨rfl,fun j c hj => by cases j <;> simp [V.cells] at hj; subst hj; exact .fn hl hv⟩
  | bm hl hv => exact ⟨rfl,fun j c hj => by cases j <;> simp [V.cells] at hj; subst hj; exact .bm hl hv⟩
  | nilf => exact ⟨rfl,fun j c hj => by cases j <;> simp [V.cells] at hj; subst hj; exact .nilf⟩
  | ifc h => exact ⟨rfl,fun j c hj => by cases j <;> simp [V.cells] at hj; subst hj; exact .ifc h⟩
  | nili => exact ⟨rfl,fun j c hj => by cases j <;> simp [V.cells] at hj; subst hj; exact .nili⟩
  | flt b => exact ⟨rfl,fun j c hj => by cases j <;> simp [V.cells] at hj; subst hj; exact .flt b⟩
  | mpn => exact ⟨rfl,fun j c hj => by cases j <;> simp [V.cells] at hj; subst hj; exact .mpn⟩
  | mp h => exact ⟨rfl,fun j c hj => by cases j <;> simp [V.cells] at hj; subst hj; exact .mp h⟩
  | fze a c => exact ⟨rfl,fun j c hj => by cases j <;> simp [V.cells] at hj; subst hj; exact .fze _ _⟩
  | fnan b h => exact ⟨rfl,fun j c hj => by cases j <;> simp [V.cells] at hj; subst hj; exact .fnan b h⟩
  | nanw b h => exact ⟨rfl,fun j c hj => by cases j <;> simp [V.cells] at hj; subst hj; exact .nanw b h⟩
theorem run_sizeOf' {t : TypeId} {z : Nat} (h : szOf P t = some z) (w : World) : (sizeOf t).run P w = .ok z w := by
  unfold szOf at h;cases hi : P.info? t with
  | none => simp [hi] at h
  | some i => simp [hi] at h; simp [sizeOf,typeInfo,hi,h]
theorem run_isAgg' {t : TypeId} (h : hasT P t = true) (w : World) : (isAgg t).run P w = .ok (agOf P t) w := by
  unfold hasT at h;cases hd : P.underlying t with
  | none => simp [hd] at h
  | some d => cases d <;> simp [isAgg,run_underlying hd,agOf,hd]
theorem hasT_of_ag {t : TypeId} (h : agOf P t = true) : hasT P t = true := by
  unfold agOf at h; unfold hasT; split at h <;> simp_all
theorem run_zeroValue' {t : TypeId} {v : Value} (h : zeroOf P t = some v) (w : World) : (zeroValue t).run P w = .ok v w := by
  unfold zeroOf at h;cases hi : P.info? t with
  | none => simp [hi] at h
  | some i => simp [hi] at h; simp [zeroValue,typeInfo,hi,h]
theorem add_none (b o n : Nat) : (⟨b,o,none⟩ : Addr).add n = ⟨b,o + n,none⟩ := by
  unfold Addr.add; split <;> simp_all
theorem load_row (b o n : Nat) (f : Nat → Value) (h : ∀ j,j < n → W.cell? ⟨b,o + j,none⟩ = some (f j)) :
    (loadCells ⟨b,o,none⟩ n).run P W = .ok ((List.range n).map f).toArray W :=
  run_loadCells W _ n f (fun j hj => by rw [add_none]; exact h j hj)
theorem getD_range_map (n : Nat) (f : Nat → Value) {j : Nat} (h : j < n) : (((List.range n).map f).toArray).getD j undef = f j := by
  simp [Array.getD_eq_getD_getElem?,h]
theorem run_loadVar_sh {t : TypeId} {n : Sh} (hs : chkSh P t n = true) (b o : Nat) (x : V)
    (hx : fitsSh x n = true ∨ (∃ cs off,takeSh cs off n = some x)) (cv : Nat → Value)
    (hc : ∀ j c,x.cells[j]? = some c → W.cell? ⟨b,o + j,none⟩ = some (cv j))
    (hv : ∀ j c,x.cells[j]? = some c → VR wr W own c (cv j))
    (hx1 : n = none → x.cells = [x]) (hx2 : ∀ m,n = some m → ∃ cs,x = .ag cs ∧ cs.length = m) :
    ∃ v',(loadVar t ⟨b,o,none⟩).run P W = .ok v' W ∧ VR wr W own x v' := by
  cases n with
  | none =>
    simp only [chkSh,Bool.and_eq_true,Bool.not_eq_true',beq_iff_eq] at hs;have e := hx1 rfl;have h0 := hc 0 x (by simp [e]);refine ⟨cv 0,?_,hv 0 x (by simp [e])⟩;simp only [Nat.add_zero] at h0
    simp [loadVar,run_isAgg' hs.1.1,hs.1.2,h0]
  | some m =>
    simp only [chkSh,Bool.and_eq_true,beq_iff_eq] at hs;obtain ⟨cs,rfl,hm⟩ := hx2 m rfl;have hl := load_row (P := P) b o m cv (fun j hj => by
      have hj' : j < cs.length := by omega
      exact hc j cs[j] (by simp [V.cells,hj']))
    refine ⟨.agg ((List.range m).map cv).toArray,?_,.ag (by simp [hm]) ?_⟩
    · simp [loadVar,run_isAgg' (hasT_of_ag hs.1),hs.1,run_sizeOf' hs.2,hl]
    · intro j c hj;have hj' : j < m := by rw [← hm]; exact (List.getElem?_eq_some_iff.mp hj).1
      rw [getD_range_map m cv hj']; exact hv j c (by simpa [V.cells] using hj)
theorem fits_cells {x : V} {n : Sh} (h : fitsSh x n = true) : (n = none → x.cells = [x]) ∧ (∀ m,n = some m → ∃ cs,x = .ag cs ∧ cs.length = m) := by
  cases n with
  | none => refine ⟨fun _ => ?_,(fun m h => by cases h)⟩; cases x <;> simp_all [fitsSh,V.isCell,V.cells]
  | some m =>
    refine ⟨(fun h => by cases h),fun m' h' => ?_⟩;cases h';cases x <;> simp_all [fitsSh]
theorem Rd.get {H : Heap} (s : Rd wr W own H) {b g cb sh N : Nat} {cs : List V} (h : rdB H b g = some cs) (ho : own b g = some (cb,sh,N)) :
    ∃ cv : Nat → Value,∀ j c,cs[j]? = some c → W.cell? ⟨cb,sh + j,none⟩ = some (cv j) ∧ VR wr W own c (cv j) := by
  have hb : H[b]? = some (g,cs) := by
    unfold rdB at h; split at h
    · rename_i g' cs' hh; split at h
      · cases h; subst_vars; exact hh
      · cases h
    · cases h
  obtain ⟨cb',sh',N',ho',_,ccs,ty,lo,hi,hheap,_,_,hcells⟩ := s.cells hb ho;rw [ho] at ho'; cases ho';refine ⟨fun j => ccs.getD (sh + j) undef,fun j c hj => ?_⟩;obtain ⟨cv,h1,h2⟩ := hcells j c hj;have e : ccs.getD (sh + j) undef = cv := getD_of_some h1
  dsimp only; rw [e]
  exact ⟨by simp [World.cell?,hheap,h1],h2⟩
theorem rdB_some {H : Heap} {b g : Nat} {cs : List V} (h : rdB H b g = some cs) : H[b]? = some (g,cs) := by
  unfold rdB at h; split at h
  · rename_i g' cs' hh; split at h
    · cases h; subst_vars; exact hh
    · cases h
  · cases h
theorem ld_run {H : Heap} (s : Rd wr W own H) {t : TypeId} {n : Sh} (hs : chkSh P t n = true) {p v : V} {p' : Value} (hp : VR wr W own p p')
    (h : ldV H p n = some v) : ∃ v',(Instr.loadAt t p').run P W = .ok v' W ∧ VR wr W own v v' := by
  cases p with
  | fp x =>
    cases hp with
    | fp cv hw hlt hc hv =>
      simp only [ldV] at h
      split at h
      · rename_i hf; cases h
        obtain ⟨v',h1,h2⟩ := run_loadVar_sh hs _ _ v (.inl hf) cv hc (fun j c hj => (hv j c hj).mono ⟨Nat.le_refl _,fun _ _ h => h,fun _ _ _ => rfl⟩ (fun b g x h => by simp [own0] at h)) (fits_cells hf).1 (fits_cells hf).2;exact ⟨v',by simpa [Instr.loadAt,Instr.sureAddr] using h1,h2⟩
      · cases h
  | bx x =>
    cases hp with
    | bx cv hw hlt hc hv =>
      simp only [ldV] at h
      split at h
      · rename_i hf; cases h
        obtain ⟨v',h1,h2⟩ := run_loadVar_sh hs _ _ v (.inl hf) cv hc hv (fits_cells hf).1 (fits_cells hf).2;exact ⟨v',by simpa [Instr.loadAt,Instr.sureAddr] using h1,h2⟩
      · cases h
  | ptr b g off =>
    cases hp with
    | ptr ho =>
      rename_i cb sh N
      simp only [ldV,Option.bind_eq_some_iff] at h;obtain ⟨cs,hcs,htk⟩ := h;obtain ⟨cv,hcv⟩ := s.get hcs ho;cases n with
      | none =>
        simp only [chkSh,Bool.and_eq_true,Bool.not_eq_true',beq_iff_eq] at hs;have h0 := hcv off v htk;refine ⟨cv off,?_,h0.2⟩
        simp [Instr.loadAt,Instr.sureAddr,loadVar,run_isAgg' hs.1.1,hs.1.2,h0.1]
      | some m =>
        simp only [takeSh] at htk
        split at htk
        · rename_i hm; cases htk
          have hg : ∀ j,j < m → ((cs.drop off).take m)[j]? = cs[off + j]? := fun j hj => by simp [hj]
          obtain ⟨v',h1,h2⟩ := run_loadVar_sh (own := own) (P := P) hs cb (sh + off) (.ag ((cs.drop off).take m)) (.inr ⟨cs,off,by simp [takeSh,hm]⟩) (fun j => cv (off + j))
            (fun j c hj => by
              have hj' : j < m := by have := (List.getElem?_eq_some_iff.mp hj).1; simp [V.cells] at this; omega
              have := (hcv (off + j) c (by rw [← hg j hj']; exact hj)).1
              rwa [show sh + (off + j) = sh + off + j by omega] at this)
            (fun j c hj => by
              have hj' : j < m := by have := (List.getElem?_eq_some_iff.mp hj).1; simp [V.cells] at this; omega
              exact (hcv (off + j) c (by rw [← hg j hj']; exact hj)).2)
            (fun h => by cases h) (fun m' h => by cases h; exact ⟨_,rfl,by simp; omega⟩)
          exact ⟨v',by simpa [Instr.loadAt,Instr.sureAddr] using h1,h2⟩
        · cases htk
  | _ => simp [ldV] at h
theorem intB_run {op : BinOp} {k : IntKind} {a b : Int} {v : V} {t : TypeId} (h : intB op k a b = some v) :
    ∃ v',(binOp op t (.int k a) (.int k b)).run P W = .ok v' W ∧ VR wr W own v v' := by
  cases op <;> simp only [intB] at h
  case add => cases h; exact ⟨_,by rw [binOp_add]; rfl,.int _ _⟩
  case sub => cases h; exact ⟨_,by rw [binOp_sub]; rfl,.int _ _⟩
  case mul => cases h; exact ⟨_,by rw [binOp_mul]; rfl,.int _ _⟩
  case quo =>
    split at h
    · cases h
    · rename_i hb; cases h
      exact ⟨_,by rw [binOp_quo]; unfold Op.intDiv; rw [if_neg hb]; rfl,.int _ _⟩
  case rem =>
    split at h
    · cases h
    · rename_i hb; cases h
      exact ⟨_,by rw [binOp_rem]; unfold Op.intDiv; rw [if_neg hb]; rfl,.int _ _⟩
  case and => cases h; exact ⟨_,by rw [binOp_and]; rfl,.int _ _⟩
  case or => cases h; exact ⟨_,by rw [binOp_or]; rfl,.int _ _⟩
  case xor => cases h; exact ⟨_,by rw [binOp_xor]; rfl,.int _ _⟩
  case andNot => cases h; exact ⟨_,by rw [binOp_andNot]; rfl,.int _ _⟩
  case eql => cases h; exact ⟨_,by rw [binOp_eql]; rfl,.bool _⟩
  case neq => cases h; exact ⟨_,by rw [binOp_neq]; rfl,.bool _⟩
  case lss => cases h; exact ⟨_,by rw [binOp_lss]; rfl,.bool _⟩
  case leq => cases h; exact ⟨_,by rw [binOp_leq]; rfl,.bool _⟩
  case gtr => cases h; exact ⟨_,by rw [binOp_gtr]; rfl,.bool _⟩
  case geq => cases h; exact ⟨_,by rw [binOp_geq]; rfl,.bool _⟩
  case shl => cases h
  case shr => cases h
theorem strB_run {op : BinOp} {a b : ByteArray} {v : V} {t : TypeId} (h : strB op a b = some v) :
    ∃ v',(binOp op t (.string a) (.string b)).run P W = .ok v' W ∧ VR wr W own v v' := by
  cases op <;> simp only [strB] at h
  case add =>
    split at h
    · rename_i hb; cases h
      refine ⟨.string (a ++ b),?_,.str _⟩;have e : ¬ (((a.size + b.size : Nat) : Int) > IntKind.i64.max) := by rw [IntKind.max_i64]; omega
      show (Op.stringOp .add a b).run P W = _;unfold Op.stringOp;simp only [];rw [if_neg e]; rfl
    · cases h
  case eql => cases h; exact ⟨_,rfl,.bool _⟩
  case neq => cases h; exact ⟨_,rfl,.bool _⟩
  case lss => cases h; exact ⟨_,rfl,.bool _⟩
  case leq => cases h; exact ⟨_,rfl,.bool _⟩
  case gtr => cases h; exact ⟨_,rfl,.bool _⟩
  case geq => cases h; exact ⟨_,rfl,.bool _⟩
  all_goals cases h
theorem equal_run {t : TypeId} {x y : Value} {r : Result Bool} (h : ∀ d,(Op.equalIn (d + 1) t x y).run P W = r) : (Op.equal t x y).run P W = r := h 9999
theorem nil_eq {cl : Cls} {x y : V} {x' y' : Value} {a b : Bool} {t : TypeId} {op : BinOp} {yo : Operand} (hc : chkCls P op t yo cl = true) (hx : VR wr W own x x') (hy : VR wr W own y y')
    (ha : x.isNil cl = some a) (hb : y.isNil cl = some b) (hab : (a || b) = true) (hsx : x.sure = true) (hsy : y.sure = true) : (Op.equal t x' y').run P W = .ok (a == b) W := by
  refine equal_run fun dd => ?_
  cases hu : P.underlying t with
  | none => cases cl <;> simp [chkCls,hu] at hc <;> cases hx <;> simp [V.isNil] at ha
  | some d =>
    cases cl <;> simp [chkCls,hu] at hc
    case num => cases hx <;> simp [V.isNil] at ha
    case bool => cases hx <;> simp [V.isNil] at ha
    all_goals
      (try replace hc := hc.1)
      cases d <;> simp at hc;cases hx <;> (try (simp [V.sure] at hsx; done)) <;> simp [V.isNil] at ha <;> cases hy <;> (try (simp [V.sure] at hsy; done)) <;> simp [V.isNil] at hb <;> subst ha <;> subst hb <;> simp at hab <;>
        simp only [Op.equalIn,Sem.run_bind,run_underlying hu,Result.andThen_ok] <;> rfl
theorem nil_guard {cl : Cls} {x y : V} {x' y' : Value} {a b : Bool} {t : TypeId} {op : BinOp} {xo yo : Operand} (hc : chkCls P op t yo cl = true) (hx : VR wr W own x x') (hy : VR wr W own y y')
    (ha : x.isNil cl = some a) (hb : y.isNil cl = some b) : eqGuard op t xo yo x' y' = pure () := by
  cases cl <;> cases hx <;> simp [V.isNil] at ha <;> cases hy <;> simp [V.isNil] at hb <;>
    first
      | simp only [go_sem]
      | (simp only [chkCls,Bool.and_eq_true] at hc
         cases yo <;> simp at hc;simp only [go_sem])
      | (cases op <;> rfl)
theorem binOp_nil {cl : Cls} {x y : V} {x' y' : Value} {a b : Bool} {t : TypeId} (hx : VR wr W own x x') (hy : VR wr W own y y')
    (ha : x.isNil cl = some a) (hb : y.isNil cl = some b) :
    binOp .eql t x' y' = (Op.equal t x' y' >>= fun r => pure (.bool r)) ∧ binOp .neq t x' y' = (Op.equal t x' y' >>= fun r => pure (.bool (!r))) := by
  cases cl <;> cases hx <;> simp [V.isNil] at ha <;> cases hy <;> simp [V.isNil] at hb <;> exact ⟨rfl,rfl⟩
theorem bin_run {cl : Cls} {op : BinOp} {x y v : V} {x' y' : Value} {t : TypeId} {xo yo : Operand} (hc : chkCls P op t yo cl = true) (hx : VR wr W own x x') (hy : VR wr W own y y')
    (h : binV cl op x y = some v) : ∃ v',(do eqGuard op t xo yo x' y'; binOp op t x' y' : Sem Value).run P W = .ok v' W ∧ VR wr W own v v' := by
  unfold binV at h
  split at h
  · cases hx; cases hy
    split at h
    · split at h
      · cases h
      · rename_i hb; cases h
        exact ⟨_,by simp [go_sem,Op.shift,hb],.int _ _⟩
    · split at h
      · cases h
      · rename_i hb; cases h
        exact ⟨_,by simp [go_sem,Op.shift,hb],.int _ _⟩
    · split at h
      · rename_i hk; subst hk
        obtain ⟨v',h1,h2⟩ := intB_run (P := P) (t := t) (W := W) (wr := wr) (own := own) h;exact ⟨v',by simpa [go_sem] using h1,h2⟩
      · cases h
  · cases hx; cases hy;obtain ⟨v',h1,h2⟩ := strB_run (P := P) (t := t) (W := W) (wr := wr) (own := own) h;exact ⟨v',by simpa [go_sem] using h1,h2⟩
  · rename_i a b
    cases hx; cases hy;simp only [chkCls] at hc;cases hu : P.underlying t with
    | none => simp [hu] at hc
    | some d =>
      cases d <;> simp [hu] at hc
      split at h <;> cases h
      · have e : (Op.equal t (.bool a) (.bool b)).run P W = .ok (a == b) W := equal_run fun d => by simp only [Op.equalIn,Sem.run_bind,run_underlying hu,Result.andThen_ok]; rfl
        refine ⟨.bool (a == b),?_,.bool _⟩;rw [eqGuard_at_bool];show ((Op.equal t (.bool a) (.bool b) >>= fun r => pure (.bool r)) : Sem Value).run P W = _;rw [Sem.run_bind,e]; rfl
      · have e : (Op.equal t (.bool a) (.bool b)).run P W = .ok (a == b) W := equal_run fun d => by simp only [Op.equalIn,Sem.run_bind,run_underlying hu,Result.andThen_ok]; rfl
        refine ⟨.bool (!(a == b)),?_,.bool _⟩;rw [eqGuard_at_bool];show ((Op.equal t (.bool a) (.bool b) >>= fun r => pure (.bool (!r))) : Sem Value).run P W = _;rw [Sem.run_bind,e]; rfl
  · cases h
  · cases h
  · unfold nilB at h
    split at h
    · rename_i a b ha hb
      split at h
      · rename_i hab; cases h
        simp only [Bool.and_eq_true] at hab;obtain ⟨hab,hsx,hsy⟩ := hab;refine ⟨_,?_,.bool _⟩;rw [nil_guard hc hx hy ha hb,(binOp_nil hx hy ha hb).1]
        simp [nil_eq hc hx hy ha hb hab hsx hsy]
      · cases h
    · rename_i a b ha hb
      split at h
      · rename_i hab; cases h
        simp only [Bool.and_eq_true] at hab;obtain ⟨hab,hsx,hsy⟩ := hab;refine ⟨_,?_,.bool _⟩;rw [nil_guard hc hx hy ha hb,(binOp_nil hx hy ha hb).2]
        simp [nil_eq hc hx hy ha hb hab hsx hsy,bne]
      · cases h
    · cases h
theorem un_run {op : UnOp} {x v : V} {x' : Value} (hx : VR wr W own x x') (h : unV op x = some v) : ∃ v',(Op.unary op x').run P W = .ok v' W ∧ VR wr W own v v' := by
  unfold unV at h
  split at h
  · cases hx; cases h; exact ⟨_,rfl,.int _ _⟩
  · cases hx;simp only [intB] at h; cases h;exact ⟨_,rfl,.int _ _⟩
  · cases hx; cases h; exact ⟨_,rfl,.bool _⟩
  · cases h
end
end Go.Eng
namespace Go.Eng
open Go
set_option linter.unusedSectionVars false
set_option linter.unusedVariables false
set_option linter.unusedSimpArgs false
variable [Glob]
structure Gl (W W' : World) : Prop where
  size : W.heap.size ≤ W'.heap.size
  same : ∀ b,b < W.heap.size → W'.heap[b]? = W.heap[b]?
  io : Io W W'
theorem Gl.refl (W : World) : Gl W W := ⟨Nat.le_refl _,fun _ _ => rfl,Io.refl _⟩
theorem Gl.trans {a b c : World} (h : Gl a b) (h' : Gl b c) : Gl a c :=
  ⟨Nat.le_trans h.size h'.size,fun x hx => by rw [h'.same x (Nat.lt_of_lt_of_le hx h.size),h.same x hx],h.io.trans h'.io⟩
theorem Gl.grow {wr : Nat → Prop} {W W' : World} (h : Gl W W') : Grow wr wr W W' := ⟨h.size,fun _ _ h => h,fun b hb _ => h.same b hb⟩
theorem Gl.drew (W : World) : Gl W W.drew := ⟨Nat.le_refl _,fun _ _ => rfl,rfl,rfl,rfl⟩
theorem Gl.drawn (W : World) (n : Nat) : Gl W { W with drawn := n } := ⟨Nat.le_refl _,fun _ _ => rfl,rfl,rfl,rfl⟩
theorem Gl.alloc (W : World) (o : Obj) : Gl W (W.alloc o) :=
  ⟨by simp,fun b hb => by show (W.heap.push o)[b]? = _; simp [Array.getElem?_push,Nat.ne_of_lt hb],rfl,rfl,rfl⟩
theorem alloc_get (W : World) (o : Obj) : (W.alloc o).heap[W.heap.size]? = some o := by show (W.heap.push o)[W.heap.size]? = _; simp
theorem VR.gl {wr : Nat → Prop} {W W' : World} {own : Own} {v : V} {v' : Value} (g : Gl W W') (h : VR wr W own v v') : VR wr W' own v v' :=
  h.mono g.grow (Own.le_refl _)
theorem St.gl {wr : Nat → Prop} {W W' : World} {own : Own} {H : Heap} (g : Gl W W') (s : St wr W own H) : St wr W' own H := by
  refine ⟨⟨?_,fun cb h => Nat.lt_of_lt_of_le (s.wr_lt cb h) g.size,s.glob.mono g.grow⟩,s.inj,?_,s.fut,s.own_wr⟩
  · intro b gg cs hb;rcases s.live b gg cs hb with ⟨cb,sh,N,ho,hN,ccs,ty,lo,hi,hheap,hsz,hfr,hc⟩ | ⟨h1,h0,ks,vs,cb,hcs,ho,es,clock,hheap,hm⟩ | hd
    · refine .inl ⟨cb,sh,N,ho,hN,ccs,ty,lo,hi,?_,hsz,hfr,fun j c hj => ?_⟩
      · rw [g.same cb (s.wr_lt cb (s.own_wr _ _ _ _ _ ho))]; exact hheap
      · obtain ⟨cv,h1,h2⟩ := hc j c hj; exact ⟨cv,h1,h2.gl g⟩
    · refine .inr (.inl ⟨h1,h0,ks,vs,cb,hcs,ho,es,clock,?_,hm.mono g.grow (Own.le_refl _)⟩);rw [g.same cb (s.wr_lt cb (s.own_wr _ _ _ _ _ ho))]; exact hheap
    · exact .inr (.inr hd)
  · intro b b' cs cs' cb h1 h2 h3 h4 h5 h6;have back : ∀ x cx,H[x]? = some (1,cx) → LiveM wr W' own x 1 cx → LiveM wr W own x 1 cx := by
      intro x cx hx hm;rcases s.live x 1 cx hx with ⟨cb,sh,N,ho,_⟩ | h | h
      · rw [hm.2.1] at ho; cases ho
      · exact h
      · obtain ⟨_,_,_,_,_,_,ho,_⟩ := hm; rw [h 0] at ho; cases ho
    exact s.injm b b' cs cs' cb h1 h2 (back _ _ h1 h3) (back _ _ h2 h4) h5 h6
theorem Ext.of_gl {wr : Nat → Prop} {W W' : World} {own : Own} (g : Gl W W') : Ext wr W own wr W' own :=
  ⟨Own.le_refl _,g.size,fun _ _ h => h,fun _ h => h,fun b hb _ => g.same b hb,fun b g cb sh N h => .inl ⟨g,sh,N,h⟩,g.io⟩
section
variable {wr : Nat → Prop} {W : World} {own : Own} {P : Program}
theorem sliceOf_eq {t e : TypeId} (h : sliceOf P t = some e) : P.underlying t = some (.slice e) := by
  unfold sliceOf at h; split at h <;> simp_all
theorem chkEl_spec {t : TypeId} {z : Nat} {ag : Bool} (h : chkEl P t z ag = true) :
    ∃ e,P.underlying t = some (.slice e) ∧ szOf P e = some z ∧ agOf P e = ag ∧ hasT P e = true ∧ 0 < z ∧ (ag = true ∨ z = 1) := by
  unfold chkEl at h
  split at h
  · rename_i e he
    simp only [Bool.and_eq_true,beq_iff_eq,decide_eq_true_eq,Bool.or_eq_true] at h;exact ⟨e,sliceOf_eq he,h.1.1.1.1,h.1.1.1.2,h.1.1.2,h.1.2,h.2⟩
  · cases h
theorem idxa_run {t : TypeId} {z : Nat} {ag : Bool} (hc : chkEl P t z ag = true) {x i v : V} {x' i' : Value} (hx : VR wr W own x x') (hi : VR wr W own i i')
    (h : idxaV x i z ag = some v) : ∃ v',(Instr.indexAt t x' i').run P W = .ok v' W ∧ VR wr W own v v' := by
  obtain ⟨e,hu,hz,ha,_,hz0,_⟩ := chkEl_spec hc;unfold idxaV at h
  split at h
  · rename_i xs k n
    cases hi;cases hx with
    | fzn => split at h <;> simp at h
    | fz z0 cv hl hw hzz hcc hvv =>
      rename_i blk off sp cap
      split at h
      · rename_i hn
        simp only [Option.bind_eq_some_iff] at h;obtain ⟨el,hel,h⟩ := h
        split at h
        · rename_i hok; cases h
          simp only [okEl,Bool.and_eq_true,beq_iff_eq] at hok;have hlt : n.toNat < xs.length := (List.getElem?_eq_some_iff.mp hel).1;have hb : 0 ≤ n ∧ n < (xs.length : Int) := ⟨hn,by omega⟩;have hzz' := hzz _ _ hel;have ezz : z0 = z := by rw [← hzz',hok.1]
          subst ezz;obtain ⟨rfl,hnw,hbl⟩ := hw (by rintro rfl; simp at hel);refine ⟨.pointer (some ⟨blk,off + n.toNat * z0,none⟩),?_,?_⟩
          · simp [Instr.indexAt,asIntOf,run_underlying hu,hb,run_sizeOf' hz,add_none]
          · exact .fp (cv n.toNat) hnw hbl (fun j c hj => hcc _ _ j c hel hj) (fun j c hj => hvv _ _ j c hel hj)
        · cases h
      · cases h
  · rename_i b g off len z' ag' k n
    cases hi
    split at h
    · rename_i hh; cases h
      obtain ⟨h0,h1,rfl,rfl⟩ := hh;cases hx with
      | sl ho hl haa hN =>
        rename_i cb sh N a cap
        have hb : 0 ≤ n ∧ n < (len : Int) := ⟨h0,h1⟩;have hcap : cap ≠ 0 := by omega
        have hea := haa.resolve_left hcap;subst hea;refine ⟨.pointer (some ⟨cb,sh + off + n.toNat * z',none⟩),?_,?_⟩
        · simp [Instr.indexAt,asIntOf,run_underlying hu,hb,run_sizeOf' hz,add_none]
        · rw [show sh + off + n.toNat * z' = sh + (off + n.toNat * z') by omega]; exact .ptr ho
    · cases h
  · cases h
theorem idxs_run {t : TypeId} (hc : P.underlying t = some .string) {x i v : V} {x' i' : Value} (hx : VR wr W own x x') (hi : VR wr W own i i')
    (h : idxsV x i = some v) : ∃ v',(Instr.index t x' i').run P W = .ok v' W ∧ VR wr W own v v' := by
  unfold idxsV at h
  split at h
  · rename_i s k n
    cases hx; cases hi
    split at h
    · rename_i hn
      simp only [Option.map_eq_some_iff] at h;obtain ⟨b,hb,rfl⟩ := h;refine ⟨.int .u8 (b.toNat : Int),?_,.int _ _⟩
      simp [Instr.index,asIntOf,run_underlying hc,hn,hb]
    · cases h
  · cases h
theorem run_part {t : TypeId} {n : Sh} (hs : chkSh P t n = true) {cs : List V} {arr : Array Value} (hl : cs.length = arr.size) (hv : ∀ j c,cs[j]? = some c → VR wr W own c (arr.getD j undef))
    {off : Nat} {v : V} (h : takeSh cs off n = some v) : ∃ v',(part t arr off).run P W = .ok v' W ∧ VR wr W own v v' := by
  cases n with
  | none =>
    simp only [chkSh,Bool.and_eq_true,Bool.not_eq_true',beq_iff_eq] at hs;simp only [takeSh] at h;have hlt : off < arr.size := by rw [← hl]; exact (List.getElem?_eq_some_iff.mp h).1
    refine ⟨arr[off],?_,?_⟩
    · simp [part,run_isAgg' hs.1.1,hs.1.2,hlt]
    · have := hv off v h; rwa [getD_of_some (Array.getElem?_eq_getElem hlt)] at this
  | some m =>
    simp only [chkSh,Bool.and_eq_true,beq_iff_eq] at hs;simp only [takeSh] at h
    split at h
    · rename_i hm; cases h
      refine ⟨.agg (arr.extract off (off + m)),?_,.ag ?_ ?_⟩
      · simp [part,run_isAgg' (hasT_of_ag hs.1),hs.1,run_sizeOf' hs.2]
      · simp; omega
      · intro j c hj;have hj' : j < m := by have := (List.getElem?_eq_some_iff.mp hj).1; simp at this; omega
        have hj2 : cs[off + j]? = some c := by simpa [hj'] using hj
        have hlt : off + j < arr.size := by rw [← hl]; exact (List.getElem?_eq_some_iff.mp hj2).1
        have := hv _ _ hj2;rw [getD_of_some (Array.getElem?_eq_getElem hlt)] at this;have e : (arr.extract off (off + m))[j]? = some arr[off + j] := by
          rw [Array.getElem?_extract_of_lt (by omega)]
        rw [getD_of_some e]; exact this
    · cases h
theorem idxg_run {t e : TypeId} {l z : Nat} {n : Sh} (hu : P.underlying t = some (.array l e)) (hz : szOf P e = some z) (hs : chkSh P e n = true) {x i v : V} {x' i' : Value} (hx : VR wr W own x x') (hi : VR wr W own i i')
    (h : idxgV x i l z n = some v) : ∃ v',(Instr.index t x' i').run P W = .ok v' W ∧ VR wr W own v v' := by
  unfold idxgV at h
  split at h
  · rename_i cs k m
    cases hi
    split at h
    · rename_i hn
      cases hx with
      | ag hl hv =>
        obtain ⟨v',h1,h2⟩ := run_part hs hl hv h;refine ⟨v',?_,h2⟩
        simp [Instr.index,asIntOf,run_underlying hu,hn,run_sizeOf' hz,h1]
    · cases h
  · cases h
theorem fieldOf_eq {t : TypeId} {f : Nat} {fl : Field} (h : fieldOf P t f = some fl) : ∃ fs,P.underlying t = some (.struct fs) ∧ fs[f]? = some fl := by
  unfold fieldOf at h; split at h
  · rename_i fs hf; exact ⟨fs,hf,h⟩
  · cases h
theorem fld_run {t : TypeId} {f : Nat} {fl : Field} {n : Sh} (hf : fieldOf P t f = some fl) (hs : chkSh P fl.type n = true) {x v : V} {x' : Value} (hx : VR wr W own x x')
    (h : fldV x fl.offset n = some v) : ∃ v',(Instr.field t x' f).run P W = .ok v' W ∧ VR wr W own v v' := by
  obtain ⟨fs,hu,hfs⟩ := fieldOf_eq hf;unfold fldV at h
  split at h
  · cases hx with
    | ag hl hv =>
      obtain ⟨v',h1,h2⟩ := run_part hs hl hv h;exact ⟨v',by simp [Instr.field,run_underlying hu,hfs,asAgg,h1],h2⟩
  · cases h
theorem flda_run {t : TypeId} {f : Nat} {fl : Field} {n : Sh} (hf : fieldOf P t f = some fl) (hs : chkSh P fl.type n = true) (h0 : szOf P fl.type ≠ some 0) {x v : V} {x' : Value} (hx : VR wr W own x x')
    (h : fldaV x fl.offset n = some v) : ∃ v',(Instr.fieldAt t x' f).run P W = .ok v' W ∧ VR wr W own v v' := by
  obtain ⟨fs,hu,hfs⟩ := fieldOf_eq hf;have hz : ∃ z,szOf P fl.type = some z ∧ z ≠ 0 := by
    cases n with
    | none => simp only [chkSh,Bool.and_eq_true,beq_iff_eq] at hs; exact ⟨1,hs.2,by omega⟩
    | some m => simp only [chkSh,Bool.and_eq_true,beq_iff_eq] at hs; exact ⟨m,hs.2,by rintro rfl; exact h0 hs.2⟩
  obtain ⟨z,hz,hz0⟩ := hz;unfold fldaV at h
  split at h
  · cases h;cases hx with
    | ptr ho =>
      rename_i b g o cb sh N
      refine ⟨.pointer (some ⟨cb,sh + o + fl.offset,none⟩),?_,?_⟩
      · simp [Instr.fieldAt,run_underlying hu,hfs,Instr.sureAddr,fieldPlace,run_sizeOf' hz,hz0,add_none]
      · rw [Nat.add_assoc]; exact .ptr ho
  · rename_i cs
    simp only [Option.bind_eq_some_iff] at h;obtain ⟨y,hy,h⟩ := h
    split at h
    case isFalse => cases h
    rename_i hag0
    cases h;cases hx with
    | fp cv hw hlt hc hv =>
      rename_i blk off
      refine ⟨.pointer (some ⟨blk,off + fl.offset,none⟩),?_,?_⟩
      · simp [Instr.fieldAt,run_underlying hu,hfs,Instr.sureAddr,fieldPlace,run_sizeOf' hz,hz0,add_none]
      · have key : ∀ j c,y.cells[j]? = some c → cs[fl.offset + j]? = some c := by
          intro j c hj;cases n with
          | none =>
            simp only [takeSh] at hy;have e : y.cells = [y] := by cases y <;> simp_all [V.isAg,V.cells]
            rw [e] at hj;cases j with
            | zero => simp at hj; subst hj; simpa using hy
            | succ j => simp at hj
          | some m =>
            simp only [takeSh] at hy
            split at hy
            · cases hy;have hj' : j < m := by have := (List.getElem?_eq_some_iff.mp hj).1; simp [V.cells] at this; omega
              simpa [V.cells,hj'] using hj
            · cases hy
        refine .fp (fun j => cv (fl.offset + j)) hw hlt (fun j c hj => ?_) (fun j c hj => hv _ _ (key j c hj));rw [show off + fl.offset + j = off + (fl.offset + j) by omega];exact hc _ _ (key j c hj)
  · cases h
theorem len_run {t ty : TypeId} {s : Bool} (hc : (match P.underlying t with | some .string => s | some (.slice _) => !s | _ => false) = true) {x v : V} {x' : Value} (hx : VR wr W own x x')
    (h : lenV s x = some v) : ∃ v',(Builtin.len_ #[t] ty #[x']).run P W = .ok v' W ∧ VR wr W own v v' := by
  unfold lenV at h
  split at h
  case h_6 => cases h
  case h_5 =>
    cases h; cases hx
    split at hc
    · rename_i hs; exact ⟨_,by simp [Builtin.len_,run_underlying hs,goInt],.int _ _⟩
    · simp at hc
    · simp at hc
  all_goals
    cases h
    split at hc
    · simp at hc
    · rename_i hs
      cases hx <;> exact ⟨_,by simp [Builtin.len_,run_underlying hs,goInt],.int _ _⟩
    · simp at hc
theorem bnd_lo {lo : Option V} {lo' : Option Value} (hr : match lo,lo' with | none,none => True | some a,some b => VR wr W own a b | _,_ => False) {d n y : Nat} (h : bndV d lo = some n) (hn : n ≤ y) (code : BoundsCode) :
    (match lo' with | some v => Instr.sliceBound v y code | none => pure d : Sem Nat).run P W = .ok n W := by
  cases lo with
  | none => cases lo' with
    | none => simp [bndV] at h; subst h; rfl
    | some b => exact hr.elim
  | some a => cases lo' with
    | none => exact hr.elim
    | some b =>
      cases hr <;> simp [bndV] at h;obtain ⟨h0,rfl⟩ := h
      rename_i k n
      have hb : 0 ≤ n ∧ n ≤ (y : Int) := ⟨h0,by omega⟩
      simp [Instr.sliceBound,asIntOf,hb]
def OptR (wr : Nat → Prop) (W : World) (own : Own) (lo : Option V) (lo' : Option Value) : Prop :=
  match lo,lo' with | none,none => True | some a,some b => VR wr W own a b | _,_ => False
theorem bounds_run {lo hi : Option V} {lo' hi' : Option Value} (hl : OptR wr W own lo lo') (hh : OptR wr W own hi hi') {isS : Bool} {len cap l h : Nat}
    (h1 : bndV 0 lo = some l) (h2 : bndV len hi = some h) (hle : l ≤ h) (hhc : h ≤ cap) :
    (Instr.sliceBounds isS len cap lo' hi' none).run P W = .ok (l,h,cap) W := by
  have a := bnd_lo (P := P) hl h1 hle .sliceB;have b := bnd_lo (P := P) hh h2 hhc (if isS then .sliceAcap else .sliceAlen);unfold Instr.sliceBounds;cases lo' <;> cases hi' <;> simp at a b <;> simp [a,b]
theorem hdOk_uni {z z0 : Nat} {xs : List V} (h : hdOk z xs = true) (hz : ∀ (i : Nat) (x : V),xs[i]? = some x → x.cells.length = z0) (hne : xs ≠ []) : z0 = z := by
  cases xs with
  | nil => exact absurd rfl hne
  | cons x r => simp [hdOk] at h; rw [← hz 0 x (by simp),h]
theorem bounds3_run {lo : Option V} {lo' : Option Value} {hi mx : V} {hi' mx' : Value} (hl : OptR wr W own lo lo') (hh : VR wr W own hi hi') (hm : VR wr W own mx mx') {isS : Bool} {len cap l h m d : Nat}
    (h1 : bndV 0 lo = some l) (h2 : bndV d (some hi) = some h) (h3 : bndV d (some mx) = some m) (hle : l ≤ h) (hhm : h ≤ m) (hmc : m ≤ cap) :
    (Instr.sliceBounds isS len cap lo' (some hi') (some mx')).run P W = .ok (l,h,m) W := by
  have a := bnd_lo (P := P) hl h1 hle .slice3C;have b := bnd_lo (P := P) (lo := some hi) (lo' := some hi') hh h2 hhm .slice3B;have c := bnd_lo (P := P) (lo := some mx) (lo' := some mx') hm h3 hmc (if isS then .slice3Acap else .slice3Alen);unfold Instr.sliceBounds;cases lo' <;> simp at a b c <;> simp [a,b,c]
theorem slcm_run {t e : TypeId} {z : Nat} (hu : P.underlying t = some (.slice e)) (hsz : szOf P e = some z)
    {x v : V} {x' : Value} {lo : Option V} {lo' : Option Value} {hi mx : V} {hi' mx' : Value} (hx : VR wr W own x x') (hl : OptR wr W own lo lo') (hh : VR wr W own hi hi') (hm : VR wr W own mx mx')
    (h : slcmV x lo hi mx z = some v) : ∃ v',(Instr.sliceAt t x' lo' (some hi') (some mx')).run P W = .ok v' W ∧ VR wr W own v v' := by
  unfold slcmV at h
  split at h
  case h_2 => cases h
  rename_i xs
  simp only [Option.bind_eq_some_iff] at h;obtain ⟨l,h1,hh',h2,m,h3,h⟩ := h
  split at h
  case isFalse => cases h
  rename_i hcond; cases h
  obtain ⟨hz0,hle,hhm,hms,hhd⟩ := hcond;cases hx with
  | fzn =>
    simp at hms
    obtain rfl : m = 0 := by omega
    obtain rfl : hh' = 0 := by omega
    obtain rfl : l = 0 := by omega
    have hb := bounds3_run (P := P) (isS := true) (len := 0) (cap := 0) hl hh hm h1 h2 h3 (Nat.le_refl _) (Nat.le_refl _) (Nat.le_refl _);exact ⟨.slice none 0 0,by simp [Instr.sliceAt,Instr.slice,run_underlying hu,hb,run_sizeOf' hsz],.fzn⟩
  | fz z1 cv hcap hw hzz hcc hvv =>
    rename_i blk off sp cap
    have hb := bounds3_run (P := P) (isS := true) (len := xs.length) (cap := cap) hl hh hm h1 h2 h3 hle hhm (Nat.le_trans hms hcap);refine ⟨.slice (some (if m = l then ⟨blk,off,sp⟩ else (⟨blk,off,sp⟩ : Addr).add (l * z))) (hh' - l) (m - l),?_,?_⟩
    · simp [Instr.sliceAt,Instr.slice,run_underlying hu,hb,run_sizeOf' hsz]; split <;> rfl
    · have hlen : ((xs.take hh').drop l).length = hh' - l := by simp; omega
      rw [← hlen];have hget : ∀ (i : Nat) (y : V),((xs.take hh').drop l)[i]? = some y → xs[l + i]? = some y := by
        intro i y hy;have hi' : l + i < hh' := by have := (List.getElem?_eq_some_iff.mp hy).1; simp at this; omega
        simpa [hi'] using hy
      have hne : (xs.take hh').drop l ≠ [] → xs ≠ [] := by rintro h rfl; simp at h
      by_cases hemp : (xs.take hh').drop l = []
      · rw [hemp];have hq : ∀ (a : Addr) (c : Nat),VR wr W own (.fz []) (.slice (some a) 0 c) := by
          intro a c; obtain ⟨ab,ao,asp⟩ := a;exact .fz z (fun _ _ => undef) (by simp) (by simp) (by simp) (by simp) (by simp)
        exact hq _ _
      · have hlt : l < m := by
          have : 0 < ((xs.take hh').drop l).length := List.length_pos_iff.mpr hemp
          omega
        obtain ⟨hsp,hnw,hbl⟩ := hw (hne hemp);have ezz : z1 = z := hdOk_uni hhd hzz (hne hemp);subst ezz; subst hsp;rw [if_neg (by omega),add_none];refine .fz z1 (fun i j => cv (l + i) j) (by omega) (fun _ => ⟨rfl,hnw,hbl⟩) (fun i y hy => hzz _ _ (hget i y hy)) ?_ (fun i y j c hy hj => hvv _ _ j c (hget i y hy) hj);intro i y j c hy hj;have := hcc _ _ j c (hget i y hy) hj
        rwa [show off + l * z1 + i * z1 + j = off + (l + i) * z1 + j by rw [Nat.add_mul]; omega]
theorem slc_run {t : TypeId} {z : Nat} (hc : (match P.underlying t with | some .string => z == 0 | some (.slice e) => szOf P e == some z && z != 0 | _ => false) = true)
    {x v : V} {x' : Value} {lo hi : Option V} {lo' hi' : Option Value} (hx : VR wr W own x x') (hl : OptR wr W own lo lo') (hh : OptR wr W own hi hi')
    (h : slcV x lo hi z = some v) : ∃ v',(Instr.sliceAt t x' lo' hi' none).run P W = .ok v' W ∧ VR wr W own v v' := by
  unfold slcV at h
  split at h
  · simp only [Option.bind_eq_some_iff] at h;obtain ⟨l,h1,hh',h2,h⟩ := h
    split at h
    · rename_i hcond; cases h
      obtain ⟨rfl,hle,hhs⟩ := hcond;cases hx
      split at hc
      · rename_i hu
        exact ⟨_,by simp [Instr.sliceAt,Instr.slice,run_underlying hu,bounds_run hl hh h1 h2 hle hhs],.str _⟩
      · simp at hc
      · cases hc
    · cases h
  · rename_i xs
    simp only [Option.bind_eq_some_iff] at h;obtain ⟨l,h1,hh',h2,h⟩ := h
    split at h
    · rename_i hcond; cases h
      obtain ⟨hz0,hle,hhs,hhd⟩ := hcond
      split at hc
      · simp at hc; exact absurd hc hz0
      · rename_i e hu
        simp only [Bool.and_eq_true,beq_iff_eq,bne_iff_ne] at hc;cases hx with
        | fzn =>
          simp at hhs
          obtain rfl : hh' = 0 := by omega
          obtain rfl : l = 0 := by omega
          have hb := bounds_run (P := P) (isS := true) (len := 0) (cap := 0) hl hh h1 h2 (Nat.le_refl _) (Nat.le_refl _);exact ⟨.slice none 0 0,by simp [Instr.sliceAt,Instr.slice,run_underlying hu,hb,run_sizeOf' hc.1],.fzn⟩
        | fz z1 cv hcap hw hzz hcc hvv =>
          rename_i blk off sp cap
          have hb := bounds_run (P := P) (isS := true) (cap := cap) hl hh h1 h2 hle (Nat.le_trans hhs hcap);refine ⟨.slice (some (if cap = l then ⟨blk,off,sp⟩ else (⟨blk,off,sp⟩ : Addr).add (l * z))) (hh' - l) (cap - l),?_,?_⟩
          · simp [Instr.sliceAt,Instr.slice,run_underlying hu,hb,run_sizeOf' hc.1]; split <;> rfl
          · have hlen : ((xs.take hh').drop l).length = hh' - l := by simp; omega
            rw [← hlen];have hget : ∀ (i : Nat) (y : V),((xs.take hh').drop l)[i]? = some y → xs[l + i]? = some y := by
              intro i y hy;have hi' : l + i < hh' := by have := (List.getElem?_eq_some_iff.mp hy).1; simp at this; omega
              simpa [hi'] using hy
            have hne : (xs.take hh').drop l ≠ [] → xs ≠ [] := by rintro h rfl; simp at h
            by_cases hemp : (xs.take hh').drop l = []
            · rw [hemp];have hq : ∀ (a : Addr) (c : Nat),VR wr W own (.fz []) (.slice (some a) 0 c) := by
                intro a c; obtain ⟨ab,ao,asp⟩ := a;exact .fz z (fun _ _ => undef) (by simp) (by simp) (by simp) (by simp) (by simp)
              exact hq _ _
            · have hlt : l < cap := by
                have : 0 < ((xs.take hh').drop l).length := List.length_pos_iff.mpr hemp
                omega
              obtain ⟨hsp,hnw,hbl⟩ := hw (hne hemp);have ezz : z1 = z := hdOk_uni hhd hzz (hne hemp);subst ezz; subst hsp;rw [if_neg (by omega),add_none];refine .fz z1 (fun i j => cv (l + i) j) (by omega) (fun _ => ⟨rfl,hnw,hbl⟩) (fun i y hy => hzz _ _ (hget i y hy)) ?_ (fun i y j c hy hj => hvv _ _ j c (hget i y hy) hj);intro i y j c hy hj;have := hcc _ _ j c (hget i y hy) hj
              rwa [show off + l * z1 + i * z1 + j = off + (l + i) * z1 + j by rw [Nat.add_mul]; omega]
      · cases hc
    · cases h
  · rename_i b g off len z' ag
    simp only [Option.bind_eq_some_iff] at h;obtain ⟨l,h1,hh',h2,h⟩ := h
    split at h
    · rename_i hcond; cases h
      obtain ⟨hz0,hle,hhs,rfl⟩ := hcond
      split at hc
      · simp at hc; exact absurd hc hz0
      · rename_i e hu
        simp only [Bool.and_eq_true,beq_iff_eq,bne_iff_ne] at hc;cases hx with
        | sl ho hcap ha hN =>
          rename_i cb sh N a cap
          have hb := bounds_run (P := P) (isS := true) (cap := cap) hl hh h1 h2 hle (Nat.le_trans hhs hcap);refine ⟨.slice (some (if cap = l then a else a.add (l * z'))) (hh' - l) (cap - l),?_,?_⟩
          · simp [Instr.sliceAt,Instr.slice,run_underlying hu,hb,run_sizeOf' hc.1]; split <;> rfl
          · refine .sl ho (by omega) ?_ ?_
            · by_cases hcl : cap = l
              · left; omega
              · right
                rw [if_neg hcl];have := ha.resolve_left (by omega);subst this;rw [add_none,Nat.add_assoc]
            · by_cases hcl : cap = l
              · left; omega
              · right
                have hN' := hN.resolve_left (by omega);have : (cap - l) * z' + l * z' = cap * z' := by rw [← Nat.add_mul]; congr 1; omega
                omega
      · cases hc
    · cases h
  · simp only [Option.bind_eq_some_iff] at h;obtain ⟨l,h1,hh',h2,h⟩ := h
    split at h
    · rename_i hcond; cases h
      obtain ⟨hz0,rfl,rfl⟩ := hcond
      split at hc
      · simp at hc; exact absurd hc hz0
      · rename_i e hu
        simp only [Bool.and_eq_true,beq_iff_eq,bne_iff_ne] at hc;cases hx;have hb := bounds_run (P := P) (isS := true) (cap := 0) hl hh h1 h2 (Nat.le_refl _) (Nat.le_refl _);exact ⟨.slice none 0 0,by simp [Instr.sliceAt,Instr.slice,run_underlying hu,hb,run_sizeOf' hc.1],.nils⟩
      · cases hc
    · cases h
  · cases h
theorem ext_run {x v : V} {x' : Value} {i : Nat} (hx : VR wr W own x x') (h : extV x i = some v) : ∃ v',(Instr.extract x' i).run P W = .ok v' W ∧ VR wr W own v v' := by
  unfold extV at h
  split at h
  · cases hx with
    | tup hl hv =>
      rename_i vs arr
      have hlt : i < arr.size := by rw [← hl]; exact (List.getElem?_eq_some_iff.mp h).1
      have := hv i v h;rw [getD_of_some (Array.getElem?_eq_getElem hlt)] at this;exact ⟨arr[i],by simp [Instr.extract,hlt],this⟩
  · cases h
end
end Go.Eng
