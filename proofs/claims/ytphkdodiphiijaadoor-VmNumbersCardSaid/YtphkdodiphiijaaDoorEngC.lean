/- Which text of the small machine fits which text of the model's (a check; no condition). -/
import Derived.Test.YtphkdodiphiijaaDoorEngB
import Derived.Tactics
namespace Go.Eng
open Go
set_option linter.unusedSectionVars false
set_option linter.unusedVariables false
set_option linter.unusedSimpArgs false
variable [Glob]

def szOf (P : Program) (t : TypeId) : Option Nat := (P.info? t).map (·.size)
def agOf (P : Program) (t : TypeId) : Bool := match P.underlying t with | some (.struct _) | some (.array _ _) => true | _ => false
def hasT (P : Program) (t : TypeId) : Bool := (P.underlying t).isSome
def chkSh (P : Program) (t : TypeId) (n : Sh) : Bool :=
  match n with
  | none => hasT P t && !agOf P t && szOf P t == some 1
  | some m => agOf P t && szOf P t == some m

def isV0 : Value → V → Bool
  | .bool a, .bool b => a == b
  | .int k n, .int k' n' => k == k' && n == n'
  | .string s, .str s' => s.data.toList == s'.data.toList
  | .pointer none, .nilp => true
  | .slice none 0 0, .nils => true
  | .slice none 0 0, .fz [] => true
  | .map none, .mpn => true
  | .nilFunc, .nilf => true
  | .nilIface, .nili => true
  | .float .f64 b, .fl (some b') => b == b'
  | _, _ => false
def all2 {α β : Type} (f : α → β → Bool) : List α → List β → Bool
  | [], [] => true
  | a :: l, b :: r => f a b && all2 f l r
  | _, _ => false
def isV (v : Value) (u : V) : Bool :=
  match v, u with
  | .agg a, .ag cs => all2 isV0 a.toList cs
  | v, u => isV0 v u

/-- alike, cell by cell -/
def sameC : V → V → Bool
  | .bool a, .bool b => a == b
  | .int k n, .int k' n' => k == k' && n == n'
  | _, _ => false
theorem sameC_eq {a b : V} (h : sameC a b = true) : a = b := by
  unfold sameC at h
  split at h
  · rw [beq_iff_eq] at h; rw [h]
  · simp only [Bool.and_eq_true, beq_iff_eq] at h; rw [h.1, h.2]
  · cases h
theorem all2_same : ∀ {l r : List V}, all2 sameC l r = true → l = r
  | [], [], _ => rfl
  | a :: l, b :: r, h => by
    simp only [all2, Bool.and_eq_true] at h
    rw [sameC_eq h.1, all2_same h.2]
  | [], _ :: _, h => by simp [all2] at h
  | _ :: _, [], h => by simp [all2] at h

def chkOpd (o : Operand) (d : Opd) : Bool :=
  match o, d with
  | .global g, .c (.fp (.ag cs)) => match Glob.val g with | some cs' => all2 sameC cs cs' | none => false
  | .tmp n, .t m => n == m
  | .const v, .c u => isV v u
  | .func f, .c (.fn g []) => f == g
  | _, _ => false

theorem isV0_sound {wr : Nat → Prop} {W : World} {own : Own} {v : Value} {u : V} (h : isV0 v u = true) : VR wr W own u v := by
  unfold isV0 at h
  split at h
  · rw [beq_iff_eq] at h; subst h; exact .bool _
  · simp only [Bool.and_eq_true, beq_iff_eq] at h; obtain ⟨rfl, rfl⟩ := h; exact .int _ _
  · rename_i s s'
    have e : s = s' := by
      rw [beq_iff_eq] at h; cases s; cases s'; simp at h; simp [h]
    subst e; exact .str _
  · exact .nilp
  · exact .nils
  · exact .fzn
  · exact .mpn
  · exact .nilf
  · exact .nili
  · rw [beq_iff_eq] at h; subst h; exact .flt _
  · simp at h

theorem all2_get {α β : Type} {f : α → β → Bool} : ∀ {l : List α} {r : List β}, all2 f l r = true → l.length = r.length ∧ ∀ (j : Nat) a b, l[j]? = some a → r[j]? = some b → f a b = true
  | [], [], _ => ⟨rfl, fun j a b h => by simp at h⟩
  | a :: l, b :: r, h => by
    simp only [all2, Bool.and_eq_true] at h
    have ih := all2_get h.2
    refine ⟨by simp [ih.1], fun j x y hx hy => ?_⟩
    cases j with
    | zero => simp at hx hy; subst hx; subst hy; exact h.1
    | succ j => exact ih.2 j x y hx hy
  | [], _ :: _, h => by simp [all2] at h
  | _ :: _, [], h => by simp [all2] at h

theorem getD_of_some {α : Type} {l : Array α} {j : Nat} {x d : α} (h : l[j]? = some x) : l.getD j d = x := by
  simp [Array.getD_eq_getD_getElem?, h]

theorem isV_sound {wr : Nat → Prop} {W : World} {own : Own} {v : Value} {u : V} (h : isV v u = true) : VR wr W own u v := by
  unfold isV at h
  split at h
  · rename_i a cs
    have g := all2_get h
    refine .ag (by rw [← g.1]; simp) ?_
    intro j c hj
    have hlt : j < a.toList.length := by rw [g.1]; exact (List.getElem?_eq_some_iff.mp hj).1
    have hx : a.toList[j]? = some a.toList[j] := List.getElem?_eq_getElem hlt
    have hx' : a[j]? = some a.toList[j] := by simp
    rw [getD_of_some hx']
    exact isV0_sound (g.2 j _ _ hx hj)
  · exact isV0_sound h

theorem opd_sim {wr : Nat → Prop} {W : World} {own : Own} (hG : GOk wr W) {env : List V} {a : Act} (hv : ∀ t, VR wr W own (env.getD t .un) (a.tmps.getD t undef))
    {o : Operand} {d : Opd} (h : chkOpd o d = true) : VR wr W own (d.ev env) (a.eval o) := by
  unfold chkOpd at h
  split at h
  · split at h
    · rename_i cs' hg
      rw [all2_same h]
      exact (hG _ _ hg).own_any
    · cases h
  · rw [beq_iff_eq] at h; subst h; exact hv _
  · exact isV_sound h
  · rw [beq_iff_eq] at h; subst h; exact .fn rfl (fun j c h => by simp at h)
  · simp at h

def chkOpt (o : Option Operand) (d : Option Opd) : Bool :=
  match o, d with
  | none, none => true
  | some o, some d => chkOpd o d
  | _, _ => false

def sliceOf (P : Program) (t : TypeId) : Option TypeId := match P.underlying t with | some (.slice e) => some e | _ => none
def chkEl (P : Program) (t : TypeId) (z : Nat) (ag : Bool) : Bool :=
  match sliceOf P t with
  | some e => szOf P e == some z && agOf P e == ag && hasT P e && decide (0 < z) && (ag || z == 1)
  | none => false
def fieldOf (P : Program) (t : TypeId) (f : Nat) : Option Field := match P.underlying t with | some (.struct fs) => fs[f]? | _ => none
def zeroOf (P : Program) (t : TypeId) : Option Value := (P.info? t).bind (·.zero)
def chkZero (P : Program) (t : TypeId) (zc : List V) : Bool :=
  match zeroOf P t with
  | some v => all2 isV0 v.cells.toList zc
  | none => false
def chkCls (P : Program) (_op : BinOp) (t : TypeId) (y : Operand) (cl : Cls) : Bool :=
  match cl with
  | .num => true
  | .bool => (P.underlying t matches some .bool)
  | .ptr => (P.underlying t matches some (.pointer _))
  | .slice => (P.underlying t matches some (.slice _))
  | .func => (P.underlying t matches some (.func _ _ _))
  | .iface => (P.underlying t matches some (.interface _)) && (y matches .const _)

def chkParts (P : Program) (fs : Array Field) : List (Nat × Operand) → List (Nat × Nat × Opd) → Bool
  | [], [] => true
  | (i, x) :: r, (off, size, d) :: s => (match fs[i]? with | some f => f.offset == off && szOf P f.type == some size | none => false) && chkOpd x d && chkParts P fs r s
  | _, _ => false

def isU8 (P : Program) (t : TypeId) : Bool := match sliceOf P t with | some e => (P.underlying e matches some (.int .u8)) && szOf P e == some 1 | none => false

def XF.name : XF → String
  | .bits => "math.Float64bits"
  | .frombits => "math.Float64frombits"
  | .trunc => "math.archTrunc"
def chkX (P : Program) (f : FuncId) (e : XF) : Bool :=
  match P.funcs[f]? with
  | some fn => fn.name == e.name && fn.origin == "" && fn.body.isNone
  | none => false
def chkXB (P : Program) (f : FuncId) : Bool :=
  match P.funcs[f]? with
  | some fn => fn.name == "internal/bytealg.IndexByteString" && fn.origin == "" && fn.body.isNone
  | none => false
def leafT (P : Program) (t : TypeId) : Leaf → Bool
  | .bool => (P.underlying t matches some .bool)
  | .int => (P.underlying t matches some (.int _))
  | .str => (P.underlying t matches some .string)
def chkLeafs (P : Program) : Nat → List Field → List Leaf → Bool
  | _, [], [] => true
  | o, f :: fs, l :: ls => f.name != "_" && f.offset == o && chkSh P f.type none && leafT P f.type l && chkLeafs P (o + 1) fs ls
  | _, _, _ => false

/-- a comparable type, and what its cells are -/
def chkEqF (P : Program) (rec : TypeId → List Leaf → Bool) : Nat → List Field → List Leaf → Bool
  | _, [], [] => true
  | o, f :: fs, sig => match szOf P f.type with
    | some z => f.name != "_" && f.offset == o && decide (0 < z ∧ z ≤ sig.length) && chkSh P f.type (if agOf P f.type then some z else none) && rec f.type (sig.take z) && chkEqF P rec (o + z) fs (sig.drop z)
    | none => false
  | _, [], _ :: _ => false
def chkEqT (P : Program) : Nat → TypeId → List Leaf → Bool
  | 0, _, _ => false
  | n + 1, t, sig => match P.underlying t with
    | some (.struct fs) => !P.stoodInHeld t && chkEqF P (chkEqT P n) 0 fs.toList sig
    | some (.array l e) => match szOf P e with
      | some z => sig.length == l * z && chkSh P e (if agOf P e then some z else none) && (List.range l).all fun i => chkEqT P n e ((sig.drop (i * z)).take z)
      | none => false
    | _ => match sig with
      | [l] => leafT P t l
      | _ => false

def chkPartsA (z : Nat) : List (Nat × Operand) → List (Nat × Nat × Opd) → Bool
  | [], [] => true
  | (i, x) :: r, (off, size, d) :: s => off == i * z && size == z && chkOpd x d && chkPartsA z r s
  | _, _ => false

def isMapI (P : Program) (t : TypeId) : Bool := match P.underlying t with | some (.map kt _) => (P.underlying kt matches some (.int _)) | _ => false

def chkK (P : Program) (o : Op) (k : Kind) : Bool :=
  match o, k with
  | .move x, .mov d => chkOpd x d
  | .assign x, .mov d => chkOpd x d
  | .pick c a b, .pick c' a' b' => chkOpd c c' && chkOpd a a' && chkOpd b b'
  | .binOp op t x y _, .bin cl op' x' y' => op == op' && chkOpd x x' && chkOpd y y' && chkCls P op t y cl
  | .unOp op _ x, .un op' x' => op == op' && chkOpd x x'
  | .convert s d x, .cvt k x' => chkOpd x x' && (hasT P s) && (match P.underlying d with | some (.int k') => k == k' | _ => false)
  | .convert s d x, .b2s x' => chkOpd x x' && isU8 P s && (P.underlying d matches some .string)
  | .load t a, .ld a' n => chkOpd a a' && chkSh P t n
  | .store t a x, .st a' x' n => chkOpd a a' && chkOpd x x' && chkSh P t n
  | .indexAddr t x i, .idxa x' i' z ag => chkOpd x x' && chkOpd i i' && chkEl P t z ag
  | .index t x i, .idxs x' i' => chkOpd x x' && chkOpd i i' && (P.underlying t matches some .string)
  | .field t x f, .fld x' off n => chkOpd x x' && (match fieldOf P t f with | some fl => fl.offset == off && chkSh P fl.type n | none => false)
  | .fieldAddr t x f, .flda x' off n => chkOpd x x' && (match fieldOf P t f with | some fl => fl.offset == off && chkSh P fl.type n && (szOf P fl.type != some 0) | none => false)
  | .box _ x, .box x' _ => chkOpd x x'
  | .box _ x, .boxr x' => chkOpd x x'
  | .alloc t, .alloc zc => chkZero P t zc
  | .build t parts, .bld zero ps => chkZero P t zero && (match P.underlying t with | some (.struct fs) => fs.all (fun f => (szOf P f.type).isSome) && chkParts P fs parts.toList ps | some (.array _ e) => (match szOf P e with | some z => chkPartsA z parts.toList ps | none => false) | _ => false)
  | .buildSlice t n parts, .bsl z ag n' zero ps _ => n == n' && chkEl P t z ag && (match sliceOf P t with | some e => chkZero P e zero.cells | none => false) &&
      all2 (fun p q => p.1 == q.1 && chkOpd p.2 q.2) parts.toList ps && decide (n * z ≤ 16777216)
  | .makeSlice t l c, .mks z ag zc by_ l' c' => chkOpd l l' && chkOpd c c' && chkEl P t z ag &&
      (match sliceOf P t with | some e => chkZero P e zc && ((P.info? e).map (·.bytes) == some by_) && decide (zc.length = z) | none => false)
  | .slice t x lo hi mx, .slc x' lo' hi' z => chkOpd x x' && chkOpt lo lo' && chkOpt hi hi' && mx.isNone &&
      (match P.underlying t with | some .string => z == 0 | some (.slice e) => szOf P e == some z && z != 0 | _ => false)
  | .call c, .app s x z ag by_ => (match c.callee with | .builtin .append => true | _ => false) &&
      (match c.args.toList, c.argTypes.toList with
       | [s', x'], [st, xt] => chkOpd s' s && chkOpd x' x && chkEl P st z ag && !((P.underlying xt) matches some (.int _)) && hasT P xt &&
          (match sliceOf P st with | some e => ((P.info? e).map (·.bytes) == some by_) && decide (0 < by_) && ((zeroOf P e).map (·.cells.size) == some z) | none => false)
       | _, _ => false)
  | .call c, .len s x => (match c.callee with | .builtin .len => true | _ => false) &&
      (match c.args.toList, c.argTypes.toList with
       | [x'], [t] => chkOpd x' x && (match P.underlying t with | some .string => s | some (.slice _) => !s | _ => false)
       | _, _ => false)
  | .call c, .call _ f args => (match c.callee with | .value f' => chkOpd f' f | _ => false) && all2 chkOpd c.args.toList args
  | .extract x i, .ext x' i' => chkOpd x x' && i == i'
  | .nilCheck x, .nchk x' => chkOpd x x'
  | .makeFunc (.func f) first caps, .mkf f' caps' => f == f' && first.isEmpty && all2 chkOpd caps.toList caps'
  | .makeInterface t x, .mki t' x' => t == t' && chkOpd x x' && (match P.underlying t with | some (.interface _) => false | some _ => true | none => false)
  | .binOp op _ x y _, .fbin op' x' y' => op == op' && chkOpd x x' && chkOpd y y'
  | .unOp op _ x, .fneg x' => op == .neg && chkOpd x x'
  | .convert s d x, .i2f x' => chkOpd x x' && hasT P s && (P.underlying d matches some (.float .f64))
  | .convert s d x, .f2i k x' => chkOpd x x' && hasT P s && (match P.underlying d with | some (.int k') => k == k' | _ => false)
  | .call c, .xc e x => (match c.callee with | .value (.func f) => chkX P f e | _ => false) && (match c.args.toList with | [x'] => chkOpd x' x | _ => false)
  | .binOp op t x y _, .eqs ne sig x' y' => op == (if ne then .neq else .eql) && chkOpd x x' && chkOpd y y' && !P.stoodInHeld t && !P.eqGuardType P.depth t &&
      agOf P t && chkEqT P 8 t sig
  | .makeFunc (.func f) first caps, .mkm f' first' => f == f' && caps.isEmpty && all2 chkOpd first.toList first'
  | .call c, .ixb x y => (match c.callee with | .value (.func f) => chkXB P f | _ => false) && (match c.args.toList with | [x', y'] => chkOpd x' x && chkOpd y' y | _ => false)
  | .index t x i, .idxg x' i' len z n => chkOpd x x' && chkOpd i i' && (match P.underlying t with | some (.array l e) => l == len && szOf P e == some z && chkSh P e n | _ => false)
  | .indexAddr t x i, .idxp x' i' len z n => chkOpd x x' && chkOpd i i' && (match P.underlying t with | some (.array l e) => l == len && szOf P e == some z && chkSh P e n | _ => false)
  | .call c, .mnx mx x y => (match c.callee with | .builtin b => b == (if mx then .max else .min) | _ => false) && (match c.args.toList with | [x', y'] => chkOpd x' x && chkOpd y' y | _ => false)
  | .call c, .cln _ f x => (match c.callee with | .value f' => chkOpd f' f | _ => false) && all2 chkOpd c.args.toList [x]
  | .makeMap _ r, .mkmp => r.isNone
  | .lookup t m k ok, .mget m' k' zero ok' => chkOpd m m' && chkOpd k k' && ok == ok' && (match P.underlying t with | some (.map kt et) => (match P.underlying kt, zeroOf P et with | some (.int _), some z => isV z zero | _, _ => false) | _ => false)
  | .mapUpdate t m k x, .mset m' k' x' => chkOpd m m' && chkOpd k k' && chkOpd x x' && isMapI P t
  | .insert t m k x, .mset m' k' x' => chkOpd m m' && chkOpd k k' && chkOpd x x' && isMapI P t
  | .call c, .mdel m' k' => (match c.callee with | .builtin .delete => true | _ => false) &&
      (match c.args.toList, c.argTypes.toList with
       | [m, k], t :: _ => chkOpd m m' && chkOpd k k' && isMapI P t
       | _, _ => false)
  | .call c, .mlen m' => (match c.callee with | .builtin .len => true | _ => false) &&
      (match c.args.toList, c.argTypes.toList with
       | [m], [t] => chkOpd m m' && isMapI P t
       | _, _ => false)
  | .slice t x lo hi mx, .slca x' lo' hi' n z _ => chkOpd x x' && chkOpt lo lo' && chkOpt hi hi' && mx.isNone && (match P.underlying t with | some (.array l e) => l == n && szOf P e == some z | _ => false)
  | _, .stuck => true
  | .call c, .clr x z zc => (match c.callee with | .builtin .clear => true | _ => false) &&
      (match c.args.toList, c.argTypes.toList with
       | [x'], [t] => chkOpd x' x && (match sliceOf P t with | some e => szOf P e == some z && chkZero P e zc && decide (0 < z) && decide (zc.length = z) | none => false)
       | _, _ => false)
  | _, _ => false

def chkOp (P : Program) (ops : Array Oper) (o : Oper) (i : IOp) : Bool :=
  o.dst == i.dst && chkK P o.op i.k &&
  (match o.guard, i.guard with
   | none, none => true
   | some (j, w), some (t, w') => w == w' && ((ops[j]?).bind (·.dst) == some t)
   | _, _ => false)
end Go.Eng
