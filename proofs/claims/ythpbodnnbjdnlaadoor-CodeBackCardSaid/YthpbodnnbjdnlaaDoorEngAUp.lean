/- Functions of this seat, run on unknown values by the rules of the small machine (no condition beyond those stated). -/
import Derived.LoopN
import Derived.Orders
import Derived.KernelRfl
import GoSem.Core.Float
namespace Go.Eng
open Go
set_option linter.unusedSectionVars false
set_option linter.unusedVariables false
set_option linter.unusedSimpArgs false
inductive V where
  | un
  | sk
  | bool (b : Bool)
  | int (k : IntKind) (n : Int)
  | str (s : ByteArray)
  | nilp
  | ptr (b g off : Nat)
  | fp (v : V)
  | bx (v : V)
  | nils
  | sl (b g off len z : Nat) (ag : Bool)
  | fz (xs : List V)
  | ag (cs : List V)
  | tup (vs : List V)
  | fn (f : Nat) (caps : List V)
  | nilf
  | ifc (t : Nat) (v : V)
  | nili
  | fl (x : Option Nat)
  | nanw
  | fze
  | mp (b : Nat)
  | mpn
  | mpb (ks vs : List V)
  | bm (f : Nat) (first : List V)
  deriving Inhabited
def V.cells : V → List V
  | .ag cs => cs
  | v => [v]
def V.isCell : V → Bool
  | .un | .sk | .ag _ | .tup _ | .mpb .. => false
  | _ => true
def V.isAg : V → Bool
  | .ag _ => true
  | _ => false
abbrev Heap := List (Nat × List V)
def rdB (H : Heap) (b g : Nat) : Option (List V) :=
  match H[b]? with
  | some (g',cs) => if g' = g then some cs else none
  | none => none
def V.free : Nat → V → Bool
  | 0,_ => false
  | n + 1,v => match v with
    | .ptr .. | .un | .sk | .sl .. | .bx _ | .bm .. | .mp .. | .mpb .. => false
    | .fn _ cs => cs.all (V.free n)
    | .ag cs => cs.all (V.free n)
    | .tup cs => cs.all (V.free n)
    | .ifc _ x => V.free n x
    | _ => true
def deepN : Nat := 40
inductive Opd where
  | t (n : Nat)
  | c (v : V)
  deriving Inhabited
def Opd.ev (env : List V) : Opd → V
  | .t n => env.getD n .un
  | .c v => v
abbrev Sh := Option Nat
def takeSh (cs : List V) (off : Nat) : Sh → Option V
  | none => cs[off]?
  | some m => if off + m ≤ cs.length then some (.ag ((cs.drop off).take m)) else none
def fitsSh (v : V) : Sh → Bool
  | none => v.isCell
  | some m => match v with | .ag cs => cs.length == m && cs.all V.isCell | _ => false
inductive Cls where
  | num | bool | ptr | slice | func | iface
  deriving DecidableEq
inductive XF where
  | bits | frombits | trunc
  deriving DecidableEq,Inhabited
inductive Leaf where
  | bool | int | str
  deriving DecidableEq,Inhabited
inductive Kind where
  | mov (x : Opd)
  | pick (c a b : Opd)
  | bin (cl : Cls) (op : BinOp) (x y : Opd)
  | un (op : UnOp) (x : Opd)
  | cvt (k : IntKind) (x : Opd)
  | s2b (x : Opd)
  | b2s (x : Opd)
  | ld (x : Opd) (n : Sh)
  | st (a x : Opd) (n : Sh)
  | idxa (x i : Opd) (z : Nat) (ag : Bool)
  | idxs (x i : Opd)
  | idxg (x i : Opd) (len z : Nat) (n : Sh)
  | fld (x : Opd) (off : Nat) (n : Sh)
  | flda (x : Opd) (off : Nat) (n : Sh)
  | box (x : Opd) (fr : Bool)
  | boxr (x : Opd)
  | alloc (zc : List V)
  | bld (zero : List V) (parts : List (Nat × Nat × Opd))
  | bsl (z : Nat) (ag : Bool) (n : Nat) (zero : V) (parts : List (Nat × Opd)) (fr : Bool)
  | mks (z : Nat) (ag : Bool) (zc : List V) (by_ : Nat) (l c : Opd)
  | slc (x : Opd) (lo hi : Option Opd) (z : Nat)
  | app (s x : Opd) (z : Nat) (ag : Bool) (by_ : Nat)
  | len (s : Bool) (x : Opd)
  | call (heap : Bool) (f : Opd) (args : List Opd)
  | ext (x : Opd) (i : Nat)
  | nchk (x : Opd)
  | mkf (f : Nat) (caps : List Opd)
  | mkm (f : Nat) (first : List Opd)
  | mki (t : Nat) (x : Opd)
  | fbin (op : BinOp) (x y : Opd)
  | fneg (x : Opd)
  | i2f (x : Opd)
  | f2i (k : IntKind) (x : Opd)
  | xc (e : XF) (x : Opd)
  | ixb (x c : Opd)
  | eqs (ne : Bool) (sig : List Leaf) (x y : Opd)
  | idxp (x i : Opd) (len z : Nat) (n : Sh)
  | mnx (mx : Bool) (x y : Opd)
  | clr (x : Opd) (z : Nat) (zc : List V)
  | cpy (d s : Opd) (z : Nat)
  | cln (heap : Bool) (f x : Opd)
  | stuck
  | mkmp
  | slca (x : Opd) (lo hi : Option Opd) (n z : Nat) (ag : Bool)
  | slcm (x : Opd) (lo : Option Opd) (hi mx : Opd) (z : Nat)
  | mget (m k : Opd) (zero : V) (ok : Bool)
  | mset (m k x : Opd)
  | mdel (m k : Opd)
  | mlen (m : Opd)
  deriving Inhabited
structure IOp where
  dst : Option Nat
  guard : Option (Nat × Bool)
  lo : Bool
  k : Kind
  deriving Inhabited
inductive Ir where
  | skip
  | ret
  | exit (id : Nat)
  | seq (a b : Ir)
  | cond (c : Opd) (a b : Ir)
  | block (id : Nat) (body : Ir)
  | loop (body : Ir)
  | rgn (ops : List IOp)
  | rgd (ls : List Nat) (ops : List IOp)
  | clr (ts : List Nat) (body : Ir)
  | scope (body : Ir)
  | fin (ds : List (Option Sh)) (body : Ir)
  | dfr (pre : List IOp) (t : Nat) (cl : Nat) (caps : List Opd) (body : Ir)
  | rpn (ops : List IOp) (x : Opd)
  | rgp (ops : List IOp)
  | rdp (s : Nat) (ls : List Nat) (ops : List IOp)
  | frz (body : Ir)
  deriving Inhabited
structure IFun where
  ntmps : Nat
  res : List Nat
  body : Ir
  deriving Inhabited
def intB (op : BinOp) (k : IntKind) (a b : Int) : Option V :=
  match op with
  | .add => some (.int k (k.wrap (a + b)))
  | .sub => some (.int k (k.wrap (a - b)))
  | .mul => some (.int k (k.wrap (a * b)))
  | .quo => if b = 0 then none else some (.int k (k.wrap (a.tdiv b)))
  | .rem => if b = 0 then none else some (.int k (a.tmod b))
  | .and => some (.int k (k.wrap (BitVec.ofInt k.bits a &&& BitVec.ofInt k.bits b).toNat))
  | .or => some (.int k (k.wrap (BitVec.ofInt k.bits a ||| BitVec.ofInt k.bits b).toNat))
  | .xor => some (.int k (k.wrap (BitVec.ofInt k.bits a ^^^ BitVec.ofInt k.bits b).toNat))
  | .andNot => some (.int k (k.wrap (BitVec.ofInt k.bits a &&& ~~~(BitVec.ofInt k.bits b)).toNat))
  | .eql => some (.bool (a == b))
  | .neq => some (.bool (a != b))
  | .lss => some (.bool (a < b))
  | .leq => some (.bool (a ≤ b))
  | .gtr => some (.bool (a > b))
  | .geq => some (.bool (a ≥ b))
  | .shl => none
  | .shr => none
def strB (op : BinOp) (x y : ByteArray) : Option V :=
  match op with
  | .add => if x.size + y.size ≤ 4611686018427387904 then some (.str (x ++ y)) else none
  | .eql => some (.bool (x.toList == y.toList))
  | .neq => some (.bool (!(x.toList == y.toList)))
  | .lss => some (.bool (Op.bytesLess x.toList y.toList))
  | .leq => some (.bool (Op.bytesLess x.toList y.toList || x.toList == y.toList))
  | .gtr => some (.bool (!(Op.bytesLess x.toList y.toList || x.toList == y.toList)))
  | .geq => some (.bool (!Op.bytesLess x.toList y.toList))
  | _ => none
def V.isNil (cl : Cls) : V → Option Bool
  | .nilp => if cl = .ptr then some true else none
  | .ptr .. | .fp _ => if cl = .ptr then some false else none
  | .nils => if cl = .slice then some true else none
  | .sl .. | .fz _ | .fze => if cl = .slice then some false else none
  | .nilf => if cl = .func then some true else none
  | .fn .. => if cl = .func then some false else none
  | .nili => if cl = .iface then some true else none
  | .ifc .. => if cl = .iface then some false else none
  | _ => none
def V.sure : V → Bool
  | .fz [] => false
  | _ => true
def nilB (cl : Cls) (op : BinOp) (x y : V) : Option V :=
  match x.isNil cl,y.isNil cl,op with
  | some a,some b,.eql => if (a || b) && (x.sure && y.sure) then some (.bool (a == b)) else none
  | some a,some b,.neq => if (a || b) && (x.sure && y.sure) then some (.bool (a != b)) else none
  | _,_,_ => none
def binV (cl : Cls) (op : BinOp) (x y : V) : Option V :=
  match cl,x,y with
  | .num,.int k a,.int k' b =>
    match op with
    | .shl => if b < 0 then none else some (.int k (k.wrap (a * 2 ^ (min b.toNat k.bits))))
    | .shr => if b < 0 then none else some (.int k (a.fdiv (2 ^ (min b.toNat k.bits))))
    | _ => if k = k' then intB op k a b else none
  | .num,.str a,.str b => strB op a b
  | .bool,.bool a,.bool b => match op with | .eql => some (.bool (a == b)) | .neq => some (.bool (!(a == b))) | _ => none
  | .num,_,_ => none
  | .bool,_,_ => none
  | cl,x,y => nilB cl op x y
def unV (op : UnOp) (x : V) : Option V :=
  match op,x with
  | .neg,.int k n => some (.int k (k.wrap (0 - n)))
  | .xor,.int k n => intB .xor k (if k.signed then -1 else k.max) n
  | .not,.bool b => some (.bool !b)
  | _,_ => none
def flA (f : Nat → Nat → Option Nat) (a b : Option Nat) : Option Nat :=
  match a,b with
  | some x,some y => f x y
  | _,_ => none
def flO (a b : Option Nat) : Option Ordering :=
  match a,b with
  | some x,some y => Ieee.double.order x y
  | _,_ => none
def fbinV (op : BinOp) (x y : V) : Option V :=
  match x,y with
  | .fl a,.fl b => match op with
    | .add => some (.fl (flA Ieee.double.add a b))
    | .sub => some (.fl (flA Ieee.double.sub a b))
    | .mul => some (.fl (flA Ieee.double.mul a b))
    | .quo => some (.fl (flA Ieee.double.div a b))
    | .eql => some (.bool (flO a b == some .eq))
    | .neq => some (.bool (flO a b != some .eq))
    | .lss => some (.bool (flO a b == some .lt))
    | .leq => some (.bool (flO a b == some .lt || flO a b == some .eq))
    | .gtr => some (.bool (flO a b == some .gt))
    | .geq => some (.bool (flO a b == some .gt || flO a b == some .eq))
    | _ => none
  | _,_ => none
def fnegV : V → Option V
  | .fl (some b) => some (.fl (some (b ^^^ 9223372036854775808)))
  | .fl none => some (.fl none)
  | _ => none
def i2fV : V → Option V
  | .int _ n => some (.fl (some (Ieee.double.write (.number (n < 0) n.natAbs 0))))
  | _ => none
def f2iV (k : IntKind) : V → Option V
  | .fl (some b) => match (Ieee.double.read b).toInt .zero with
    | some n => if k.min ≤ n ∧ n ≤ k.max then some (.int k n) else none
    | none => none
  | _ => none
def truncB (b : Nat) : Option Nat :=
  match Ieee.double.read b with
  | .nan _ _ => none
  | d => some (Ieee.double.write (d.integral .zero))
def ixbV (x c : V) : Option V :=
  match x,c with
  | .str s,.int .u8 n => if 0 ≤ n ∧ n < 256 then some (.int .i64 (match (List.range s.size).find? fun i => s[i]! == UInt8.ofNat n.toNat with | some i => (i : Int) | none => -1)) else none
  | _,_ => none
def xcV (e : XF) (x : V) : Option V :=
  match e,x with
  | .bits,.fl (some b) => some (.int .u64 (b : Int))
  | .bits,.fl none => some .nanw
  | .frombits,.int .u64 n => some (.fl (some n.toNat))
  | .frombits,.nanw => some (.fl none)
  | .trunc,.fl (some b) => some (.fl (truncB b))
  | .trunc,.fl none => some (.fl none)
  | _,_ => none
def eqLeaf : Leaf → V → V → Option Bool
  | .bool,.bool a,.bool b => some (a == b)
  | .int,.int k a,.int k' b => if k = k' then some (a == b) else none
  | .str,.str a,.str b => some (a.toList == b.toList)
  | _,_,_ => none
def eqLeafs : List Leaf → List V → List V → Option Bool
  | [],[],[] => some true
  | l :: ls,a :: as,b :: bs => match eqLeaf l a b,eqLeafs ls as bs with
    | some p,some q => some (p && q)
    | _,_ => none
  | _,_,_ => none
def eqsV (ne : Bool) (sig : List Leaf) (x y : V) : Option V :=
  match x,y with
  | .ag xs,.ag ys => (eqLeafs sig xs ys).map fun r => .bool (if ne then !r else r)
  | _,_ => none
def ldV (H : Heap) (p : V) (n : Sh) : Option V :=
  match p with
  | .fp x => if fitsSh x n then some x else none
  | .bx x => if fitsSh x n then some x else none
  | .ptr b g off => (rdB H b g).bind fun cs => takeSh cs off n
  | _ => none
def splice (l : List V) (off : Nat) (new : List V) : List V := l.take off ++ new ++ l.drop (off + new.length)
def stV (H : Heap) (p x : V) (n : Sh) : Option Heap :=
  match p with
  | .ptr b g off => (rdB H b g).bind fun cs =>
    if fitsSh x n && decide (off + x.cells.length ≤ cs.length) then
      some (H.set b (g,match n with | none => cs.set off x | some _ => splice cs off x.cells)) else none
  | _ => none
def okEl (z : Nat) (ag : Bool) (x : V) : Bool := x.cells.length == z && x.isAg == ag
def idxaV (x i : V) (z : Nat) (ag : Bool) : Option V :=
  match x,i with
  | .fz xs,.int _ n => if 0 ≤ n then (xs[n.toNat]?).bind fun e => if okEl z ag e then some (.fp e) else none else none
  | .sl b g off len z' ag',.int _ n =>
    if 0 ≤ n ∧ n < (len : Int) ∧ z' = z ∧ ag' = ag then some (.ptr b g (off + n.toNat * z)) else none
  | _,_ => none
def idxsV (x i : V) : Option V :=
  match x,i with
  | .str s,.int _ n => if 0 ≤ n then (s[n.toNat]?).map fun b => .int .u8 (b.toNat : Int) else none
  | _,_ => none
def idxgV (x i : V) (len z : Nat) (n : Sh) : Option V :=
  match x,i with
  | .ag cs,.int _ k => if 0 ≤ k ∧ k < (len : Int) then takeSh cs (k.toNat * z) n else none
  | _,_ => none
def idxpV (x i : V) (len z : Nat) (n : Sh) : Option V :=
  match x,i with
  | .fp (.ag cs),.int _ k => if 0 ≤ k ∧ k < (len : Int) then (takeSh cs (k.toNat * z) n).bind fun y => if n.isSome || !y.isAg then some (.fp y) else none else none
  | .ptr b g off,.int _ k => if 0 ≤ k ∧ k < (len : Int) then some (.ptr b g (off + k.toNat * z)) else none
  | _,_ => none
def mnxV (mx : Bool) (x y : V) : Option V :=
  match x,y with
  | .int k a,.int _ b => some (.int k (if mx then (if a < b then b else a) else if b < a then b else a))
  | _,_ => none
def fldV (x : V) (off : Nat) (n : Sh) : Option V :=
  match x with
  | .ag cs => takeSh cs off n
  | _ => none
def fldaV (x : V) (off : Nat) (n : Sh) : Option V :=
  match x with
  | .ptr b g o => some (.ptr b g (o + off))
  | .fp (.ag cs) => (takeSh cs off n).bind fun y => if n.isSome || !y.isAg then some (.fp y) else none
  | _ => none
def lenV (s : Bool) (x : V) : Option V :=
  match s,x with
  | false,.fz xs => some (.int .i64 (xs.length : Int))
  | false,.sl _ _ _ len _ _ => some (.int .i64 (len : Int))
  | false,.nils => some (.int .i64 0)
  | false,.fze => some (.int .i64 0)
  | true,.str s => some (.int .i64 (s.size : Int))
  | _,_ => none
def bndV (d : Nat) : Option V → Option Nat
  | none => some d
  | some (.int _ n) => if 0 ≤ n then some n.toNat else none
  | some _ => none
def hdOk (z : Nat) : List V → Bool
  | [] => true
  | x :: _ => x.cells.length == z
def slcV (x : V) (lo hi : Option V) (z : Nat) : Option V :=
  match x with
  | .str s => (bndV 0 lo).bind fun l => (bndV s.size hi).bind fun h => if z = 0 ∧ l ≤ h ∧ h ≤ s.size then some (.str (s.extract l h)) else none
  | .fz xs => (bndV 0 lo).bind fun l => (bndV xs.length hi).bind fun h =>
    if z ≠ 0 ∧ l ≤ h ∧ h ≤ xs.length ∧ hdOk z xs then some (.fz ((xs.take h).drop l)) else none
  | .sl b g off len z' ag => (bndV 0 lo).bind fun l => (bndV len hi).bind fun h =>
    if z ≠ 0 ∧ l ≤ h ∧ h ≤ len ∧ z' = z then some (.sl b g (off + l * z) (h - l) z ag) else none
  | .nils => (bndV 0 lo).bind fun l => (bndV 0 hi).bind fun h => if z ≠ 0 ∧ l = 0 ∧ h = 0 then some .nils else none
  | _ => none
def slcmV (x : V) (lo : Option V) (hi mx : V) (z : Nat) : Option V :=
  match x with
  | .fz xs => (bndV 0 lo).bind fun l => (bndV xs.length (some hi)).bind fun h => (bndV xs.length (some mx)).bind fun m =>
    if z ≠ 0 ∧ l ≤ h ∧ h ≤ m ∧ m ≤ xs.length ∧ hdOk z xs then some (.fz ((xs.take h).drop l)) else none
  | _ => none
def strCells (s : ByteArray) : List V := s.data.toList.map fun b => .int .u8 (b.toNat : Int)
def newCells (H : Heap) (x : V) (z : Nat) : Option (List V × Nat) :=
  match x with
  | .fz xs => if hdOk z xs then some (xs.flatMap V.cells,xs.length) else none
  | .sl b g off len z' _ => (rdB H b g).bind fun cs => if z' = z ∧ off + len * z ≤ cs.length then some ((cs.drop off).take (len * z),len) else none
  | .nils => some ([],0)
  | .fze => some ([],0)
  | .str s => if z = 1 then some (strCells s,s.size) else none
  | _ => none
def appV (H : Heap) (s x : V) (z : Nat) (ag : Bool) (by_ : Nat) : Option (V × Heap) :=
  (newCells H x z).bind fun (cs,n) =>
  if !cs.all V.isCell then none else
  match s with
  | .nils => if n * by_ ≤ 140737488355328 then (if n = 0 then some (.nils,H) else some (.sl H.length 0 0 n z ag,H ++ [(0,cs)])) else none
  | .sl b g off len z' _ => (rdB H b g).bind fun old =>
    if z' = z ∧ off + len * z ≤ old.length ∧ (len + n) * by_ ≤ 140737488355328 then
      some (.sl b (g + 1) 0 (len + n) z ag,H.set b (g + 1,(old.drop off).take (len * z) ++ cs)) else none
  | _ => none
def clrV (H : Heap) (x : V) (z : Nat) (zc : List V) : Option (V × Heap) :=
  match x with
  | .nils => some (.tup [],H)
  | .sl b g off len z' _ => (rdB H b g).bind fun cs => if z' = z ∧ zc.length = z ∧ zc.all V.isCell = true ∧ 0 < len ∧ off + len * z ≤ cs.length then
      some (.tup [],H.set b (g,splice cs off (List.replicate len zc).flatten)) else none
  | _ => none
def cpyV (H : Heap) (d s : V) (z : Nat) : Option (V × Heap) :=
  match d with
  | .sl b g off len z' _ => (newCells H s z).bind fun p => (rdB H b g).bind fun cs => if z' = z ∧ p.1.all V.isCell = true ∧ off + len * z ≤ cs.length then
      some (.int .i64 ((min p.2 len : Nat) : Int),H.set b (g,splice cs off (p.1.take (min p.2 len * z)))) else none
  | _ => none
def mksV (H : Heap) (z : Nat) (ag : Bool) (zc : List V) (by_ : Nat) (l c : V) : Option (V × Heap) :=
  match l,c with
  | .int .i64 n,.int .i64 m =>
    if 0 ≤ n ∧ n ≤ m ∧ m * (by_ : Int) ≤ 140737488355328 ∧ m < 9223372036854775808 then
      some (.sl H.length 0 0 n.toNat z ag,H ++ [(0,(List.replicate n.toNat zc).flatten)]) else none
  | _,_ => none
def setParts : List V → List (Nat × V) → List V
  | xs,[] => xs
  | xs,(i,v) :: r => setParts (xs.set i v) r
def bslV (H : Heap) (z : Nat) (ag : Bool) (n : Nat) (zero : V) (parts : List (Nat × V)) (fr : Bool) : Option (V × Heap) :=
  if okEl z ag zero && parts.all (fun p => okEl z ag p.2 && p.2.cells.all V.isCell && decide (p.1 < n) && (!fr || V.free deepN p.2)) then
    let xs := setParts (List.replicate n zero) parts
    some (if fr then (.fz xs,H) else (.sl H.length 0 0 n z ag,H ++ [(0,xs.flatMap V.cells)]))
  else none
def bldV : List V → List (Nat × Nat × V) → Option V
  | cs,[] => some (.ag cs)
  | cs,(off,size,v) :: r => if v.cells.length = size ∧ v.cells.all V.isCell ∧ off + size ≤ cs.length then bldV (splice cs off v.cells) r else none
def extV (x : V) (i : Nat) : Option V := match x with | .tup vs => vs[i]? | _ => none
def nchkV : V → Option V
  | .ptr b g o => some (.ptr b g o)
  | .fp v => some (.fp v)
  | .fn f c => some (.fn f c)
  | _ => none
def omap {α β : Type} (f : α → Option β) : List α → Option (List β)
  | [] => some []
  | a :: l => match f a,omap f l with
    | some b,some r => some (b :: r)
    | _,_ => none
def byteOf : V → Option UInt8
  | .int .u8 n => if 0 ≤ n ∧ n < 256 then some (UInt8.ofNat n.toNat) else none
  | _ => none
def b2sV (H : Heap) (x : V) : Option V :=
  match x with
  | .nils => some (.str .empty)
  | .fz _ | .sl .. => (newCells H x 1).bind fun p => (omap byteOf p.1).map fun l => .str ⟨l.toArray⟩
  | _ => none
def rows (z : Nat) : Nat → List V → List (List V)
  | 0,_ => []
  | n + 1,cs => cs.take z :: rows z n (cs.drop z)
def deep (strict : Bool) (H : Heap) : Nat → V → Option V
  | 0,_ => none
  | n + 1,v => match v with
    | .sl b g off len z ag => (rdB H b g).bind fun cs =>
      if off + len * z ≤ cs.length ∧ 0 < z ∧ (ag = true ∨ z = 1) then
        (omap (fun r => if ag then (omap (deep strict H n) r).map .ag else (match r with | [c] => (deep strict H n c).bind fun u => if u.isAg then none else some u | _ => none)) (rows z len (cs.drop off))).map .fz
      else none
    | .ag cs => (omap (deep strict H n) cs).map .ag
    | .tup vs => (omap (deep strict H n) vs).map .tup
    | .ifc t x => (deep strict H n x).map (.ifc t)
    | .fz xs => if strict then some .un else some (.fz xs)
    | .fp x => if strict then some .un else some (.fp x)
    | .fn f cs => (omap (deep strict H n) cs).map (.fn f)
    | .ptr .. | .un | .sk | .bx _ | .bm .. | .mp .. | .mpb .. => none
    | .nils => some (.fz [])
    | .fze => some (.fz [])
    | v => some v
def nz : Nat → V → V
  | 0,v => v
  | n + 1,v => match v with
    | .nils => .fz []
    | .fze => .fz []
    | .ag cs => .ag (cs.map (nz n))
    | .tup cs => .tup (cs.map (nz n))
    | .fn f cs => .fn f (cs.map (nz n))
    | .ifc t x => .ifc t (nz n x)
    | v => v
structure FT where
  n : Nat → List V → Heap → Option (V × Heap)
  x : Nat → List V → Heap → Option (Bool × V × Heap)
instance : CoeFun FT (fun _ => Nat → List V → Heap → Option (V × Heap)) := ⟨FT.n⟩
def pcall (F : FT) (H : Heap) (f : V) (args : List V) : Option V :=
  match f with
  | .fn g [] => (omap (deep false H deepN) args).bind fun us =>
    (F g us []).bind fun r => deep (!args.all (V.free deepN)) r.2 deepN r.1
  | _ => none
def hcall (F : FT) (H : Heap) (f : V) (args : List V) : Option (V × Heap) :=
  match f with
  | .fn g caps => F g (args ++ caps) H
  | .bm g first => F g (first ++ args) H
  | _ => none
def callX (F : FT) (H : Heap) (hp : Bool) (f : V) (args : List V) : Option (Bool × V × Heap) :=
  if hp then match f with
    | .fn g caps => F.x g (args ++ caps) H
    | .bm g first => F.x g (first ++ args) H
    | _ => none
  else match f with
    | .fn g [] => (omap (deep false H deepN) args).bind fun us =>
      (F.x g us []).bind fun r => (deep (!args.all (V.free deepN)) r.2.2 deepN r.2.1).map fun w => (r.1,w,H)
    | _ => none
def slcaV (H : Heap) (x : V) (lo hi : Option V) (n z : Nat) (ag : Bool) : Option V :=
  match x with
  | .ptr b g off => (bndV 0 lo).bind fun l => (bndV n hi).bind fun h => (rdB H b g).bind fun cs =>
    if l ≤ h ∧ h ≤ n ∧ off + n * z ≤ cs.length then some (.sl b g (off + l * z) (h - l) z ag) else none
  | _ => none
def mfind (k : IntKind) (n : Int) : List V → Option (Option Nat)
  | [] => some none
  | .int k' m :: r => if k = k' then (if n == m then some (some 0) else (mfind k n r).map fun o => o.map (· + 1)) else none
  | _ :: _ => none
def mpB (H : Heap) : V → Option (Nat × List V × List V)
  | .mp b => match H[b]? with | some (_,[.mpb ks vs]) => some (b,ks,vs) | _ => none
  | _ => none
def mgetV (H : Heap) (m key zero : V) (ok : Bool) : Option V :=
  match key with
  | .int k n => (mpB H m).bind fun p => (mfind k n p.2.1).bind fun r => match r with
    | some i => (p.2.2[i]?).map fun v => if ok then .tup [v,.bool true] else v
    | none => some (if ok then .tup [zero,.bool false] else zero)
  | _ => none
def msetV (H : Heap) (m key x : V) : Option Heap :=
  match key with
  | .int k n => (mpB H m).bind fun p => (mfind k n p.2.1).bind fun r => match r with
    | some i => some (H.set p.1 (1,[.mpb p.2.1 (p.2.2.set i x)]))
    | none => some (H.set p.1 (1,[.mpb (p.2.1 ++ [key]) (p.2.2 ++ [x])]))
  | _ => none
def mdelV (H : Heap) (m key : V) : Option Heap :=
  match key with
  | .int k n => (mpB H m).bind fun p => (mfind k n p.2.1).bind fun r => match r with
    | some i => some (H.set p.1 (1,[.mpb (p.2.1.eraseIdx i) (p.2.2.eraseIdx i)]))
    | none => some H
  | _ => none
def mlenV (H : Heap) (m : V) : Option V := (mpB H m).map fun p => .int .i64 (p.2.1.length : Int)
def isE : V → Bool
  | .fz [] | .nils | .fze | .sl _ _ _ 0 _ _ => true
  | _ => false
def clnV (F : FT) (f : V) : Option V :=
  match f with
  | .fn g [] => (F g [.nils] []).bind fun r => (F g [.fze] []).bind fun q => match deep true r.2 deepN r.1,deep true q.2 deepN q.1 with
    | some (.fz []),some (.fz []) => some (.fz [])
    | _,_ => none
  | _ => none
def cln1 (F : FT) (H : Heap) (f x : V) : Option (V × Heap) :=
  match f with
  | .fn g [] => if V.free deepN x then (F g [x] []).bind fun r => match r.1 with
    | .sl b gn off len z ag => (rdB r.2 b gn).bind fun cs => if cs.all (V.free deepN) then some (.sl H.length 0 off len z ag,H ++ [(0,cs)]) else none
    | _ => none else none
  | _ => none
def boxOk : V → Bool
  | .un | .sk | .tup _ | .mpb .. => false
  | _ => true
def evq (F : FT) (env : List V) (H : Heap) : Kind → Option V
  | .mov x => some (x.ev env)
  | .pick c a b => match c.ev env with | .bool t => some (if t then a.ev env else b.ev env) | _ => none
  | .bin cl op x y => binV cl op (x.ev env) (y.ev env)
  | .un op x => unV op (x.ev env)
  | .cvt k x => match x.ev env with | .int _ n => some (.int k (k.wrap n)) | _ => none
  | .b2s x => b2sV H (x.ev env)
  | .ld x n => ldV H (x.ev env) n
  | .idxa x i z ag => idxaV (x.ev env) (i.ev env) z ag
  | .idxs x i => idxsV (x.ev env) (i.ev env)
  | .idxg x i len z n => idxgV (x.ev env) (i.ev env) len z n
  | .fld x off n => fldV (x.ev env) off n
  | .flda x off n => fldaV (x.ev env) off n
  | .box x true => if boxOk (x.ev env) && V.free deepN (x.ev env) then some (.fp (x.ev env)) else none
  | .boxr x => if boxOk (x.ev env) then some (.bx (x.ev env)) else none
  | .bld zero parts => bldV zero (parts.map fun p => (p.1,p.2.1,p.2.2.ev env))
  | .bsl z ag n zero parts true => (bslV [] z ag n zero (parts.map fun p => (p.1,p.2.ev env)) true).map (·.1)
  | .slc x lo hi z => slcV (x.ev env) (lo.map (·.ev env)) (hi.map (·.ev env)) z
  | .len s x => lenV s (x.ev env)
  | .call false f args => pcall F H (f.ev env) (args.map (·.ev env))
  | .ext x i => extV (x.ev env) i
  | .nchk x => nchkV (x.ev env)
  | .mkf f caps => some (.fn f (caps.map (·.ev env)))
  | .mkm f first => some (.bm f (first.map (·.ev env)))
  | .mki t x => some (.ifc t (x.ev env))
  | .fbin op x y => fbinV op (x.ev env) (y.ev env)
  | .fneg x => fnegV (x.ev env)
  | .i2f x => i2fV (x.ev env)
  | .f2i k x => f2iV k (x.ev env)
  | .xc e x => xcV e (x.ev env)
  | .ixb x c => ixbV (x.ev env) (c.ev env)
  | .eqs ne sig x y => eqsV ne sig (x.ev env) (y.ev env)
  | .idxp x i len z n => idxpV (x.ev env) (i.ev env) len z n
  | .mnx mx x y => mnxV mx (x.ev env) (y.ev env)
  | .mget m k zero ok => mgetV H (m.ev env) (k.ev env) zero ok
  | .mlen m => mlenV H (m.ev env)
  | .slcm x lo hi mx z => slcmV (x.ev env) (lo.map (·.ev env)) (hi.ev env) (mx.ev env) z
  | .slca x lo hi n z ag => slcaV H (x.ev env) (lo.map (·.ev env)) (hi.map (·.ev env)) n z ag
  | .cln false f x => if isE (x.ev env) then clnV F (f.ev env) else pcall F H (f.ev env) [x.ev env]
  | _ => none
def evw (F : FT) (env : List V) (H : Heap) : Kind → Option (V × Heap)
  | .st a x n => (stV H (a.ev env) (x.ev env) n).map fun H' => (.sk,H')
  | .box x false => if boxOk (x.ev env) then some (.ptr H.length 0 0,H ++ [(0,(x.ev env).cells)]) else none
  | .alloc zc => some (.ptr H.length 0 0,H ++ [(0,zc)])
  | .bsl z ag n zero parts false => bslV H z ag n zero (parts.map fun p => (p.1,p.2.ev env)) false
  | .mks z ag zc by_ l c => mksV H z ag zc by_ (l.ev env) (c.ev env)
  | .app s x z ag by_ => appV H (s.ev env) (x.ev env) z ag by_
  | .call true f args => hcall F H (f.ev env) (args.map (·.ev env))
  | .cln true f x => if isE (x.ev env) then (clnV F (f.ev env)).map fun v => (v,H) else cln1 F H (f.ev env) (x.ev env)
  | .mkmp => some (.mp H.length,H ++ [(1,[.mpb [] []])])
  | .mset m k x => (msetV H (m.ev env) (k.ev env) (x.ev env)).map fun h => (.sk,h)
  | .mdel m k => (mdelV H (m.ev env) (k.ev env)).map fun h => (.tup [],h)
  | .clr x z zc => clrV H (x.ev env) z zc
  | .cpy d s z => cpyV H (d.ev env) (s.ev env) z
  | .s2b x => match x.ev env with | .str s => some (.sl H.length 0 0 s.size 1 false,H ++ [(0,strCells s)]) | _ => none
  | _ => none
def Kind.quiet : Kind → Bool
  | .st .. | .box _ false | .alloc _ | .bsl _ _ _ _ _ false | .mks .. | .app .. | .call true .. | .cln true .. | .s2b _ | .clr .. | .cpy .. | .mkmp | .mset .. | .mdel .. => false
  | _ => true
def put (env : List V) (d : Option Nat) (v : V) : List V :=
  match d with
  | some d => env.set d v
  | none => env
def exK (F : FT) (o : IOp) (env : List V) (H : Heap) : Option (List V × Heap) :=
  if o.k.quiet then (evq F env (if o.lo then [] else H) o.k).map fun v => (put env o.dst v,H)
  else (evw F env H o.k).map fun r => (put env o.dst r.1,r.2)
def exOp (F : FT) (o : IOp) (env : List V) (H : Heap) : Option (List V × Heap) :=
  match o.guard with
  | none => exK F o env H
  | some (t,want) => match env.getD t .un with
    | .bool b => if b = want then exK F o env H else some (put env o.dst .sk,H)
    | .sk => some (put env o.dst .sk,H)
    | _ => none
def exOps (F : FT) : List IOp → List V → Heap → Option (List V × Heap)
  | [],env,H => some (env,H)
  | o :: r,env,H => match exOp F o env H with
    | some (env',H') => exOps F r env' H'
    | none => none
def exKX (F : FT) (o : IOp) (env : List V) (H : Heap) : Option (Option V × List V × Heap) :=
  match o.k with
  | .call hp f args => if o.lo then none else (callX F H hp (f.ev env) (args.map (·.ev env))).map fun r => if r.1 then (some r.2.1,env,r.2.2) else (none,put env o.dst r.2.1,r.2.2)
  | _ => (exK F o env H).map fun r => (none,r.1,r.2)
def exOpX (F : FT) (o : IOp) (env : List V) (H : Heap) : Option (Option V × List V × Heap) :=
  match o.guard with
  | none => exKX F o env H
  | some (t,want) => match env.getD t .un with
    | .bool b => if b = want then exKX F o env H else some (none,put env o.dst .sk,H)
    | .sk => some (none,put env o.dst .sk,H)
    | _ => none
def exOpsX (F : FT) : List IOp → List V → Heap → Option (Option V × List V × Heap)
  | [],env,H => some (none,env,H)
  | o :: r,env,H => match exOpX F o env H with
    | some (none,env',H') => exOpsX F r env' H'
    | q => q
def exOp0 (F : FT) (H0 : Heap) (o : IOp) (env : List V) (H : Heap) : Option (List V × Heap) :=
  if o.lo then (if o.k.quiet then (exOp F { o with lo := false } env H0).map fun r => (r.1,H) else none) else exOp F o env H
def exOps0 (F : FT) (H0 : Heap) : List IOp → List V → Heap → Option (List (List V × Heap))
  | [],env,H => some [(env,H)]
  | o :: r,env,H => match exOp0 F H0 o env H with
    | some (env',H') => match exOps0 F H0 r env' H' with
      | some tr => some ((env,H) :: tr)
      | none => none
    | none => none
def eqb2 (f : V → V → Bool) : List V → List V → Bool
  | [],[] => true
  | a :: l,b :: r => f a b && eqb2 f l r
  | _,_ => false
def V.eqb : Nat → V → V → Bool
  | 0,_,_ => false
  | n + 1,a,b => match a,b with
    | .bool a,.bool b => a == b
    | .int k a,.int k' b => k == k' && a == b
    | .str a,.str b => a.data.toList == b.data.toList
    | .nilp,.nilp => true
    | .nils,.nils => true
    | .nilf,.nilf => true
    | .nili,.nili => true
    | .mpn,.mpn => true
    | .ptr a b c,.ptr a' b' c' => a == a' && b == b' && c == c'
    | .sl a b c d e f,.sl a' b' c' d' e' f' => a == a' && b == b' && c == c' && d == d' && e == e' && f == f'
    | .mp a,.mp b => a == b
    | .fp a,.fp b => V.eqb n a b
    | .bx a,.bx b => V.eqb n a b
    | .fz a,.fz b => eqb2 (V.eqb n) a b
    | .ag a,.ag b => eqb2 (V.eqb n) a b
    | .tup a,.tup b => eqb2 (V.eqb n) a b
    | .fn f a,.fn g b => f == g && eqb2 (V.eqb n) a b
    | _,_ => false
def gdR (env : List V) : Option (Nat × Bool) → Bool
  | none => true
  | some (t,w) => match env.getD t .un with | .bool b => b == w | _ => false
def stayOp (F : FT) (H0 : Heap) (o : IOp) (env : List V) (h : Heap) : Bool :=
  !gdR env o.guard || (match evq F env h o.k,evq F env H0 o.k with | some a,some b => V.eqb deepN a b | _,_ => false)
def stays (F : FT) (H0 : Heap) (hs : List Heap) : List Nat → List IOp → List (List V × Heap) → Bool
  | n :: ls,o :: r,p :: tr => (!o.lo || (hs.take (n + 1)).all (stayOp F H0 o p.1)) && stays F H0 hs ls r tr
  | [],o :: r,p :: tr => (!o.lo || hs.all (stayOp F H0 o p.1)) && stays F H0 hs [] r tr
  | _,_,_ => true
inductive X where
  | nrm
  | ret
  | ext (id : Nat)
  | pan (v : V)
class Xtn where
  fn : FT
  rcv : Nat → List V → V → Heap → Option Heap
instance (priority := low) noXtn : Xtn := ⟨⟨fun _ _ _ => none,fun _ _ _ => none⟩,fun _ _ _ _ => none⟩
def clrEnv : List Nat → List V → List V
  | [],env => env
  | t :: ts,env => clrEnv ts (env.set t .un)
def exec [Xtn] (F : FT) : Nat → Ir → List V → Heap → Option (X × List V × Heap)
  | 0,_,_,_ => none
  | k + 1,ir,env,H => match ir with
    | .skip => some (.nrm,env,H)
    | .ret => some (.ret,env,H)
    | .exit id => some (.ext id,env,H)
    | .seq a b => match exec F k a env H with
      | some (.nrm,env',H') => exec F k b env' H'
      | r => r
    | .cond c a b => match c.ev env with
      | .bool t => exec F k (if t then a else b) env H
      | _ => none
    | .block id body => match exec F k body env H with
      | some (.ext id',env',H') => if id' = id then some (.nrm,env',H') else some (.ext id',env',H')
      | r => r
    | .loop body => match exec F k body env H with
      | some (.nrm,env',H') => exec F k (.loop body) env' H'
      | r => r
    | .rgn ops => match exOps F ops env H with
      | some (env',H') => some (.nrm,env',H')
      | none => none
    | .rgd ls ops => match exOps0 F H ops env H with
      | some tr => if stays F H (tr.map (·.2)) ls ops tr then (tr.getLast?).map fun r => (.nrm,r.1,r.2) else none
      | none => none
    | .clr ts body => exec F k body (clrEnv ts env) H
    | .scope body => exec F k body env H
    | .fin _ body => exec F k body env H
    | .frz body => exec F k body env H
    | .dfr pre t cl caps body => match exOps F pre env H with
      | some (env',H') => if t < env'.length then match exec F k body (clrEnv [t] env') H' with
          | some (.pan v,env2,H2) => (Xtn.rcv cl (caps.map (·.ev env')) v H2).map fun H3 => (.ret,env2,H3)
          | r => r
        else none
      | none => none
    | .rpn ops x => match exOps F ops env H with
      | some (env',H') => match x.ev env' with | .ifc t v => some (.pan (.ifc t v),env',H') | _ => none
      | none => none
    | .rgp ops => match exOpsX F ops env H with
      | some (none,env',H') => some (.nrm,env',H')
      | some (some v,env',H') => some (.pan v,env',H')
      | none => none
    | .rdp s ls ops => match exOps F ((ops.take s).map fun o => { o with lo := false }) env H,ops[s]? with
      | some (env1,_),some o => match exOpX F o env1 H with
        | some (some v,_,H') => some (.pan v,clrEnv (ops.filterMap (·.dst)) env,H')
        | some (none,_,_) => match exOps0 F H ops env H with
          | some tr => if stays F H (tr.map (·.2)) ls ops tr then (tr.getLast?).map fun r => (.nrm,r.1,r.2) else none
          | none => none
        | none => none
      | _,_ => none
def resV (res : List Nat) (env : List V) : V :=
  match res with
  | [t] => env.getD t .un
  | ts => .tup (ts.map fun t => env.getD t .un)
def Ir.cells : Ir → Option (List (Option Sh))
  | .fin ds _ => some ds
  | .frz b => b.cells
  | _ => none
def Ir.isFrz : Ir → Bool
  | .frz _ => true
  | _ => false
def notMap : List V → Bool
  | [.mpb _ _] => false
  | _ => true
def V.newR (n0 : Nat) (H : Heap) : Nat → V → Bool
  | 0,_ => false
  | n + 1,v => match v with
    | .ptr .. | .un | .sk | .bx _ | .bm .. | .mp .. | .mpb .. => false
    | .sl b g _ _ _ _ => decide (n0 ≤ b) && (match rdB H b g with | some cs => notMap cs | none => false)
    | .fn _ cs => cs.all (V.newR n0 H n)
    | .ag cs => cs.all (V.newR n0 H n)
    | .tup cs => cs.all (V.newR n0 H n)
    | .ifc _ x => V.newR n0 H n x
    | _ => true
def cleanH (n0 : Nat) (H : Heap) : Heap := H.map fun p => (p.1,p.2.map fun c => if V.newR n0 H deepN c then c else .un)
def keptH (H H' : Heap) : Prop := ∀ b,b < H.length → H'[b]? = H[b]? ∨ ∃ g cs,H'[b]? = some (g,cs) ∧ cs.all (V.free deepN) = true
open Classical in
noncomputable def frzV (H : Heap) (v : V) (H' : Heap) : Option (V × Heap) :=
  if keptH H H' ∧ V.newR H.length H' deepN v = true then (deep false (cleanH H.length H') deepN v).map fun u => (u,H'.take H.length) else none
noncomputable def frzR (z : Bool) (H : Heap) (v : V) (H' : Heap) : Option (V × Heap) :=
  match z with
  | false => some (v,H')
  | true => frzV H v H'
def ldR (env : List V) (H : Heap) (r : Nat × Option Sh) : Option V :=
  match r.2 with
  | none => some (env.getD r.1 .un)
  | some n => ldV H (env.getD r.1 .un) n
def tupV : List V → V
  | [v] => v
  | vs => .tup vs
def resW (cs : Option (List (Option Sh))) (res : List Nat) (env : List V) (H : Heap) : Option V :=
  match cs with
  | none => some (resV res env)
  | some ds => (omap (ldR env H) (res.zip ds)).map tupV
noncomputable def exF [Xtn] (T : Nat → Option IFun) : Nat → FT
  | 0 => ⟨fun _ _ _ => none,fun _ _ _ => none⟩
  | k + 1 => ⟨fun f args H => match T f with
      | none => Xtn.fn.n f args H
      | some g => match exec (exF T k) k g.body (args ++ List.replicate (g.ntmps - args.length) .un) H with
        | some (.nrm,env,H') => (resW g.body.cells g.res env H').bind fun v => frzR g.body.isFrz H v H'
        | some (.ret,env,H') => (resW g.body.cells g.res env H').bind fun v => frzR g.body.isFrz H v H'
        | _ => none,
    fun f args H => match T f with
      | none => Xtn.fn.x f args H
      | some g => match exec (exF T k) k g.body (args ++ List.replicate (g.ntmps - args.length) .un) H with
        | some (.nrm,env,H') => (resW g.body.cells g.res env H').bind fun v => (frzR g.body.isFrz H v H').map fun r => (false,r)
        | some (.ret,env,H') => (resW g.body.cells g.res env H').bind fun v => (frzR g.body.isFrz H v H').map fun r => (false,r)
        | some (.pan v,_,H') => some (true,v,H')
        | _ => none⟩
end Go.Eng
namespace Go.Eng
open Go
set_option linter.unusedSectionVars false
set_option linter.unusedVariables false
set_option linter.unusedSimpArgs false
abbrev Own := Nat → Nat → Option (Nat × Nat × Nat)
def own0 : Own := fun _ _ => none
class Glob where
  val : Nat → Option (List V)
instance (priority := low) noGlob : Glob := ⟨fun _ => none⟩
inductive VR (wr : Nat → Prop) (W : World) : Own → V → Value → Prop
  | un {own} (v : Value) : VR wr W own .un v
  | sk {own} : VR wr W own .sk undef
  | bool {own} (b : Bool) : VR wr W own (.bool b) (.bool b)
  | int {own} (k : IntKind) (n : Int) : VR wr W own (.int k n) (.int k n)
  | str {own} (s : ByteArray) : VR wr W own (.str s) (.string s)
  | nilp {own} : VR wr W own .nilp (.pointer none)
  | ptr {own} {b g off cb sh N : Nat} (h : own b g = some (cb,sh,N)) : VR wr W own (.ptr b g off) (.pointer (some ⟨cb,sh + off,none⟩))
  | fp {own} {x : V} {blk off : Nat} (cv : Nat → Value) (hw : ¬ wr blk) (hlt : blk < W.heap.size)
      (hc : ∀ (j : Nat) (c : V),x.cells[j]? = some c → W.cell? ⟨blk,off + j,none⟩ = some (cv j))
      (hv : ∀ (j : Nat) (c : V),x.cells[j]? = some c → VR wr W own0 c (cv j)) : VR wr W own (.fp x) (.pointer (some ⟨blk,off,none⟩))
  | bx {own} {x : V} {blk off : Nat} (cv : Nat → Value) (hw : ¬ wr blk) (hlt : blk < W.heap.size)
      (hc : ∀ (j : Nat) (c : V),x.cells[j]? = some c → W.cell? ⟨blk,off + j,none⟩ = some (cv j))
      (hv : ∀ (j : Nat) (c : V),x.cells[j]? = some c → VR wr W own c (cv j)) : VR wr W own (.bx x) (.pointer (some ⟨blk,off,none⟩))
  | nils {own} : VR wr W own .nils (.slice none 0 0)
  | sl {own} {b g off len z : Nat} {ag : Bool} {cb sh N : Nat} {a : Addr} {cap : Nat} (h : own b g = some (cb,sh,N)) (hl : len ≤ cap)
      (ha : cap = 0 ∨ a = ⟨cb,sh + off,none⟩) (hN : cap = 0 ∨ sh + off + cap * z ≤ N) : VR wr W own (.sl b g off len z ag) (.slice (some a) len cap)
  | fz {own} {xs : List V} {blk off : Nat} {sp : Option Nat} {cap : Nat} (z : Nat) (cv : Nat → Nat → Value) (hl : xs.length ≤ cap)
      (hw : xs ≠ [] → sp = none ∧ ¬ wr blk ∧ blk < W.heap.size)
      (hz : ∀ (i : Nat) (x : V),xs[i]? = some x → x.cells.length = z)
      (hc : ∀ (i : Nat) (x : V) (j : Nat) (c : V),xs[i]? = some x → x.cells[j]? = some c → W.cell? ⟨blk,off + i * z + j,none⟩ = some (cv i j))
      (hv : ∀ (i : Nat) (x : V) (j : Nat) (c : V),xs[i]? = some x → x.cells[j]? = some c → VR wr W own0 c (cv i j)) :
      VR wr W own (.fz xs) (.slice (some ⟨blk,off,sp⟩) xs.length cap)
  | fzn {own} : VR wr W own (.fz []) (.slice none 0 0)
  | ag {own} {cs : List V} {arr : Array Value} (hl : cs.length = arr.size) (hv : ∀ (j : Nat) (c : V),cs[j]? = some c → VR wr W own c (arr.getD j undef)) : VR wr W own (.ag cs) (.agg arr)
  | tup {own} {cs : List V} {arr : Array Value} (hl : cs.length = arr.size) (hv : ∀ (j : Nat) (c : V),cs[j]? = some c → VR wr W own c (arr.getD j undef)) : VR wr W own (.tup cs) (.tuple arr)
  | fn {own} {f : Nat} {cs : List V} {arr : Array Value} (hl : cs.length = arr.size) (hv : ∀ (j : Nat) (c : V),cs[j]? = some c → VR wr W own c (arr.getD j undef)) : VR wr W own (.fn f cs) (.func (.func f) #[] arr)
  | bm {own} {f : Nat} {cs : List V} {arr : Array Value} (hl : cs.length = arr.size) (hv : ∀ (j : Nat) (c : V),cs[j]? = some c → VR wr W own c (arr.getD j undef)) : VR wr W own (.bm f cs) (.func (.func f) arr #[])
  | nilf {own} : VR wr W own .nilf .nilFunc
  | ifc {own} {t : Nat} {x : V} {x' : Value} (h : VR wr W own x x') : VR wr W own (.ifc t x) (.iface t x')
  | nili {own} : VR wr W own .nili .nilIface
  | flt {own} (b : Nat) : VR wr W own (.fl (some b)) (.float .f64 b)
  | fnan {own} (b : Nat) (h : (Ieee.double.read b).isNaN = true) : VR wr W own (.fl none) (.float .f64 b)
  | mpn {own} : VR wr W own .mpn (.map none)
  | mp {own} {b cb : Nat} (h : own b 0 = some (cb,0,0)) : VR wr W own (.mp b) (.map (some cb))
  | fze {own} (a : Addr) (cap : Nat) : VR wr W own .fze (.slice (some a) 0 cap)
  | nanw {own} (b : Nat) (h : (Ieee.double.read b).isNaN = true) : VR wr W own .nanw (.int .u64 (b : Int))
def Own.le (o o' : Own) : Prop := ∀ b g x,o b g = some x → o' b g = some x
theorem Own.le_refl (o : Own) : o.le o := fun _ _ _ h => h
theorem Own.le_trans {a b c : Own} (h : a.le b) (h' : b.le c) : a.le c := fun _ _ _ x => h' _ _ _ (h _ _ _ x)
structure Grow (wr wr' : Nat → Prop) (W W' : World) : Prop where
  size : W.heap.size ≤ W'.heap.size
  wrs : ∀ b,b < W.heap.size → wr' b → wr b
  same : ∀ b,b < W.heap.size → ¬ wr b → W'.heap[b]? = W.heap[b]?
theorem cell_of_heap {W W' : World} {b : Nat} (h : W'.heap[b]? = W.heap[b]?) (o : Nat) : W'.cell? ⟨b,o,none⟩ = W.cell? ⟨b,o,none⟩ := by
  unfold World.cell?; simp only [h]
theorem VR.mono {wr wr' : Nat → Prop} {W W' : World} {own own' : Own} {v : V} {v' : Value} (g : Grow wr wr' W W') (ho : own.le own')
    (h : VR wr W own v v') : VR wr' W' own' v v' := by
  induction h generalizing own' with
  | un v => exact .un v
  | sk => exact .sk
  | bool b => exact .bool b
  | int k n => exact .int k n
  | str s => exact .str s
  | nilp => exact .nilp
  | ptr h => exact .ptr (ho _ _ _ h)
  | fp cv hw hlt hc hv ih => exact .fp cv (fun h => hw (g.wrs _ hlt h)) (Nat.lt_of_lt_of_le hlt g.size) (fun j c h => by rw [cell_of_heap (g.same _ hlt hw)]; exact hc j c h) (fun j c h => ih j c h (Own.le_refl _))
  | bx cv hw hlt hc hv ih => exact .bx cv (fun h => hw (g.wrs _ hlt h)) (Nat.lt_of_lt_of_le hlt g.size) (fun j c h => by rw [cell_of_heap (g.same _ hlt hw)]; exact hc j c h) (fun j c h => ih j c h ho)
  | nils => exact .nils
  | sl h hl ha hN => exact .sl (ho _ _ _ h) hl ha hN
  | fz z cv hl hw hz hc hv ih =>
    refine .fz z cv hl (fun h => ⟨(hw h).1,fun h' => (hw h).2.1 (g.wrs _ (hw h).2.2 h'),Nat.lt_of_lt_of_le (hw h).2.2 g.size⟩) hz ?_ (fun i x j c h h' => ih i x j c h h' (Own.le_refl _));intro i x j c h h';have hn := hw (by rintro rfl; simp at h);rw [cell_of_heap (g.same _ hn.2.2 hn.2.1)]; exact hc i x j c h h'
  | fzn => exact .fzn
  | ag hl hv ih => exact .ag hl (fun j c h => ih j c h ho)
  | tup hl hv ih => exact .tup hl (fun j c h => ih j c h ho)
  | fn hl hv ih => exact .fn hl (fun j c h => ih j c h ho)
  | bm hl hv ih => exact .bm hl (fun j c h => ih j c h ho)
  | nilf => exact .nilf
  | ifc h ih => exact .ifc (ih ho)
  | nili => exact .nili
  | flt b => exact .flt b
  | fnan b h => exact .fnan b h
  | fze a c => exact .fze a c
  | mpn => exact .mpn
  | mp h => exact .mp (ho _ _ _ h)
  | nanw b h => exact .nanw b h
def Owned (own : Own) (cb : Nat) : Prop := ∃ b g sh N,own b g = some (cb,sh,N)
theorem VR.own_any {wr : Nat → Prop} {W : World} {own : Own} {cs : List V} {v : Value} (h : VR wr W own0 (.fp (.ag cs)) v) : VR wr W own (.fp (.ag cs)) v := by
  cases h with
  | fp cv hw hlt hc hv => exact .fp cv hw hlt hc hv
def GOk [Glob] (wr : Nat → Prop) (W : World) : Prop := ∀ g cs,Glob.val g = some cs → VR wr W own0 (.fp (.ag cs)) (.pointer (some ⟨g,0,none⟩))
theorem GOk.mono [Glob] {wr wr' : Nat → Prop} {W W' : World} (g : Grow wr wr' W W') (h : GOk wr W) : GOk wr' W' := fun x cs hx => (h x cs hx).mono g (Own.le_refl _)
variable [Glob]
def LiveC (wr : Nat → Prop) (W : World) (own : Own) (b g : Nat) (cs : List V) : Prop := ∃ cb sh N,own b g = some (cb,sh,N) ∧ sh + cs.length ≤ N ∧
    ∃ ccs ty lo hi,W.heap[cb]? = some (.cells ccs ty (lo,hi)) ∧ ccs.size = N ∧ (∀ i,i < N → ¬ (lo ≤ i ∧ i < hi)) ∧
      ∀ j c,cs[j]? = some c → ∃ cv,ccs[sh + j]? = some cv ∧ VR wr W own c cv
structure MapR (wr : Nat → Prop) (W : World) (own : Own) (ks vs : List V) (es : List MapEntry) : Prop where
  len : es.length = ks.length
  vlen : vs.length = ks.length
  key : ∀ (j : Nat) (k : V) (e : MapEntry),ks[j]? = some k → es[j]? = some e → VR wr W own k e.key
  val : ∀ (j : Nat) (v : V) (e : MapEntry),vs[j]? = some v → es[j]? = some e → VR wr W own v e.val
theorem MapR.mono {wr wr' : Nat → Prop} {W W' : World} {own own' : Own} {ks vs : List V} {es : List MapEntry} (g : Grow wr wr' W W') (ho : own.le own') (h : MapR wr W own ks vs es) : MapR wr' W' own' ks vs es :=
  ⟨h.len,h.vlen,fun j k e a b => (h.key j k e a b).mono g ho,fun j k e a b => (h.val j k e a b).mono g ho⟩
def LiveM (wr : Nat → Prop) (W : World) (own : Own) (b g : Nat) (cs : List V) : Prop := g = 1 ∧ own b 1 = none ∧ ∃ ks vs cb,cs = [.mpb ks vs] ∧ own b 0 = some (cb,0,0) ∧
    ∃ es clock,W.heap[cb]? = some (.map es clock) ∧ MapR wr W own ks vs es.toList
def Dead (own : Own) (b : Nat) : Prop := ∀ g,own b g = none
structure Rd (wr : Nat → Prop) (W : World) (own : Own) (H : Heap) : Prop where
  live : ∀ b g cs,H[b]? = some (g,cs) → LiveC wr W own b g cs ∨ LiveM wr W own b g cs ∨ Dead own b
  wr_lt : ∀ cb,wr cb → cb < W.heap.size
  glob : GOk wr W
structure St (wr : Nat → Prop) (W : World) (own : Own) (H : Heap) : Prop extends Rd wr W own H where
  inj : ∀ b b' g g' cs cs' cb sh N sh' N',H[b]? = some (g,cs) → H[b']? = some (g',cs') → own b g = some (cb,sh,N) → own b' g' = some (cb,sh',N') → b = b'
  injm : ∀ b b' cs cs' cb,H[b]? = some (1,cs) → H[b']? = some (1,cs') → LiveM wr W own b 1 cs → LiveM wr W own b' 1 cs' → own b 0 = some (cb,0,0) → own b' 0 = some (cb,0,0) → b = b'
  fut : ∀ b g x,own b g = some x → b < H.length ∧ ∀ g' cs,H[b]? = some (g',cs) → g ≤ g'
  own_wr : ∀ b g cb sh N,own b g = some (cb,sh,N) → wr cb
theorem Rd.nil {wr : Nat → Prop} {W : World} {own : Own} (h : ∀ cb,wr cb → cb < W.heap.size) (hg : GOk wr W) : Rd wr W own [] := ⟨fun b g cs h => by simp at h,h,hg⟩
theorem Rd.cells {wr : Nat → Prop} {W : World} {own : Own} {H : Heap} (s : Rd wr W own H) {b g : Nat} {cs : List V} {x : Nat × Nat × Nat} (hb : H[b]? = some (g,cs)) (ho : own b g = some x) : LiveC wr W own b g cs := by
  rcases s.live b g cs hb with h | ⟨rfl,h,_⟩ | h
  · exact h
  · rw [h] at ho; cases ho
  · rw [h g] at ho; cases ho
def Io (W W' : World) : Prop := W'.os = W.os ∧ W'.tape = W.tape ∧ W'.output = W.output
theorem Io.refl (W : World) : Io W W := ⟨rfl,rfl,rfl⟩
theorem Io.trans {a b c : World} (h : Io a b) (h' : Io b c) : Io a c := ⟨h'.1.trans h.1,h'.2.1.trans h.2.1,h'.2.2.trans h.2.2⟩
structure Ext (wr : Nat → Prop) (W : World) (own : Own) (wr' : Nat → Prop) (W' : World) (own' : Own) : Prop where
  owns : own.le own'
  size : W.heap.size ≤ W'.heap.size
  wrs : ∀ b,b < W.heap.size → wr' b → wr b
  wr_le : ∀ b,wr b → wr' b
  same : ∀ b,b < W.heap.size → ¬ Owned own b → W'.heap[b]? = W.heap[b]?
  newb : ∀ b g cb sh N,own' b g = some (cb,sh,N) → (∃ g' sh' N',own b g' = some (cb,sh',N')) ∨ W.heap.size ≤ cb
  io : Io W W'
theorem Ext.refl (wr : Nat → Prop) (W : World) (own : Own) : Ext wr W own wr W own :=
  ⟨Own.le_refl _,Nat.le_refl _,fun _ _ h => h,fun _ h => h,fun _ _ _ => rfl,fun b g cb sh N h => .inl ⟨g,sh,N,h⟩,Io.refl _⟩
theorem Ext.news {wr : Nat → Prop} {W : World} {own : Own} {wr' : Nat → Prop} {W' : World} {own' : Own} (h : Ext wr W own wr' W' own') : ∀ cb,Owned own' cb → Owned own cb ∨ W.heap.size ≤ cb := by
  rintro cb ⟨b,g,sh,N,ho⟩;rcases h.newb b g cb sh N ho with ⟨g',sh',N',h⟩ | h
  · exact .inl ⟨b,g',sh',N',h⟩
  · exact .inr h
theorem Ext.trans {wr : Nat → Prop} {W : World} {own : Own} {wr1 : Nat → Prop} {W1 : World} {own1 : Own} {wr2 : Nat → Prop} {W2 : World} {own2 : Own} (h : Ext wr W own wr1 W1 own1) (h' : Ext wr1 W1 own1 wr2 W2 own2) : Ext wr W own wr2 W2 own2 := by
  refine ⟨Own.le_trans h.owns h'.owns,Nat.le_trans h.size h'.size,fun b hb hw => h.wrs b hb (h'.wrs b (Nat.lt_of_lt_of_le hb h.size) hw),fun b hb => h'.wr_le b (h.wr_le b hb),?_,?_,h.io.trans h'.io⟩
  · intro b hb hn;rw [h'.same b (Nat.lt_of_lt_of_le hb h.size),h.same b hb hn];intro ho;rcases h.news b ho with ho | hge
    · exact hn ho
    · omega
  · intro b g cb sh N ho;rcases h'.newb b g cb sh N ho with ⟨g',sh',N',ho⟩ | hge
    · exact h.newb b g' cb sh' N' ho
    · exact .inr (Nat.le_trans h.size hge)
theorem St.owned_wr {wr : Nat → Prop} {W : World} {own : Own} {H : Heap} (s : St wr W own H) {cb : Nat} (h : Owned own cb) : wr cb := by
  obtain ⟨b,g,sh,N,h⟩ := h; exact s.own_wr b g cb sh N h
theorem Ext.grow {wr : Nat → Prop} {W : World} {own : Own} {wr' : Nat → Prop} {W' : World} {own' : Own} {H : Heap} (s : St wr W own H) (h : Ext wr W own wr' W' own') : Grow wr wr' W W' :=
  ⟨h.size,h.wrs,fun b hb hn => h.same b hb (fun ho => hn (s.owned_wr ho))⟩
theorem St.nil {wr : Nat → Prop} {W : World} (hw : ∀ cb,wr cb → cb < W.heap.size) (hg : GOk wr W) : St wr W own0 [] :=
  ⟨Rd.nil hw hg,fun b b' g g' cs cs' cb sh N sh' N' h => by simp at h,fun b b' cs cs' cb h => by simp at h,fun b g x h => by simp [own0] at h,fun b g cb sh N h => by simp [own0] at h⟩
structure Sim (wr : Nat → Prop) (W : World) (own : Own) (H : Heap) (env : List V) (tmps : Array Value) : Prop where
  st : St wr W own H
  vals : ∀ t,VR wr W own (env.getD t .un) (tmps.getD t undef)
  sz : env.length ≤ tmps.size
theorem VR.of_free {wr : Nat → Prop} {W : World} {own : Own} : ∀ (n : Nat) {v : V} {v' : Value},V.free n v = true → VR wr W own v v' → VR wr W own0 v v'
  | 0,v,v',h,_ => by simp [V.free] at h
  | n + 1,v,v',hf,h => by
    cases h with
    | un => simp [V.free] at hf
    | sk => simp [V.free] at hf
    | bool b => exact .bool b
    | int k m => exact .int k m
    | str s => exact .str s
    | nilp => exact .nilp
    | ptr h => simp [V.free] at hf
    | fp cv hw hlt hc hv => exact .fp cv hw hlt hc hv
    | bx cv hw hlt hc hv => simp [V.free] at hf
    | nils => exact .nils
    | sl h hl ha hN => simp [V.free] at hf
    | fz z cv hl hw hz hc hv => exact .fz z cv hl hw hz hc hv
    | fzn => exact .fzn
    | ag hl hv =>
      simp only [V.free,List.all_eq_true] at hf;exact .ag hl (fun j c hj => VR.of_free n (hf c (List.mem_of_getElem? hj)) (hv j c hj))
    | tup hl hv =>
      simp only [V.free,List.all_eq_true] at hf;exact .tup hl (fun j c hj => VR.of_free n (hf c (List.mem_of_getElem? hj)) (hv j c hj))
    | fn hl hv =>
      simp only [V.free,List.all_eq_true] at hf;exact .fn hl (fun j c hj => VR.of_free n (hf c (List.mem_of_getElem? hj)) (hv j c hj))
    | bm hl hv => simp [V.free] at hf
    | nilf => exact .nilf
    | ifc h => exact .ifc (VR.of_free n (by simpa [V.free] using hf) h)
    | nili => exact .nili
    | flt b => exact .flt b
    | fnan b h => exact .fnan b h
    | fze a c => exact .fze a c
    | mpn => exact .mpn
    | mp h => simp [V.free] at hf
    | nanw b h => exact .nanw b h
end Go.Eng
