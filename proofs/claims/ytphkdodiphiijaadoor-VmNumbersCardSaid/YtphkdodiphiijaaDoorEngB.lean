/- How the small machine's values stand for the model's (a relation; no condition). -/
import Derived.Test.YtphkdodiphiijaaDoorEngA
namespace Go.Eng
open Go
set_option linter.unusedSectionVars false
set_option linter.unusedVariables false
set_option linter.unusedSimpArgs false

abbrev Own := Nat → Nat → Option (Nat × Nat × Nat)
def own0 : Own := fun _ _ => none

/-- what package-level variables hold that nothing writes: their cells -/
class Glob where
  val : Nat → Option (List V)
instance (priority := low) noGlob : Glob := ⟨fun _ => none⟩

inductive VR (wr : Nat → Prop) (W : World) : Own → V → Value → Prop
  | un {own} (v : Value) : VR wr W own .un v
  | sk {own} : VR wr W own .sk undef
  | bool {own} (b : Bool) : VR wr W own (.bool b) (.bool b)
  | int {own} (k : IntKind) (n : Int) : VR wr W own (.int k n) (.int k n)
  | str {own} (s : ByteArray) : VR wr W own (.str s) (.string s)
  | nilp {own} : VR wr W own .nilp (.pointer none)
  | ptr {own} {b g off cb sh N : Nat} (h : own b g = some (cb, sh, N)) : VR wr W own (.ptr b g off) (.pointer (some ⟨cb, sh + off, none⟩))
  | fp {own} {x : V} {blk off : Nat} (cv : Nat → Value) (hw : ¬ wr blk) (hlt : blk < W.heap.size)
      (hc : ∀ (j : Nat) (c : V), x.cells[j]? = some c → W.cell? ⟨blk, off + j, none⟩ = some (cv j))
      (hv : ∀ (j : Nat) (c : V), x.cells[j]? = some c → VR wr W own0 c (cv j)) : VR wr W own (.fp x) (.pointer (some ⟨blk, off, none⟩))
  | bx {own} {x : V} {blk off : Nat} (cv : Nat → Value) (hw : ¬ wr blk) (hlt : blk < W.heap.size)
      (hc : ∀ (j : Nat) (c : V), x.cells[j]? = some c → W.cell? ⟨blk, off + j, none⟩ = some (cv j))
      (hv : ∀ (j : Nat) (c : V), x.cells[j]? = some c → VR wr W own c (cv j)) : VR wr W own (.bx x) (.pointer (some ⟨blk, off, none⟩))
  | nils {own} : VR wr W own .nils (.slice none 0 0)
  | sl {own} {b g off len z : Nat} {ag : Bool} {cb sh N : Nat} {a : Addr} {cap : Nat} (h : own b g = some (cb, sh, N)) (hl : len ≤ cap)
      (ha : cap = 0 ∨ a = ⟨cb, sh + off, none⟩) (hN : cap = 0 ∨ sh + off + cap * z ≤ N) : VR wr W own (.sl b g off len z ag) (.slice (some a) len cap)
  | fz {own} {xs : List V} {blk off : Nat} {sp : Option Nat} {cap : Nat} (z : Nat) (cv : Nat → Nat → Value) (hl : xs.length ≤ cap)
      (hw : xs ≠ [] → sp = none ∧ ¬ wr blk ∧ blk < W.heap.size)
      (hz : ∀ (i : Nat) (x : V), xs[i]? = some x → x.cells.length = z)
      (hc : ∀ (i : Nat) (x : V) (j : Nat) (c : V), xs[i]? = some x → x.cells[j]? = some c → W.cell? ⟨blk, off + i * z + j, none⟩ = some (cv i j))
      (hv : ∀ (i : Nat) (x : V) (j : Nat) (c : V), xs[i]? = some x → x.cells[j]? = some c → VR wr W own0 c (cv i j)) :
      VR wr W own (.fz xs) (.slice (some ⟨blk, off, sp⟩) xs.length cap)
  | fzn {own} : VR wr W own (.fz []) (.slice none 0 0)
  | ag {own} {cs : List V} {arr : Array Value} (hl : cs.length = arr.size) (hv : ∀ (j : Nat) (c : V), cs[j]? = some c → VR wr W own c (arr.getD j undef)) : VR wr W own (.ag cs) (.agg arr)
  | tup {own} {cs : List V} {arr : Array Value} (hl : cs.length = arr.size) (hv : ∀ (j : Nat) (c : V), cs[j]? = some c → VR wr W own c (arr.getD j undef)) : VR wr W own (.tup cs) (.tuple arr)
  | fn {own} {f : Nat} {cs : List V} {arr : Array Value} (hl : cs.length = arr.size) (hv : ∀ (j : Nat) (c : V), cs[j]? = some c → VR wr W own c (arr.getD j undef)) : VR wr W own (.fn f cs) (.func (.func f) #[] arr)
  | bm {own} {f : Nat} {cs : List V} {arr : Array Value} (hl : cs.length = arr.size) (hv : ∀ (j : Nat) (c : V), cs[j]? = some c → VR wr W own c (arr.getD j undef)) : VR wr W own (.bm f cs) (.func (.func f) arr #[])
  | nilf {own} : VR wr W own .nilf .nilFunc
  | ifc {own} {t : Nat} {x : V} {x' : Value} (h : VR wr W own x x') : VR wr W own (.ifc t x) (.iface t x')
  | nili {own} : VR wr W own .nili .nilIface
  | flt {own} (b : Nat) : VR wr W own (.fl (some b)) (.float .f64 b)
  | fnan {own} (b : Nat) (h : (Ieee.double.read b).isNaN = true) : VR wr W own (.fl none) (.float .f64 b)
  | mpn {own} : VR wr W own .mpn (.map none)
  | mp {own} {b cb : Nat} (h : own b 0 = some (cb, 0, 0)) : VR wr W own (.mp b) (.map (some cb))
  | fze {own} (a : Addr) (cap : Nat) : VR wr W own .fze (.slice (some a) 0 cap)
  | nanw {own} (b : Nat) (h : (Ieee.double.read b).isNaN = true) : VR wr W own .nanw (.int .u64 (b : Int))

def Own.le (o o' : Own) : Prop := ∀ b g x, o b g = some x → o' b g = some x
theorem Own.le_refl (o : Own) : o.le o := fun _ _ _ h => h
theorem Own.le_trans {a b c : Own} (h : a.le b) (h' : b.le c) : a.le c := fun _ _ _ x => h' _ _ _ (h _ _ _ x)

structure Grow (wr wr' : Nat → Prop) (W W' : World) : Prop where
  size : W.heap.size ≤ W'.heap.size
  wrs : ∀ b, b < W.heap.size → wr' b → wr b
  same : ∀ b, b < W.heap.size → ¬ wr b → W'.heap[b]? = W.heap[b]?

theorem cell_of_heap {W W' : World} {b : Nat} (h : W'.heap[b]? = W.heap[b]?) (o : Nat) : W'.cell? ⟨b, o, none⟩ = W.cell? ⟨b, o, none⟩ := by
  unfold World.cell?; simp only [h]

theorem VR.mono {wr wr' : Nat → Prop} {W W' : World} {own own' : Own} {v : V} {v' : Value} (g : Grow wr wr' W W') (ho : own.le own')
    (h : VR wr W own v v') : VR wr' W' own' v v' := by
  induction h generalizing own' with
  | un v => exact .un v
  | sk => exact .sk
  | bool b => exact .bool b
  | int k n => exact .int k n
  | str s => exact .str s
  | nilp => exact .nilp
  | ptr h => exact .ptr (ho _ _ _ h)
  | fp cv hw hlt hc hv ih => exact .fp cv (fun h => hw (g.wrs _ hlt h)) (Nat.lt_of_lt_of_le hlt g.size) (fun j c h => by rw [cell_of_heap (g.same _ hlt hw)]; exact hc j c h) (fun j c h => ih j c h (Own.le_refl _))
  | bx cv hw hlt hc hv ih => exact .bx cv (fun h => hw (g.wrs _ hlt h)) (Nat.lt_of_lt_of_le hlt g.size) (fun j c h => by rw [cell_of_heap (g.same _ hlt hw)]; exact hc j c h) (fun j c h => ih j c h ho)
  | nils => exact .nils
  | sl h hl ha hN => exact .sl (ho _ _ _ h) hl ha hN
  | fz z cv hl hw hz hc hv ih =>
    refine .fz z cv hl (fun h => ⟨(hw h).1, fun h' => (hw h).2.1 (g.wrs _ (hw h).2.2 h'), Nat.lt_of_lt_of_le (hw h).2.2 g.size⟩) hz ?_ (fun i x j c h h' => ih i x j c h h' (Own.le_refl _))
    intro i x j c h h'
    have hn := hw (by rintro rfl; simp at h)
    rw [cell_of_heap (g.same _ hn.2.2 hn.2.1)]; exact hc i x j c h h'
  | fzn => exact .fzn
  | ag hl hv ih => exact .ag hl (fun j c h => ih j c h ho)
  | tup hl hv ih => exact .tup hl (fun j c h => ih j c h ho)
  | fn hl hv ih => exact .fn hl (fun j c h => ih j c h ho)
  | bm hl hv ih => exact .bm hl (fun j c h => ih j c h ho)
  | nilf => exact .nilf
  | ifc h ih => exact .ifc (ih ho)
  | nili => exact .nili
  | flt b => exact .flt b
  | fnan b h => exact .fnan b h
  | fze a c => exact .fze a c
  | mpn => exact .mpn
  | mp h => exact .mp (ho _ _ _ h)
  | nanw b h => exact .nanw b h

def Owned (own : Own) (cb : Nat) : Prop := ∃ b g sh N, own b g = some (cb, sh, N)

theorem VR.own_any {wr : Nat → Prop} {W : World} {own : Own} {cs : List V} {v : Value} (h : VR wr W own0 (.fp (.ag cs)) v) : VR wr W own (.fp (.ag cs)) v := by
  cases h with
  | fp cv hw hlt hc hv => exact .fp cv hw hlt hc hv
/-- the package-level variables hold what they hold -/
def GOk [Glob] (wr : Nat → Prop) (W : World) : Prop := ∀ g cs, Glob.val g = some cs → VR wr W own0 (.fp (.ag cs)) (.pointer (some ⟨g, 0, none⟩))
theorem GOk.mono [Glob] {wr wr' : Nat → Prop} {W W' : World} (g : Grow wr wr' W W') (h : GOk wr W) : GOk wr' W' := fun x cs hx => (h x cs hx).mono g (Own.le_refl _)

variable [Glob]
/-- a block of cells -/
def LiveC (wr : Nat → Prop) (W : World) (own : Own) (b g : Nat) (cs : List V) : Prop := ∃ cb sh N, own b g = some (cb, sh, N) ∧ sh + cs.length ≤ N ∧
    ∃ ccs ty lo hi, W.heap[cb]? = some (.cells ccs ty (lo, hi)) ∧ ccs.size = N ∧ (∀ i, i < N → ¬ (lo ≤ i ∧ i < hi)) ∧
      ∀ j c, cs[j]? = some c → ∃ cv, ccs[sh + j]? = some cv ∧ VR wr W own c cv
/-- a map's entries -/
structure MapR (wr : Nat → Prop) (W : World) (own : Own) (ks vs : List V) (es : List MapEntry) : Prop where
  len : es.length = ks.length
  vlen : vs.length = ks.length
  key : ∀ (j : Nat) (k : V) (e : MapEntry), ks[j]? = some k → es[j]? = some e → VR wr W own k e.key
  val : ∀ (j : Nat) (v : V) (e : MapEntry), vs[j]? = some v → es[j]? = some e → VR wr W own v e.val
theorem MapR.mono {wr wr' : Nat → Prop} {W W' : World} {own own' : Own} {ks vs : List V} {es : List MapEntry} (g : Grow wr wr' W W') (ho : own.le own') (h : MapR wr W own ks vs es) : MapR wr' W' own' ks vs es :=
  ⟨h.len, h.vlen, fun j k e a b => (h.key j k e a b).mono g ho, fun j k e a b => (h.val j k e a b).mono g ho⟩
/-- a map -/
def LiveM (wr : Nat → Prop) (W : World) (own : Own) (b g : Nat) (cs : List V) : Prop := g = 1 ∧ own b 1 = none ∧ ∃ ks vs cb, cs = [.mpb ks vs] ∧ own b 0 = some (cb, 0, 0) ∧
    ∃ es clock, W.heap[cb]? = some (.map es clock) ∧ MapR wr W own ks vs es.toList
structure Rd (wr : Nat → Prop) (W : World) (own : Own) (H : Heap) : Prop where
  live : ∀ b g cs, H[b]? = some (g, cs) → LiveC wr W own b g cs ∨ LiveM wr W own b g cs
  wr_lt : ∀ cb, wr cb → cb < W.heap.size
  glob : GOk wr W

structure St (wr : Nat → Prop) (W : World) (own : Own) (H : Heap) : Prop extends Rd wr W own H where
  inj : ∀ b b' g g' cs cs' cb sh N sh' N', H[b]? = some (g, cs) → H[b']? = some (g', cs') → own b g = some (cb, sh, N) → own b' g' = some (cb, sh', N') → b = b'
  injm : ∀ b b' cs cs' cb, H[b]? = some (1, cs) → H[b']? = some (1, cs') → LiveM wr W own b 1 cs → LiveM wr W own b' 1 cs' → own b 0 = some (cb, 0, 0) → own b' 0 = some (cb, 0, 0) → b = b'
  fut : ∀ b g x, own b g = some x → b < H.length ∧ ∀ g' cs, H[b]? = some (g', cs) → g ≤ g'
  own_wr : ∀ b g cb sh N, own b g = some (cb, sh, N) → wr cb

theorem Rd.nil {wr : Nat → Prop} {W : World} {own : Own} (h : ∀ cb, wr cb → cb < W.heap.size) (hg : GOk wr W) : Rd wr W own [] := ⟨fun b g cs h => by simp at h, h, hg⟩

/-- what is outside memory is as it was -/
def Io (W W' : World) : Prop := W'.os = W.os ∧ W'.tape = W.tape ∧ W'.output = W.output
theorem Io.refl (W : World) : Io W W := ⟨rfl, rfl, rfl⟩
theorem Io.trans {a b c : World} (h : Io a b) (h' : Io b c) : Io a c := ⟨h'.1.trans h.1, h'.2.1.trans h.2.1, h'.2.2.trans h.2.2⟩

structure Ext (wr : Nat → Prop) (W : World) (own : Own) (wr' : Nat → Prop) (W' : World) (own' : Own) : Prop where
  owns : own.le own'
  size : W.heap.size ≤ W'.heap.size
  wrs : ∀ b, b < W.heap.size → wr' b → wr b
  wr_le : ∀ b, wr b → wr' b
  same : ∀ b, b < W.heap.size → ¬ Owned own b → W'.heap[b]? = W.heap[b]?
  news : ∀ cb, Owned own' cb → Owned own cb ∨ W.heap.size ≤ cb
  io : Io W W'

theorem Ext.refl (wr : Nat → Prop) (W : World) (own : Own) : Ext wr W own wr W own :=
  ⟨Own.le_refl _, Nat.le_refl _, fun _ _ h => h, fun _ h => h, fun _ _ _ => rfl, fun _ h => .inl h, Io.refl _⟩

theorem Ext.trans {wr : Nat → Prop} {W : World} {own : Own} {wr1 : Nat → Prop} {W1 : World} {own1 : Own} {wr2 : Nat → Prop} {W2 : World} {own2 : Own} (h : Ext wr W own wr1 W1 own1) (h' : Ext wr1 W1 own1 wr2 W2 own2) : Ext wr W own wr2 W2 own2 := by
  refine ⟨Own.le_trans h.owns h'.owns, Nat.le_trans h.size h'.size, fun b hb hw => h.wrs b hb (h'.wrs b (Nat.lt_of_lt_of_le hb h.size) hw), fun b hb => h'.wr_le b (h.wr_le b hb), ?_, ?_, h.io.trans h'.io⟩
  · intro b hb hn
    rw [h'.same b (Nat.lt_of_lt_of_le hb h.size), h.same b hb hn]
    intro ho
    rcases h.news b ho with ho | hge
    · exact hn ho
    · omega
  · intro cb ho
    rcases h'.news cb ho with ho | hge
    · exact h.news cb ho
    · exact .inr (Nat.le_trans h.size hge)

theorem St.owned_wr {wr : Nat → Prop} {W : World} {own : Own} {H : Heap} (s : St wr W own H) {cb : Nat} (h : Owned own cb) : wr cb := by
  obtain ⟨b, g, sh, N, h⟩ := h; exact s.own_wr b g cb sh N h

theorem Ext.grow {wr : Nat → Prop} {W : World} {own : Own} {wr' : Nat → Prop} {W' : World} {own' : Own} {H : Heap} (s : St wr W own H) (h : Ext wr W own wr' W' own') : Grow wr wr' W W' :=
  ⟨h.size, h.wrs, fun b hb hn => h.same b hb (fun ho => hn (s.owned_wr ho))⟩

/-- the small machine with an empty heap -/
theorem St.nil {wr : Nat → Prop} {W : World} (hw : ∀ cb, wr cb → cb < W.heap.size) (hg : GOk wr W) : St wr W own0 [] :=
  ⟨Rd.nil hw hg, fun b b' g g' cs cs' cb sh N sh' N' h => by simp at h, fun b b' cs cs' cb h => by simp at h, fun b g x h => by simp [own0] at h, fun b g cb sh N h => by simp [own0] at h⟩

structure Sim (wr : Nat → Prop) (W : World) (own : Own) (H : Heap) (env : List V) (tmps : Array Value) : Prop where
  st : St wr W own H
  vals : ∀ t, VR wr W own (env.getD t .un) (tmps.getD t undef)
  sz : env.length ≤ tmps.size

/-- values under the empty heap -/
theorem VR.of_free {wr : Nat → Prop} {W : World} {own : Own} : ∀ (n : Nat) {v : V} {v' : Value}, V.free n v = true → VR wr W own v v' → VR wr W own0 v v'
  | 0, v, v', h, _ => by simp [V.free] at h
  | n + 1, v, v', hf, h => by
    cases h with
    | un => simp [V.free] at hf
    | sk => simp [V.free] at hf
    | bool b => exact .bool b
    | int k m => exact .int k m
    | str s => exact .str s
    | nilp => exact .nilp
    | ptr h => simp [V.free] at hf
    | fp cv hw hlt hc hv => exact .fp cv hw hlt hc hv
    | bx cv hw hlt hc hv => simp [V.free] at hf
    | nils => exact .nils
    | sl h hl ha hN => simp [V.free] at hf
    | fz z cv hl hw hz hc hv => exact .fz z cv hl hw hz hc hv
    | fzn => exact .fzn
    | ag hl hv =>
      simp only [V.free, List.all_eq_true] at hf
      exact .ag hl (fun j c hj => VR.of_free n (hf c (List.mem_of_getElem? hj)) (hv j c hj))
    | tup hl hv =>
      simp only [V.free, List.all_eq_true] at hf
      exact .tup hl (fun j c hj => VR.of_free n (hf c (List.mem_of_getElem? hj)) (hv j c hj))
    | fn hl hv =>
      simp only [V.free, List.all_eq_true] at hf
      exact .fn hl (fun j c hj => VR.of_free n (hf c (List.mem_of_getElem? hj)) (hv j c hj))
    | bm hl hv => simp [V.free] at hf
    | nilf => exact .nilf
    | ifc h => exact .ifc (VR.of_free n (by simpa [V.free] using hf) h)
    | nili => exact .nili
    | flt b => exact .flt b
    | fnan b h => exact .fnan b h
    | fze a c => exact .fze a c
    | mpn => exact .mpn
    | mp h => simp [V.free] at hf
    | nanw b h => exact .nanw b h

end Go.Eng
