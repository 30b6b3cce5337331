/- Texts as lists of bytes; a byte's sort; what stands next (lines of the small machine). -/
import Derived.Test.YtimnlnkjogbjfaaTokK
import Derived.Test.YtimnlnkjogbjfaaEngR
import Derived.Test.YtimnlnkjogbjfaaEngW
namespace Go.Eng.Tok
open Go Go.Eng
set_option linter.unusedVariables false
set_option linter.unusedSimpArgs false

/-- a text -/
def st (l : List UInt8) : V := .str ⟨l.toArray⟩
theorem st_size (l : List UInt8) : (⟨l.toArray⟩ : ByteArray).size = l.length := rfl
theorem st_of (s : ByteArray) : V.str s = st s.data.toList := rfl
theorem len_st (l : List UInt8) : lenV true (.str ⟨l.toArray⟩) = some (.int .i64 (l.length : Int)) := rfl
theorem st_get {l : List UInt8} {i : Nat} (h : i < l.length) : (⟨l.toArray⟩ : ByteArray)[i]? = some l[i] := by
  have h' : i < (⟨l.toArray⟩ : ByteArray).size := h
  rw [getElem?_pos _ i h']; rfl
theorem idx_st {l : List UInt8} {i : Nat} (h : i < l.length) : idxsV (.str ⟨l.toArray⟩) (.int .i64 (i : Int)) = some (.int .u8 (l[i].toNat : Int)) := by
  simp only [idxsV]
  rw [if_pos (by omega), Int.toNat_natCast, st_get h]; rfl
theorem ext_st (l : List UInt8) (a b : Nat) : (⟨l.toArray⟩ : ByteArray).extract a b = ⟨((l.drop a).take (b - a)).toArray⟩ := by
  apply ByteArray.ext
  simp [ByteArray.data_extract]
theorem slc_from {l : List UInt8} {i : Nat} (h : i ≤ l.length) : slcV (.str ⟨l.toArray⟩) (some (.int .i64 (i : Int))) none 0 = some (.str ⟨(l.drop i).toArray⟩) := by
  simp only [slcV, bndV, st_size]
  rw [if_pos (by omega)]
  simp only [Option.bind_some, Int.toNat_natCast]
  rw [if_pos ⟨trivial, h, Nat.le_refl _⟩, ext_st, List.take_of_length_le (by simp)]
theorem slc_to {l : List UInt8} {j : Nat} (h : j ≤ l.length) : slcV (.str ⟨l.toArray⟩) none (some (.int .i64 (j : Int))) 0 = some (.str ⟨(l.take j).toArray⟩) := by
  simp only [slcV, bndV, st_size]
  rw [if_pos (by omega)]
  simp only [Option.bind_some, Int.toNat_natCast]
  rw [if_pos ⟨trivial, by omega, h⟩, ext_st, List.drop_zero, Nat.sub_zero]
theorem slc_mid {l : List UInt8} {i j : Nat} (hi : i ≤ j) (h : j ≤ l.length) : slcV (.str ⟨l.toArray⟩) (some (.int .i64 (i : Int))) (some (.int .i64 (j : Int))) 0 = some (.str ⟨((l.drop i).take (j - i)).toArray⟩) := by
  simp only [slcV, bndV, st_size]
  rw [if_pos (by omega), if_pos (by omega)]
  simp only [Option.bind_some, Int.toNat_natCast]
  rw [if_pos ⟨trivial, hi, h⟩, ext_st]
theorem list_st (l : List UInt8) : (⟨l.toArray⟩ : ByteArray).toList = l := by rw [ByteArray.toList_eq]
theorem eq_st (a b : List UInt8) : strB .eql ⟨a.toArray⟩ ⟨b.toArray⟩ = some (.bool (a == b)) := by
  simp only [strB, list_st]

theorem isI_some {r : Option (V × Heap)} {n : Nat} (h : isI r n = true) : r = some (.int .i64 (n : Int), []) := by
  unfold isI at h
  split at h
  · rw [beq_iff_eq] at h; subst h; rfl
  · cases h
theorem ofC (b : UInt8) (H : Heap) : PC T H 21 [.int .u8 (b.toNat : Int)] (.int .i64 (kd b : Int)) := by
  have h := isI_some (of_fin ⟨b.toNat, b.toNat_lt⟩)
  simp only [UInt8.ofNat_toNat] at h
  exact PC.of rfl ⟨60, _, _, h, rfl⟩
end Go.Eng.Tok
