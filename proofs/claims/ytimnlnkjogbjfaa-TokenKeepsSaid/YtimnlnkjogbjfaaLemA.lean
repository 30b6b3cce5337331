/- A text is taken for a word of the language by the program and by the document just if it is one of the sixteen words; the fixed answers hold (no condition but the size of a text that a machine holds). -/
import Derived.Test.YtimnlnkjogbjfaaX15
import Derived.Test.YtimnlnkjogbjfaaX16
import Derived.Test.YtimnlnkjogbjfaaX23
namespace Go.Proofs.Ytimnlnkjogbjfaa.Pure
open Go.RowKit Go.Proofs.Ytimnlnkjogbjfaa.X Go.Proofs.YtimnlnkjogbjfaaW.PrintWords Go.Proofs.YtimnlnkjogbjfaaW.PrintLast

theorem awake_true : smithylaw02_awake.f 60 = some true := by decide +kernel

def WORDS : List (List UInt8) := [[102, 117, 110, 99], [118, 97, 114], [105, 102], [101, 108, 115, 101], [119, 104, 105, 108, 101], [98, 114, 101, 97, 107], [99, 111, 110, 116, 105, 110, 117, 101], [114, 101, 116, 117, 114, 110], [112, 114, 105, 110, 116], [116, 114, 117, 101], [102, 97, 108, 115, 101], [105, 54, 52], [105, 51, 50], [117, 56], [98, 111, 111, 108], [102, 54, 52]]

theorem prog_word (k : Nat) (s : ByteArray) : token_Word.f (k + 1) s = some (decide (s.toList ∈ WORDS)) := by
  by_cases h : s.toList ∈ WORDS
  · rw [decide_eq_true h]
    simp only [WORDS, List.mem_cons, List.not_mem_nil, or_false] at h
    rcases h with h | h | h | h | h | h | h | h | h | h | h | h | h | h | h | h <;> (unfold token_Word.f; rw [h]; rfl)
  · rw [decide_eq_false h]
    simp only [WORDS, List.mem_cons, List.not_mem_nil, or_false, not_or] at h
    obtain ⟨h1, h2, h3, h4, h5, h6, h7, h8, h9, h10, h11, h12, h13, h14, h15, h16⟩ := h
    unfold token_Word.f
    rw [if_neg h1, if_neg h2, if_neg h3, if_neg h4, if_neg h5, if_neg h6, if_neg h7, if_neg h8, if_neg h9, if_neg h10, if_neg h11, if_neg h12, if_neg h13, if_neg h14, if_neg h15]
    have e : (s.toList == ([102, 54, 52] : List UInt8)) = false := beq_eq_false_iff_ne.mpr h16
    rw [e]
    rfl

def WB : ByteArray := ⟨#[32, 102, 117, 110, 99, 32, 118, 97, 114, 32, 105, 102, 32, 101, 108, 115, 101, 32, 119, 104, 105, 108, 101, 32, 98, 114, 101, 97, 107, 32, 99, 111, 110, 116, 105, 110, 117, 101, 32, 114, 101, 116, 117, 114, 110, 32, 112, 114, 105, 110, 116, 32, 116, 114, 117, 101, 32, 102, 97, 108, 115, 101, 32, 105, 54, 52, 32, 105, 51, 50, 32, 117, 56, 32, 98, 111, 111, 108, 32, 102, 54, 52, 32]⟩

theorem word_fin : ∀ j : Fin 82, ∀ n : Fin 82, j.val + n.val + 2 ≤ 83 → 0 < n.val → bt WB (j.val : Int) = 32 → bt WB ((j.val + 1 + n.val : Nat) : Int) = 32 → ((WB.extract (j.val + 1) (j.val + 1 + n.val)).toList.all (fun c => c != 32)) = true → (WB.extract (j.val + 1) (j.val + 1 + n.val)).toList ∈ WORDS := by decide +kernel

/-- What the reference's inner loop has found. -/
def Found (s : ByteArray) : Prop := 0 < s.size ∧ ∃ j : Nat, j + s.size + 2 ≤ 83 ∧ bt WB (j : Int) = 32 ∧ bt WB ((j + 1 + s.size : Nat) : Int) = 32 ∧ (WB.extract (j + 1) (j + 1 + s.size)).toList = s.toList

theorem w64 {x : Int} (h0 : -9223372036854775808 ≤ x) (h1 : x ≤ 9223372036854775807) : wrap64 x = x := by unfold wrap64; omega

theorem ref_l1 (s : ByteArray) (hs : s.size ≤ 140737488351232) (d : Nat) : ∀ (k i : Nat), i ≤ 83 → 83 - i = d → 2 * d + 1 < k →
    ∃ r, smithyref02_Word.l1 k s (i : Int) = some r ∧ (r = true → Found s) := by
  induction d with
  | zero =>
    intro k i h0 hd hk
    obtain ⟨k, rfl⟩ : ∃ m, k = m + 1 := ⟨k - 1, by omega⟩
    refine ⟨false, ?_, fun h => by cases h⟩
    simp only [smithyref02_Word.l1]
    rw [w64 (x := (i : Int) + s.size) (by omega) (by omega), w64 (by omega) (by omega), if_neg (by omega)]
  | succ d ih =>
    intro k i h0 hd hk
    obtain ⟨k, rfl⟩ : ∃ m, k = m + 1 + 1 := ⟨k - 2, by omega⟩
    by_cases hn : i + s.size + 2 ≤ 83
    · obtain ⟨r, hr, hq⟩ := ih k (i + 1) (by omega) (by omega) (by omega)
      have e1 : wrap64 ((i : Int) + 1) = ((i + 1 : Nat) : Int) := by rw [w64 (by omega) (by omega)]; omega
      have e2 : wrap64 (((i + 1 : Nat) : Int) + s.size) = ((i + 1 + s.size : Nat) : Int) := by rw [w64 (by omega) (by omega)]; omega
      simp only [smithyref02_Word.l1]
      rw [w64 (x := (i : Int) + s.size) (by omega) (by omega), w64 (x := (i : Int) + s.size + 2) (by omega) (by omega), if_pos (by omega), if_pos (by omega), if_pos (by omega)]
      simp only [e1, e2]
      rw [show (⟨#[32, 102, 117, 110, 99, 32, 118, 97, 114, 32, 105, 102, 32, 101, 108, 115, 101, 32, 119, 104, 105, 108, 101, 32, 98, 114, 101, 97, 107, 32, 99, 111, 110, 116, 105, 110, 117, 101, 32, 114, 101, 116, 117, 114, 110, 32, 112, 114, 105, 110, 116, 32, 116, 114, 117, 101, 32, 102, 97, 108, 115, 101, 32, 105, 54, 52, 32, 105, 51, 50, 32, 117, 56, 32, 98, 111, 111, 108, 32, 102, 54, 52, 32]⟩ : ByteArray) = WB from rfl]
      have hj : ∀ b : Bool, b = false → smithyref02_Word.j2 (k + 1) s (i : Int) b = some r := fun b hb => by
        subst hb
        simp only [smithyref02_Word.j2]
        rw [if_neg (by decide), e1]
        exact hr
      by_cases hb : bt WB (i : Int) = 32
      · rw [if_pos hb, if_pos (by omega), if_pos (by omega), if_pos (by omega)]
        rw [show (((i + 1 : Nat) : Int)).toNat = i + 1 by omega, show (((i + 1 + s.size : Nat) : Int)).toNat = i + 1 + s.size by omega]
        by_cases he : (WB.extract (i + 1) (i + 1 + s.size)).toList = s.toList
        · rw [if_pos he, if_pos (by omega), if_pos (by omega)]
          by_cases hc : bt WB ((i + 1 + s.size : Nat) : Int) = 32
          · rw [beq_iff_eq.mpr hc]
            refine ⟨decide ((s.size : Int) > 0), ?_, fun h => ⟨by have := of_decide_eq_true h; omega, i, hn, hb, hc, he⟩⟩
            simp only [smithyref02_Word.j2]
            rfl
          · exact ⟨r, hj _ (beq_eq_false_iff_ne.mpr hc), hq⟩
        · rw [if_neg he]
          exact ⟨r, hj _ rfl, hq⟩
      · rw [if_neg hb]
        exact ⟨r, hj _ rfl, hq⟩
    · refine ⟨false, ?_, fun h => by cases h⟩
      simp only [smithyref02_Word.l1]
      rw [w64 (x := (i : Int) + s.size) (by omega) (by omega), w64 (by omega) (by omega), if_neg (by omega)]

theorem ref_l0 (s : ByteArray) (hs : s.size ≤ 140737488351232) (d : Nat) : ∀ (k i : Nat), i ≤ s.size → s.size - i = d → d + 200 < k →
    ∃ r, smithyref02_Word.l0 k s (i : Int) = some r ∧ (r = true → Found s ∧ ∀ j, i ≤ j → j < s.size → bt s (j : Int) ≠ 32) := by
  induction d with
  | zero =>
    intro k i h0 hd hk
    obtain ⟨k, rfl⟩ : ∃ m, k = m + 1 := ⟨k - 1, by omega⟩
    obtain ⟨r, hr, hq⟩ := ref_l1 s hs 83 k 0 (by omega) (by omega) (by omega)
    refine ⟨r, ?_, fun h => ⟨hq h, fun j h1 h2 => by omega⟩⟩
    simp only [smithyref02_Word.l0]
    rw [if_neg (by omega)]
    exact hr
  | succ d ih =>
    intro k i h0 hd hk
    obtain ⟨k, rfl⟩ : ∃ m, k = m + 1 := ⟨k - 1, by omega⟩
    simp only [smithyref02_Word.l0]
    rw [if_pos (by omega), if_pos (by omega)]
    by_cases hb : bt s (i : Int) = 32
    · rw [if_pos hb]
      exact ⟨false, rfl, fun h => by cases h⟩
    · obtain ⟨r, hr, hq⟩ := ih k (i + 1) (by omega) (by omega) (by omega)
      rw [if_neg hb, w64 (by omega) (by omega), show (i : Int) + 1 = ((i + 1 : Nat) : Int) by omega]
      refine ⟨r, hr, fun h => ⟨(hq h).1, fun j h1 h2 => ?_⟩⟩
      rcases Nat.eq_or_lt_of_le h1 with rfl | h3
      · exact hb
      · exact (hq h).2 j h3 h2

theorem no_blank (s : ByteArray) (h : ∀ j, 0 ≤ j → j < s.size → bt s ((j : Nat) : Int) ≠ 32) : s.toList.all (fun c => c != 32) = true := by
  rw [List.all_eq_true]
  intro c hc
  rw [ByteArray.toList_eq, Array.mem_toList_iff] at hc
  obtain ⟨j, hj, rfl⟩ := Array.mem_iff_getElem.mp hc
  have := h j (Nat.zero_le _) hj
  rw [bne_iff_ne]
  intro he
  apply this
  have hb := bt_at s (j : Int) (by rw [Int.toNat_natCast]; exact hj)
  rw [← hb]
  simp only [Int.toNat_natCast]
  have : s[j] = s.data[j] := rfl
  rw [this, he]
  rfl

theorem of_found (s : ByteArray) (h : Found s) (hn : s.toList.all (fun c => c != 32) = true) : s.toList ∈ WORDS := by
  obtain ⟨h0, j, h1, h2, h3, h4⟩ := h
  have := word_fin ⟨j, by omega⟩ ⟨s.size, by omega⟩ h1 h0 h2 h3 (by simp only; rw [h4]; exact hn)
  simp only at this
  rwa [h4] at this

theorem ref_yes (s : ByteArray) (h : s.toList ∈ WORDS) : smithyref02_Word.f 200 s = some true := by
  have e : s = ⟨s.toList.toArray⟩ := by rw [ByteArray.toList_eq]
  rw [e]
  generalize s.toList = l at h
  simp only [WORDS, List.mem_cons, List.not_mem_nil, or_false] at h
  rcases h with rfl | rfl | rfl | rfl | rfl | rfl | rfl | rfl | rfl | rfl | rfl | rfl | rfl | rfl | rfl | rfl <;> decide +kernel

/-- The reference's word, at any text. -/
theorem ref_word (s : ByteArray) (hs : s.size ≤ 140737488351232) : Ev (fun k => smithyref02_Word.f k s) (decide (s.toList ∈ WORDS)) := by
  by_cases h : s.toList ∈ WORDS
  · rw [decide_eq_true h]
    exact Ev.of (fun k => smithyref02_Word.mono s k) (ref_yes s h)
  · rw [decide_eq_false h]
    obtain ⟨r, hr, hq⟩ := ref_l0 s hs s.size (s.size + 201) 0 (by omega) (by omega) (by omega)
    have : r = false := by
      cases r with
      | false => rfl
      | true =>
        obtain ⟨hf, hb⟩ := hq rfl
        exact absurd (of_found s hf (no_blank s hb)) h
    subst this
    exact Ev.of (fun k => smithyref02_Word.mono s k) hr
theorem prog_word_ev (s : ByteArray) : Ev (fun k => token_Word.f k s) (decide (s.toList ∈ WORDS)) := Ev.of (fun k => token_Word.mono s k) (prog_word 0 s)
theorem awake_ev : Ev (fun k => smithylaw02_awake.f k) true := Ev.of smithylaw02_awake.mono awake_true

end Go.Proofs.Ytimnlnkjogbjfaa.Pure
