/- Functions of this seat, run on unknown values by the rules of the small machine (no condition beyond those stated). -/
import Derived.Test.YthobdkimccepbaaDomO
namespace Go.Eng.Dom
open Go Go.Eng DomMath
set_option linter.unusedVariables false
set_option linter.unusedSimpArgs false

theorem getD_any {l : List Int} {i : Nat} (h : i < l.length) (a b : Int) : l.getD i a = l.getD i b := by rw [getD_nat h, getD_nat h]
theorem over_dom {rows : List (List Int)} {t : List Int} (hok : okn rows = true) (TO : TreeOf rows t) {a : Nat} (ha : a < rows.length) : ∀ (m b : Nat) (l : List Nat), Wy (Ed rows) b l → l.length ≤ m → (overF m t a b = true ↔ DB (Ed rows) a b)
  | 0, b, l, hl, hm => by cases hl <;> simp at hm
  | m + 1, b, l, hl, hm => by
    have hb := rb_lt hok ⟨l, hl⟩
    have hlen := TO.len
    simp only [overF]
    rw [if_pos (show 0 ≤ (a : Int) ∧ (a : Int) < t.length ∧ 0 ≤ (b : Int) ∧ (b : Int) < t.length by omega), Int.toNat_natCast, getD_any (by omega) 0 (-1)]
    by_cases hab : a = b
    · subst hab; rw [if_pos rfl]; exact ⟨fun _ => DB.refl _, fun _ => rfl⟩
    · rw [if_neg (by omega)]
      by_cases h0 : b = 0
      · subst h0
        rw [TO.no 0 hb (.inl rfl), overF_no _ _ _ _ (by omega)]
        exact ⟨fun h => (by cases h), fun h => absurd (List.mem_singleton.1 (h [0] .nil)) hab⟩
      · obtain ⟨tb, e1, e2, e3, e4⟩ := TO.yes b ⟨l, hl⟩ h0
        rw [e1]
        have hmem := e3 l hl
        have : ∃ l', Wy (Ed rows) tb l' ∧ l'.length ≤ m := by
          cases hl with
          | nil => exact absurd rfl h0
          | @step l0 x _ hs e =>
            rcases List.mem_cons.1 hmem with h | h
            · exact absurd h e2
            · obtain ⟨l', h1, _, h3⟩ := hs.cut h
              exact ⟨l', h1, by simp at hm; omega⟩
        obtain ⟨l', h1, h2⟩ := this
        rw [over_dom hok TO ha m tb l' h1 h2]
        exact ⟨fun h => h.trans e3, fun h => e4 a hab h⟩
theorem over_is {rows : List (List Int)} {t : List Int} (hok : okn rows = true) (TO : TreeOf rows t) {a b : Nat} (ha : a < rows.length) (hb : RB (Ed rows) b) : overF (t.length + 1) t a b = true ↔ DB (Ed rows) a b := by
  obtain ⟨l, hl⟩ := hb
  obtain ⟨i, hl⟩ := hl.way (fun _ => 0)
  obtain ⟨i, l, hw, hd, _⟩ := hl.plain
  have hw := hw.wy
  refine over_dom hok TO ha _ b l hw ?_
  have := DomMath.few rows.length l hd (fun x hx => by
    obtain ⟨l', h1, _⟩ := hw.cut hx
    exact rb_lt hok ⟨l', h1⟩)
  rw [TO.len]; omega
theorem over_un {rows : List (List Int)} {t : List Int} (TO : TreeOf rows t) {a b : Nat} (ha : a < rows.length) (hb : b < rows.length) (hn : ¬ RB (Ed rows) b) : overF (t.length + 1) t a b = true ↔ a = b := by
  have hlen := TO.len
  simp only [overF]
  rw [if_pos (show 0 ≤ (a : Int) ∧ (a : Int) < t.length ∧ 0 ≤ (b : Int) ∧ (b : Int) < t.length by omega), Int.toNat_natCast, getD_any (by omega) 0 (-1), TO.no b hb (.inr hn)]
  by_cases hab : a = b
  · subst hab; simp
  · rw [if_neg (by omega), overF_no _ _ _ _ (by omega)]; simp [hab]
theorem withoutC {ws : List V} {rows : List (List Int)} (hw : IsRows ws rows) (S : Small rows) (hok : okn rows = true) (x : Int) (H : Heap) :
    ∃ met : List Bool, met.length = rows.length ∧ (∀ b, met.getD b false = true ↔ RB (Ew rows x) b) ∧ PC T H 19 [.fz ws, vi x] (.fz (met.map vb)) := by
  obtain ⟨w, ⟨met, rfl, h1, h2⟩, h3⟩ := PC.ex (T := T) (H := H) (f := 19) (args := [.fz ws, vi x]) (P := fun w => ∃ met : List Bool, w = .fz (met.map vb) ∧ met.length = rows.length ∧ ∀ b, met.getD b false = true ↔ RB (Ew rows x) b)
    rfl ((without hw S hok x).mono fun r h ⟨met, h1, h2, h3⟩ => ⟨_, h1, met, rfl, h2, h3⟩)
  exact ⟨met, h1, h2, h3⟩
theorem overB (l : List Int) (hl : l.length ≤ 1048576) (a b : Int) (H : Heap) : PC T H 13 [vis l, vi a, vi b] (.bool (overF (l.length + 1) l a b)) := PC.now rfl rfl (fun H => over l hl a b H)
end Go.Eng.Dom
