/- The tree of nearest nodes, its rounds and its one answer, in plain words of lists (no program in sight; no condition beyond those stated). -/
import Derived.Test.YthobdkimccepbaaDomMath
namespace DomMath
set_option linter.unusedVariables false
set_option linter.unusedSimpArgs false

def Ed (rows : List (List Int)) (a b : Nat) : Prop := (b : Int) ∈ rows.getD a []
/-- ways without a rank -/
inductive Wy (E : Nat → Nat → Prop) : Nat → List Nat → Prop
  | nil : Wy E 0 [0]
  | step {l a b} : Wy E a l → E a b → Wy E b (b :: l)
variable {E : Nat → Nat → Prop} {rk : Nat → Nat}
theorem Way.wy {i l b} (h : Way E rk i l b) : Wy E b l := by
  induction h with
  | nil => exact .nil
  | fall _ e _ ih => exact .step ih e
  | rise _ e _ ih => exact .step ih e
theorem Wy.way {l b} (rk : Nat → Nat) (h : Wy E b l) : ∃ i, Way E rk i l b := by
  induction h with
  | nil => exact ⟨_, .nil⟩
  | step _ e ih => obtain ⟨i, h⟩ := ih; exact h.step e
def RB (E : Nat → Nat → Prop) (b : Nat) : Prop := ∃ l, Wy E b l
def DB (E : Nat → Nat → Prop) (d b : Nat) : Prop := ∀ l, Wy E b l → d ∈ l
theorem reach_iff (rk : Nat → Nat) {b} : Reach E rk b ↔ RB E b :=
  ⟨fun ⟨i, l, h⟩ => ⟨l, h.wy⟩, fun ⟨l, h⟩ => let ⟨i, h⟩ := h.way rk; ⟨i, l, h⟩⟩
theorem dom_iff (rk : Nat → Nat) {d b} : Dom E rk d b ↔ DB E d b :=
  ⟨fun h l hw => let ⟨i, hw⟩ := hw.way rk; h i l hw, fun h i l hw => h l hw.wy⟩
theorem RB.zero : RB E 0 := ⟨_, .nil⟩
theorem RB.step {a b} (h : RB E a) (e : E a b) : RB E b := let ⟨l, h⟩ := h; ⟨_, h.step e⟩
theorem DB.refl (b : Nat) : DB E b b := fun l h => by cases h <;> simp
theorem DB.zero (b : Nat) : DB E 0 b := fun l h => by
  induction h with
  | nil => simp
  | step _ _ ih => exact List.mem_cons_of_mem _ ih
theorem Wy.cut {l b} (h : Wy E b l) {v} (hv : v ∈ l) : ∃ l', Wy E v l' ∧ (∀ x ∈ l', x ∈ l) ∧ l'.length ≤ l.length := by
  obtain ⟨i, h⟩ := h.way (fun _ => 0)
  obtain ⟨i', l', h1, _, h3, h4⟩ := h.cut v hv
  exact ⟨l', h1.wy, h3, h4⟩
theorem DB.reach {d b} (h : DB E d b) (hb : RB E b) : RB E d := by
  obtain ⟨l, hl⟩ := hb
  obtain ⟨l', h1, _⟩ := hl.cut (h l hl)
  exact ⟨l', h1⟩
theorem DB.trans {a b c} (h : DB E a b) (h2 : DB E b c) : DB E a c := by
  intro l hl
  obtain ⟨l', h1, h3, _⟩ := hl.cut (h2 l hl)
  exact h3 _ (h l' h1)
theorem DB.anti {a b} (h : DB E a b) (h2 : DB E b a) (hb : RB E b) : a = b := by
  obtain ⟨l, hl⟩ := hb
  obtain ⟨i, hl⟩ := hl.way (fun _ => 0)
  obtain ⟨i, l, hway, hd, _⟩ := hl.plain
  have hw := hway.wy
  clear hway
  by_cases c : a = b
  · exact c
  have ha := h l hw
  cases hw with
  | nil => simpa using ha
  | @step l x b hs e =>
    have ha : a ∈ l := by rcases List.mem_cons.1 ha with h | h; exact absurd h c; exact h
    obtain ⟨l', h1, h3, _⟩ := hs.cut ha
    exact absurd (h3 _ (h2 l' h1)) (List.nodup_cons.1 hd).1
/-- two over one: one over the other -/
theorem DB.line {a b c} (ha : DB E a c) (hb : DB E b c) (hc : RB E c) : DB E a b ∨ DB E b a := by
  by_cases h : DB E a b
  · exact .inl h
  refine .inr fun l hl => ?_
  -- a way to b that does not meet a
  have : ∃ m, Wy E b m ∧ a ∉ m := by
    false_or_by_contra
    rename_i hn
    exact h fun m hm => by
      false_or_by_contra
      rename_i h2
      exact hn ⟨m, hm, h2⟩
  obtain ⟨m, hm, ham⟩ := this
  false_or_by_contra
  rename_i hbl
  -- from b on, a shortest way to c; a must lie behind b on it
  obtain ⟨lc, hlc⟩ := hc
  -- walk lc: the last of a and b on it decides
  have last : ∀ {x lx}, Wy E x lx → (a ∈ lx ∨ b ∈ lx) → (∃ m, Wy E x m ∧ b ∉ m) ∨ (∃ m, Wy E x m ∧ a ∉ m) := by
    intro x lx hx
    induction hx with
    | nil =>
      intro hab
      by_cases h0 : a = 0
      · exact .inl ⟨[0], .nil, fun hb0 => by
          rw [List.mem_singleton] at hb0
          exact h (by rw [h0, hb0]; exact DB.refl _)⟩
      · exact .inr ⟨[0], .nil, fun ha0 => by rw [List.mem_singleton] at ha0; exact h0 ha0⟩
    | @step lx y z hx e ih =>
      intro hab
      by_cases hza : z = a
      · subst hza
        exact .inl ⟨l, hl, hbl⟩
      by_cases hzb : z = b
      · subst hzb
        exact .inr ⟨m, hm, ham⟩
      have hab : a ∈ lx ∨ b ∈ lx := by
        rcases hab with h | h
        · rcases List.mem_cons.1 h with h | h
          · exact absurd h.symm hza
          · exact .inl h
        · rcases List.mem_cons.1 h with h | h
          · exact absurd h.symm hzb
          · exact .inr h
      rcases ih hab with ⟨m', h1, h2⟩ | ⟨m', h1, h2⟩
      · exact .inl ⟨_, h1.step e, fun hm => by rcases List.mem_cons.1 hm with h | h; exact hzb h.symm; exact h2 h⟩
      · exact .inr ⟨_, h1.step e, fun hm => by rcases List.mem_cons.1 hm with h | h; exact hza h.symm; exact h2 h⟩
  rcases last hlc (.inl (ha lc hlc)) with ⟨m', h1, h2⟩ | ⟨m', h1, h2⟩
  · exact h2 (hb m' h1)
  · exact h2 (ha m' h1)

/-- what a tree of nearest nodes is -/
structure TreeOf (rows : List (List Int)) (out : List Int) : Prop where
  len : out.length = rows.length
  no : ∀ b, b < rows.length → (b = 0 ∨ ¬ RB (Ed rows) b) → out.getD b (-1) = -1
  yes : ∀ b, RB (Ed rows) b → b ≠ 0 → ∃ t : Nat, out.getD b (-1) = (t : Int) ∧ t ≠ b ∧ DB (Ed rows) t b ∧ ∀ d, d ≠ b → DB (Ed rows) d b → DB (Ed rows) d t
theorem TreeOf.one {rows : List (List Int)} {a b : List Int} (ha : TreeOf rows a) (hb : TreeOf rows b) : a = b := by
  refine List.ext_getElem (by rw [ha.len, hb.len]) fun i h1 h2 => ?_
  have e1 : a[i] = a.getD i (-1) := by simp [List.getD, h1]
  have e2 : b[i] = b.getD i (-1) := by simp [List.getD, h2]
  rw [e1, e2]
  have hi : i < rows.length := by rw [← ha.len]; exact h1
  by_cases c : i = 0 ∨ ¬ RB (Ed rows) i
  · rw [ha.no i hi c, hb.no i hi c]
  · have c1 : i ≠ 0 := fun h => c (.inl h)
    have c2 : RB (Ed rows) i := by false_or_by_contra; rename_i h; exact c (.inr h)
    obtain ⟨t, g1, g2, g3, g4⟩ := ha.yes i c2 c1
    obtain ⟨s, k1, k2, k3, k4⟩ := hb.yes i c2 c1
    rw [g1, k1, DB.anti (k4 t g2 g3) (g4 s k2 k3) (k3.reach c2)]
end DomMath
