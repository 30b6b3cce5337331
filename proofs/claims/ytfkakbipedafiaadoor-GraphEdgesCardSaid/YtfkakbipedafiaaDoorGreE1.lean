/- Order's walk, in plain words (no program in sight; conditions: those stated). -/
import Derived.Test.YtfkakbipedafiaaDoorGreO2
namespace Go.Eng.Gra
open Go Go.Eng
set_option linter.unusedSectionVars false
set_option linter.unusedVariables false
set_option linter.unusedSimpArgs false

/-- does a block's end lead there, to a block? -/
def Edge (bs : List T_Block) (b : T_Block) (to : Int) : Prop := 0 ≤ to ∧ to < (bs.length : Int) ∧ ((goV b.fTerm 0 = true ∧ to = b.fTerm.fTo.a0) ∨ (goV b.fTerm 1 = true ∧ to = b.fTerm.fTo.a1))
/-- what a walk adds -/
structure Wk (bs : List T_Block) (met met' : List Bool) (new : List Int) : Prop where
  len : met'.length = met.length
  mono : ∀ v : Nat, met[v]? = some true → met'[v]? = some true
  mem : ∀ v : Int, v ∈ new ↔ (0 ≤ v ∧ met[v.toNat]? = some false ∧ met'[v.toNat]? = some true)
  cnt : met'.count false + new.length = met.count false
  clo : ∀ u ∈ new, ∀ b, bs[u.toNat]? = some b → ∀ to, Edge bs b to → met'[to.toNat]? = some true
def Prd (bs : List T_Block) (R : Int → Prop) (new : List Int) : Prop := ∀ v ∈ new, R v ∨ ∃ u ∈ new, ∃ b, bs[u.toNat]? = some b ∧ Edge bs b v
theorem get_bool {m : List Bool} {v : Nat} (h : v < m.length) : m[v]? = some true ∨ m[v]? = some false := by
  rw [List.getElem?_eq_getElem h]; cases m[v] <;> simp
theorem Wk.refl (bs : List T_Block) (met : List Bool) : Wk bs met met [] := ⟨rfl, fun _ h => h, fun v => ⟨fun h => by simp at h, fun ⟨_, h1, h2⟩ => by rw [h1] at h2; cases h2⟩, by simp, fun u h => by simp at h⟩
theorem Wk.trans {bs : List T_Block} {a b c : List Bool} {n1 n2 : List Int} (h1 : Wk bs a b n1) (h2 : Wk bs b c n2) : Wk bs a c (n1 ++ n2) := by
  refine ⟨h2.len.trans h1.len, fun v h => h2.mono v (h1.mono v h), fun v => ?_, ?_, fun u hu x hx to he => ?_⟩
  · rw [List.mem_append, h1.mem, h2.mem]
    constructor
    · rintro (⟨p, q, r⟩ | ⟨p, q, r⟩)
      · exact ⟨p, q, h2.mono _ r⟩
      · refine ⟨p, ?_, r⟩
        have hl : v.toNat < a.length := by rw [← h1.len]; exact (List.getElem?_eq_some_iff.mp q).1
        rcases get_bool hl with h | h
        · rw [h1.mono _ h] at q; cases q
        · exact h
    · rintro ⟨p, q, r⟩
      have hl : v.toNat < b.length := by rw [h1.len]; exact (List.getElem?_eq_some_iff.mp q).1
      rcases get_bool hl with h | h
      · exact .inl ⟨p, q, h⟩
      · exact .inr ⟨p, h, r⟩
  · have := h1.cnt; have := h2.cnt; rw [List.length_append]; omega
  · rcases List.mem_append.mp hu with h | h
    · exact h2.mono _ (h1.clo u h x hx to he)
    · exact h2.clo u h x hx to he
theorem Prd.app {bs : List T_Block} {R R' : Int → Prop} {n1 n2 : List Int} (h1 : Prd bs R n1) (h2 : Prd bs R' n2) : Prd bs (fun v => R v ∨ R' v) (n1 ++ n2) := by
  intro v hv
  rcases List.mem_append.mp hv with h | h
  · rcases h1 v h with h | ⟨u, hu, b, hb, he⟩
    · exact .inl (.inl h)
    · exact .inr ⟨u, List.mem_append_left _ hu, b, hb, he⟩
  · rcases h2 v h with h | ⟨u, hu, b, hb, he⟩
    · exact .inl (.inr h)
    · exact .inr ⟨u, List.mem_append_right _ hu, b, hb, he⟩

/-- what a walk from a block comes to -/
def WalkOk (bs : List T_Block) (rec : Int → WS → Option WS) (n : Nat) : Prop :=
  ∀ (met : List Bool) (out : List Int) (i : Nat), met.length = bs.length → met[i]? = some false → met.count false ≤ n → (out.length + met.count false) * 8 ≤ 140737488355328 →
    ∃ met' new, rec (i : Int) (met, out) = some (met', out ++ new) ∧ Wk bs met met' new ∧ (i : Int) ∈ new ∧ Prd bs (fun v => v = (i : Int)) new
theorem step_ok {bs : List T_Block} {rec : Int → WS → Option WS} {n : Nat} (hr : WalkOk bs rec n) (t : T_Term) (k : Nat) (to : Int) (met : List Bool) (out : List Int) (hl : met.length = bs.length) (hn : met.count false ≤ n) (hb : (out.length + met.count false) * 8 ≤ 140737488355328) :
    ∃ met' new, stepW rec t k to (met, out) = some (met', out ++ new) ∧ Wk bs met met' new ∧ Prd bs (fun v => v = to ∧ goV t k = true) new ∧ (goV t k = true → 0 ≤ to → to < (bs.length : Int) → met'[to.toNat]? = some true) := by
  unfold stepW
  cases hg : goV t k
  · exact ⟨met, [], by simp, Wk.refl bs met, fun v h => by simp at h, fun h => by cases h⟩
  by_cases hin : 0 ≤ to ∧ to < (met.length : Int)
  · have hlt : to.toNat < met.length := by omega
    have hgd : met.getD to.toNat false = met[to.toNat] := by simp [List.getD, hlt]
    cases hm : met[to.toNat]
    · have hf : met[to.toNat]? = some false := by rw [List.getElem?_eq_getElem hlt, hm]
      obtain ⟨met', new, h1, h2, h3, h4⟩ := hr met out to.toNat hl hf hn hb
      have ht : ((to.toNat : Nat) : Int) = to := by omega
      rw [ht] at h1 h3
      refine ⟨met', new, ?_, h2, fun v hv => ?_, fun _ h0 h1' => ?_⟩
      · simp only [hgd, hm, decide_eq_true hin, Bool.not_false, Bool.and_self, if_true]; exact h1
      · rcases h4 v hv with h | h
        · exact .inl ⟨by rw [h, ht], rfl⟩
        · exact .inr h
      · exact ((h2.mem to).mp h3).2.2
    · refine ⟨met, [], ?_, Wk.refl bs met, fun v h => by simp at h, fun _ _ _ => by rw [List.getElem?_eq_getElem hlt, hm]⟩
      simp only [hgd, hm, Bool.not_true, Bool.and_false, Bool.false_eq_true, if_false, List.append_nil]
  · refine ⟨met, [], ?_, Wk.refl bs met, fun v h => by simp at h, fun _ h0 h1 => absurd ⟨h0, by rw [hl]; exact h1⟩ hin⟩
    simp only [decide_eq_false hin, Bool.false_and, Bool.and_false, Bool.false_eq_true, if_false, List.append_nil]
theorem walk_ok (bs : List T_Block) : ∀ n, WalkOk bs (walkV bs n) n := by
  intro n
  induction n with
  | zero =>
    intro met out i hl hi hn
    have : false ∈ met := List.mem_of_getElem? hi
    have := List.count_pos_iff.mpr this
    omega
  | succ n ih =>
    intro met out i hl hi hn hb
    have hil : i < met.length := (List.getElem?_eq_some_iff.mp hi).1
    have hmi : met[i] = false := by rw [List.getElem?_eq_getElem hil] at hi; exact Option.some.inj hi
    have hbi : bs[i]? = some bs[i] := List.getElem?_eq_getElem (by omega)
    generalize bs[i] = b at hbi
    have hc : (met.set i true).count false + 1 = met.count false := by
      rw [List.count_set hil, hmi]
      have : 0 < met.count false := List.count_pos_iff.mpr (List.mem_of_getElem? hi)
      simp; omega
    have hl1 : (met.set i true).length = bs.length := by rw [List.length_set]; exact hl
    obtain ⟨m1, n1, e1, w1, p1, c1⟩ := step_ok ih b.fTerm 0 b.fTerm.fTo.a0 (met.set i true) out hl1 (by omega) (by omega)
    have k1 := w1.cnt
    obtain ⟨m2, n2, e2, w2, p2, c2⟩ := step_ok ih b.fTerm 1 b.fTerm.fTo.a1 m1 (out ++ n1) (w1.len.trans hl1) (by omega) (by rw [List.length_append]; omega)
    have k2 := w2.cnt
    have w := w1.trans w2
    have hset : (met.set i true)[i]? = some true := by rw [List.getElem?_set_self hil]
    have hi2 : m2[i]? = some true := w.mono i hset
    refine ⟨m2, (n1 ++ n2) ++ [(i : Int)], ?_, ⟨w.len.trans (by simp), fun v hv => ?_, fun v => ?_, ?_, fun u hu x hx to he => ?_⟩, by simp, fun v hv => ?_⟩
    · unfold walkV
      rw [upd_nat hil, Option.bind_some, idx_some hbi, Option.bind_some, e1, Option.bind_some, e2, Option.bind_some]
      have hm : more 8 (out ++ n1 ++ n2) [(i : Int)] = some (out ++ n1 ++ n2 ++ [(i : Int)]) := more_nat (by simp only [List.length_append, List.length_singleton]; omega)
      show (more 8 (out ++ n1 ++ n2) [(i : Int)]).map (fun o => (m2, o)) = _
      rw [hm]
      simp
    · refine w.mono v ?_
      by_cases hvi : v = i
      · subst hvi; exact hset
      · rw [List.getElem?_set_ne (fun h => hvi h.symm)]; exact hv
    · rw [List.mem_append, w.mem, List.mem_singleton]
      constructor
      · rintro (⟨p, q, r⟩ | rfl)
        · refine ⟨p, ?_, r⟩
          have hne : i ≠ v.toNat := by rintro rfl; rw [hset] at q; cases q
          rwa [List.getElem?_set_ne hne] at q
        · exact ⟨by omega, by simpa using hi, by simpa using hi2⟩
      · rintro ⟨p, q, r⟩
        by_cases hvi : v.toNat = i
        · right; omega
        · left
          refine ⟨p, ?_, r⟩
          rw [List.getElem?_set_ne (fun h => hvi h.symm)]; exact q
    · have := w.cnt
      rw [List.length_append, List.length_singleton]; omega
    · rcases List.mem_append.mp hu with h | h
      · exact w.clo u h x hx to he
      · rw [List.mem_singleton] at h; subst h
        rw [Int.toNat_natCast, hbi] at hx; cases hx
        obtain ⟨h0, h1, ⟨g, rfl⟩ | ⟨g, rfl⟩⟩ := he
        · exact w2.mono _ (c1 g h0 h1)
        · exact c2 g h0 h1
    · rcases List.mem_append.mp hv with h | h
      · have hr : 0 ≤ v ∧ v < (bs.length : Int) := by
          have := (w.mem v).mp h
          have h2 := (List.getElem?_eq_some_iff.mp this.2.1).1
          rw [hl1] at h2
          exact ⟨this.1, by omega⟩
        rcases (p1.app p2) v h with (⟨rfl, g⟩ | ⟨rfl, g⟩) | ⟨u, hu, x, hx, he⟩
        · exact .inr ⟨(i : Int), by simp, b, by simpa using hbi, hr.1, hr.2, .inl ⟨g, rfl⟩⟩
        · exact .inr ⟨(i : Int), by simp, b, by simpa using hbi, hr.1, hr.2, .inr ⟨g, rfl⟩⟩
        · exact .inr ⟨u, List.mem_append_left _ hu, x, hx, he⟩
      · rw [List.mem_singleton] at h; exact .inl h
end Go.Eng.Gra
