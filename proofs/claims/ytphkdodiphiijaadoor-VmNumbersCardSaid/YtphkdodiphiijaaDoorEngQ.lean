/- What a call is handed, as plain values (no condition beyond those stated). -/
import Derived.Test.YtphkdodiphiijaaDoorEngR
import Derived.Test.YtphkdodiphiijaaDoorEngT
namespace Go.Eng
open Go
set_option linter.unusedSectionVars false
set_option linter.unusedVariables false
set_option linter.unusedSimpArgs false

/-- cells of a type are those of a plain value -/
def DecC (P : Program) {α : Type} (E : Enc α) (t : TypeId) (Q : Nat → α → Prop) : Prop := agOf P t = E.ag ∧ ∀ (B n : Nat) (us : List V), WfT P B n t us → ∃ x, us = E.c x ∧ Q B x
section
variable {P : Program}
theorem enc_of {α : Type} {E : Enc α} {u : V} {x : α} (ha : u.isAg = E.ag) (hc : u.cells = E.c x) : u = E.e x := by
  cases hag : E.ag with
  | true =>
    rw [hag] at ha
    cases u <;> simp [V.isAg] at ha
    rw [E.h2 hag]; simp only [V.cells] at hc; rw [hc]
  | false =>
    rw [hag] at ha
    have h1 : u.cells = [u] := by cases u <;> simp_all [V.isAg, V.cells]
    rw [h1, E.h1 hag] at hc
    simpa using hc
theorem DecC.get {α : Type} {E : Enc α} {t : TypeId} {Q : Nat → α → Prop} (d : DecC P E t Q) {B n : Nat} {u : V} (ha : u.isAg = agOf P t) (h : WfT P B n t u.cells) : ∃ x, u = E.e x ∧ Q B x := by
  obtain ⟨x, hx, hq⟩ := d.2 B n _ h
  exact ⟨x, enc_of (by rw [ha, d.1]) hx, hq⟩
theorem dec_int {t : TypeId} {k : IntKind} (hu : P.underlying t = some (.int k)) : DecC P (EI k) t (fun _ m => k.min ≤ m ∧ m ≤ k.max) := by
  refine ⟨by unfold agOf; rw [hu]; rfl, fun B n us h => ?_⟩
  cases n with
  | zero => exact h.elim
  | succ n =>
    simp only [WfT, hu] at h
    obtain ⟨m, rfl, h1, h2⟩ := h
    exact ⟨m, rfl, h1, h2⟩
theorem dec_bool {t : TypeId} (hu : P.underlying t = some .bool) : DecC P EB t (fun _ _ => True) := by
  refine ⟨by unfold agOf; rw [hu]; rfl, fun B n us h => ?_⟩
  cases n with
  | zero => exact h.elim
  | succ n =>
    simp only [WfT, hu] at h
    obtain ⟨m, rfl⟩ := h
    exact ⟨m, rfl, trivial⟩
theorem dec_str {t : TypeId} (hu : P.underlying t = some .string) : DecC P ES t (fun B l => l.length ≤ min B 140737488355328) := by
  refine ⟨by unfold agOf; rw [hu]; rfl, fun B n us h => ?_⟩
  cases n with
  | zero => exact h.elim
  | succ n =>
    simp only [WfT, hu] at h
    obtain ⟨s, rfl, h1⟩ := h
    have e : s.data.toList.length = s.size := Array.length_toList
    exact ⟨s.data.toList, rfl, by show s.data.toList.length ≤ _; rw [e]; exact h1⟩
theorem dec_slice {α : Type} {E : Enc α} {t e : TypeId} {Q : Nat → α → Prop} (hu : P.underlying t = some (.slice e)) (d : DecC P E e Q) : DecC P (EL E) t (fun B l => l.length ≤ min B 140737488355328 ∧ ∀ x ∈ l, Q B x) := by
  refine ⟨by unfold agOf; rw [hu]; rfl, fun B n us h => ?_⟩
  cases n with
  | zero => exact h.elim
  | succ n =>
    simp only [WfT, hu] at h
    obtain ⟨xs, rfl, h1, h2⟩ := h
    obtain ⟨r, rfl, hr⟩ := list_map_of (f := E.e) (Q := Q B) xs (fun x hx => by
      obtain ⟨a1, _, a3⟩ := h2 x hx
      exact d.get a1 a3)
    exact ⟨r, rfl, by simpa using h1, hr⟩
/-- a struct's cells, field by field -/
theorem dec_fields {t : TypeId} {fs : Array Field} (hu : P.underlying t = some (.struct fs)) {B n : Nat} {us : List V} (h : WfT P B n t us) :
    us.length = P.cellsOf t ∧ ∃ m, ∀ f ∈ fs.toList, WfT P B m f.type ((us.drop f.offset).take (P.cellsOf f.type)) := by
  cases n with
  | zero => exact h.elim
  | succ n =>
    simp only [WfT, hu] at h
    exact ⟨h.1, n, h.2⟩
theorem dec_array {t m e z : Nat} (hu : P.underlying t = some (.array m e)) (hz : P.cellsOf e = z) {B n : Nat} {us : List V} (h : WfT P B n t us) :
    us.length = m * z ∧ ∃ k, ∀ i, i < m → WfT P B k e ((us.drop (i * z)).take z) := by
  subst hz
  cases n with
  | zero => exact h.elim
  | succ n =>
    simp only [WfT, hu] at h
    exact ⟨h.1, n, h.2⟩
theorem ag_struct {t : TypeId} {fs : Array Field} (hu : P.underlying t = some (.struct fs)) : agOf P t = true := by unfold agOf; rw [hu]
theorem seg_cons {us a : List V} {o z : Nat} (h : (us.drop o).take z = a) (hl : o + z ≤ us.length) : us.drop o = a ++ us.drop (o + z) := by
  rw [← h, ← List.drop_drop, List.take_append_drop]
end
end Go.Eng
