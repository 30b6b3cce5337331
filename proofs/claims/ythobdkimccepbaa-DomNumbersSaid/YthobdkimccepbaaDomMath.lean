/- The plain law of a tree of nearest nodes found by rounds over the nodes in a falling order (no program in sight). -/
namespace DomMath
set_option linter.unusedVariables false
section
variable (E : Nat → Nat → Prop) (rk : Nat → Nat)
/-- The ways from 0; their nodes, the last one first; how many of their edges do not fall. -/
inductive Way : Nat → List Nat → Nat → Prop
  | nil : Way 0 [0] 0
  | fall {i l a b} : Way i l a → E a b → rk b < rk a → Way i (b :: l) b
  | rise {i l a b} : Way i l a → E a b → ¬ rk b < rk a → Way (i + 1) (b :: l) b
def Reach (b : Nat) : Prop := ∃ i l, Way E rk i l b
def Dom (d b : Nat) : Prop := ∀ i l, Way E rk i l b → d ∈ l
/-- A way from a to b, all of whose nodes behind a have a rank below m. -/
inductive Low (m : Nat) (a : Nat) : Nat → Prop
  | refl : Low m a a
  | snoc {x y} : Low m a x → E x y → rk y < m → Low m a y
end
/-- Upwards by t. -/
inductive Ch (t : Nat → Nat) : Nat → Nat → Prop
  | refl (b) : Ch t b b
  | up {b d} : b ≠ 0 → Ch t (t b) d → Ch t b d
variable {E : Nat → Nat → Prop} {rk : Nat → Nat}

theorem Way.last {i l b} (h : Way E rk i l b) : b ∈ l := by cases h <;> simp
theorem Way.first {i l b} (h : Way E rk i l b) : 0 ∈ l := by
  induction h with
  | nil => simp
  | fall _ _ _ ih => exact List.mem_cons_of_mem _ ih
  | rise _ _ _ ih => exact List.mem_cons_of_mem _ ih
theorem Way.step {i l a b} (h : Way E rk i l a) (e : E a b) : ∃ i', Way E rk i' (b :: l) b := by
  by_cases c : rk b < rk a
  · exact ⟨_, h.fall e c⟩
  · exact ⟨_, h.rise e c⟩
theorem Reach.step {a b} (h : Reach E rk a) (e : E a b) : Reach E rk b := by
  obtain ⟨i, l, h⟩ := h
  obtain ⟨i', h⟩ := h.step e
  exact ⟨_, _, h⟩
/-- A way may be cut at any of its nodes. -/
theorem Way.cut {i l b} (h : Way E rk i l b) : ∀ v ∈ l, ∃ i' l', Way E rk i' l' v ∧ i' ≤ i ∧ (∀ x ∈ l', x ∈ l) ∧ l'.length ≤ l.length := by
  induction h with
  | nil => intro v hv; rw [List.mem_singleton] at hv; subst hv; exact ⟨0, [0], .nil, Nat.le_refl _, fun x h => h, Nat.le_refl _⟩
  | @fall i l a b hw e c ih =>
    intro v hv
    rcases List.mem_cons.1 hv with rfl | hv
    · exact ⟨_, _, hw.fall e c, Nat.le_refl _, fun x h => h, Nat.le_refl _⟩
    · obtain ⟨i', l', h1, h2, h3, h4⟩ := ih v hv
      exact ⟨i', l', h1, h2, fun x hx => List.mem_cons_of_mem _ (h3 x hx), by simp only [List.length_cons]; omega⟩
  | @rise i l a b hw e c ih =>
    intro v hv
    rcases List.mem_cons.1 hv with rfl | hv
    · exact ⟨_, _, hw.rise e c, Nat.le_refl _, fun x h => h, Nat.le_refl _⟩
    · obtain ⟨i', l', h1, h2, h3, h4⟩ := ih v hv
      exact ⟨i', l', h1, by omega, fun x hx => List.mem_cons_of_mem _ (h3 x hx), by simp only [List.length_cons]; omega⟩
theorem Way.count {i l b} (h : Way E rk i l b) : i < l.length := by
  induction h with
  | nil => simp
  | fall _ _ _ ih => simp only [List.length_cons]; omega
  | rise _ _ _ ih => simp only [List.length_cons]; omega
/-- Any way has a part that meets no node twice. -/
theorem Way.plain {i l b} (h : Way E rk i l b) : ∃ i' l', Way E rk i' l' b ∧ l'.Nodup ∧ ∀ x ∈ l', x ∈ l := by
  suffices H : ∀ n, ∀ i l b, Way E rk i l b → l.length ≤ n → ∃ i' l', Way E rk i' l' b ∧ l'.Nodup ∧ ∀ x ∈ l', x ∈ l from H _ i l b h (Nat.le_refl _)
  intro n
  induction n with
  | zero => intro i l b h hl; exact absurd h.count (by omega)
  | succ n ih =>
    intro i l b h hl
    have core : ∀ {i l a b}, Way E rk i l a → E a b → (b :: l).length ≤ n + 1 → ∃ i' l', Way E rk i' l' b ∧ l'.Nodup ∧ ∀ x ∈ l', x ∈ b :: l := by
      intro i l a b hw e hl
      simp only [List.length_cons] at hl
      by_cases hb : b ∈ l
      · obtain ⟨i', l', h1, _, h3, h4⟩ := hw.cut b hb
        obtain ⟨i2, l2, g1, g2, g3⟩ := ih i' l' b h1 (by omega)
        exact ⟨i2, l2, g1, g2, fun x hx => List.mem_cons_of_mem _ (h3 x (g3 x hx))⟩
      · obtain ⟨i2, l2, g1, g2, g3⟩ := ih i l a hw (by omega)
        obtain ⟨i3, g4⟩ := g1.step e
        exact ⟨i3, b :: l2, g4, List.nodup_cons.2 ⟨fun hm => hb (g3 b hm), g2⟩, fun x hx => by
          rcases List.mem_cons.1 hx with rfl | hx
          · exact List.mem_cons_self
          · exact List.mem_cons_of_mem _ (g3 x hx)⟩
    cases h with
    | nil => exact ⟨0, [0], .nil, by simp, fun x h => h⟩
    | fall hw e c => exact core hw e hl
    | rise hw e c => exact core hw e hl

theorem Low.mono {m m' a b} (h : Low E rk m a b) (hm : m ≤ m') : Low E rk m' a b := by
  induction h with
  | refl => exact .refl
  | snoc _ e c ih => exact ih.snoc e (Nat.lt_of_lt_of_le c hm)
theorem Low.trans {m a b c} (h : Low E rk m a b) (h2 : Low E rk m b c) : Low E rk m a c := by
  induction h2 with
  | refl => exact h
  | snoc _ e c ih => exact ih.snoc e c
theorem Low.way {m a b} (h : Low E rk m a b) : ∀ i l, Way E rk i l a → ∃ i' l', Way E rk i' l' b ∧ ∀ x ∈ l', x ∈ l ∨ rk x < m := by
  induction h with
  | refl => intro i l hw; exact ⟨i, l, hw, fun x hx => .inl hx⟩
  | @snoc x y _ e c ih =>
    intro i l hw
    obtain ⟨i', l', h1, h2⟩ := ih i l hw
    obtain ⟨i2, h3⟩ := h1.step e
    refine ⟨i2, y :: l', h3, fun z hz => ?_⟩
    rcases List.mem_cons.1 hz with rfl | hz
    · exact .inr c
    · exact h2 z hz

theorem Ch.trans {t : Nat → Nat} {a b c} (h : Ch t a b) (h2 : Ch t b c) : Ch t a c := by
  induction h with
  | refl => exact h2
  | up h0 _ ih => exact .up h0 (ih h2)

/-- What holds all along: S, the nodes that have got one. -/
structure Inv (E : Nat → Nat → Prop) (rk : Nat → Nat) (S : Nat → Prop) (t : Nat → Nat) : Prop where
  reach : ∀ b, S b → Reach E rk b
  up : ∀ b, S b → b ≠ 0 → S (t b) ∧ rk b < rk (t b)
  low : ∀ b, S b → b ≠ 0 → Low E rk (rk (t b)) (t b) b
  dom : ∀ b d, S b → Dom E rk d b → Ch t b d
  top : ∀ b, S b → b ≠ 0 → rk b < rk 0

section
variable {S : Nat → Prop} {t : Nat → Nat}
theorem Inv.ch (H : Inv E rk S t) {u v} (h : Ch t u v) (hu : S u) : S v ∧ rk u ≤ rk v ∧ (u ≠ v → rk u < rk v) := by
  induction h with
  | refl => exact ⟨hu, Nat.le_refl _, fun h => absurd rfl h⟩
  | @up b d h0 _ ih =>
    obtain ⟨h1, h2⟩ := H.up b hu h0
    obtain ⟨h3, h4, _⟩ := ih h1
    exact ⟨h3, by omega, fun _ => by omega⟩
theorem Inv.chlow (H : Inv E rk S t) {u v} (h : Ch t u v) (hu : S u) : Low E rk (rk v) v u := by
  induction h with
  | refl => exact .refl
  | @up b d h0 hc ih =>
    obtain ⟨h1, h2⟩ := H.up b hu h0
    exact (ih h1).trans ((H.low b hu h0).mono (H.ch hc h1).2.1)
/-- Two above one: one above the other. -/
theorem Ch.line {u a b} (h : Ch t u a) (h2 : Ch t u b) : Ch t a b ∨ Ch t b a := by
  induction h with
  | refl => exact .inl h2
  | @up x d h0 hc ih =>
    cases h2 with
    | refl => exact .inr (.up h0 hc)
    | up _ h3 => exact ih h3
theorem Inv.anti (H : Inv E rk S t) {u v} (h : Ch t u v) (h2 : Ch t v u) (hu : S u) : u = v := by
  by_cases c : u = v
  · exact c
  · have := (H.ch h hu).2.2 c
    have := (H.ch h2 (H.ch h hu).1).2.1
    omega
/-- What stands over u and higher than v, where v is in u's chain, stands over v. -/
theorem Inv.domUp (H : Inv E rk S t) {u v d} (h : Ch t u v) (hu : S u) (hd : Dom E rk d u) (hr : rk v ≤ rk d) : Dom E rk d v := by
  intro i l hw
  obtain ⟨i', l', h1, h2⟩ := (H.chlow h hu).way i l hw
  rcases h2 d (hd i' l' h1) with h | h
  · exact h
  · omega
end

/-- The part that is told by the rounds: c counts, for each node, the edges that do not fall on the ways that its chain is known to lie in. -/
def Cov (E : Nat → Nat → Prop) (rk : Nat → Nat) (S : Nat → Prop) (t c : Nat → Nat) : Prop := ∀ b, S b → ∀ i l, Way E rk i l b → i ≤ c b → ∀ d, Ch t b d → d ∈ l
def upd (t : Nat → Nat) (v m : Nat) : Nat → Nat := fun b => if b = v then m else t b
theorem upd_at (t : Nat → Nat) (v m) : upd t v m v = m := if_pos rfl
theorem upd_ne (t : Nat → Nat) {v b} (m) (h : b ≠ v) : upd t v m b = t b := if_neg h

section
variable {S : Nat → Prop} {t c : Nat → Nat} {v m k : Nat}
/-- A chain that does not pass v stays. -/
theorem ch_keep (H : Inv E rk S t) {u d} (hu : S u) (h : Ch t u d) (hn : ∀ x, Ch t u x → x = v → Ch t d x) : Ch (upd t v m) u d := by
  induction h with
  | refl => exact .refl _
  | @up b d h0 hc ih =>
    obtain ⟨h1, h2⟩ := H.up b hu h0
    by_cases hb : b = v
    · have h3 := hn b (.refl b) hb
      have := (H.ch h3 (H.ch hc h1).1).2.1
      have := (H.ch hc h1).2.1
      omega
    · refine .up h0 ?_
      rw [upd_ne t m hb]
      exact ih h1 (fun x hx => hn x (.up h0 hx))
/-- What a chain becomes. -/
theorem ch_upd (H : Inv E rk S t) (hm : S m) (hmv : rk v < rk m) {u d} (hu : S u) (h : Ch (upd t v m) u d) : (Ch t u d ∧ (Ch t u v → Ch t d v)) ∨ (Ch t u v ∧ Ch t m d) := by
  have clear_ : ∀ {w d}, Ch (upd t v m) w d → S w → rk v < rk w → Ch t w d := by
    intro w d h
    induction h with
    | refl => intro _ _; exact .refl _
    | @up b d h0 _ ih =>
      intro hw hr
      have hb : b ≠ v := by intro e; subst e; omega
      rw [upd_ne t m hb] at ih
      obtain ⟨h1, h2⟩ := H.up b hw h0
      exact .up h0 (ih h1 (by omega))
  induction h with
  | refl => exact .inl ⟨.refl _, id⟩
  | @up b d h0 hc ih =>
    by_cases hb : b = v
    · subst hb
      rw [upd_at] at hc
      exact .inr ⟨.refl _, clear_ hc hm hmv⟩
    · rw [upd_ne t m hb] at ih
      obtain ⟨h1, h2⟩ := H.up b hu h0
      rcases ih h1 with ⟨h3, h4⟩ | ⟨h3, h4⟩
      · refine .inl ⟨.up h0 h3, fun hv => ?_⟩
        cases hv with
        | refl => exact absurd rfl hb
        | up _ hv => exact h4 hv
      · exact .inr ⟨.up h0 h3, h4⟩
/-- The same for v itself. -/
theorem ch_updv (H : Inv E rk S t) (hm : S m) (hmv : rk v < rk m) {d} (h : Ch (upd t v m) v d) : d = v ∨ Ch t m d := by
  cases h with
  | refl => exact .inl rfl
  | up h0 hc =>
    rw [upd_at] at hc
    rcases ch_upd H hm hmv hm hc with h | h
    · exact .inr h.1
    · exact .inr h.2
/-- One node gets its nearest one anew. -/
theorem Inv.set (H : Inv E rk S t) (C : Cov E rk S t c) (hv0 : v ≠ 0) (hm : S m)
    (hall : ∀ p, S p → E p v → Ch t p m) (hgr : ∀ d, (∀ p, S p → E p v → Ch t p d) → Ch t m d)
    (hp : ∃ p, S p ∧ E p v ∧ rk v < rk p)
    (hk : ∀ p, E p v → Reach E rk p → if rk v < rk p then S p ∧ k ≤ c p else k = 0 ∨ (S p ∧ k ≤ c p + 1))
    (hck : ∀ b, S b → rk b < rk v → c b ≤ k) :
    Inv E rk (fun b => S b ∨ b = v) (upd t v m) ∧ Cov E rk (fun b => S b ∨ b = v) (upd t v m) (upd c v k) := by
  obtain ⟨p0, hp0, he0, hr0⟩ := hp
  have hmv : rk v < rk m := by have := (H.ch (hall p0 hp0 he0) hp0).2.1; omega
  have hrv : Reach E rk v := (H.reach p0 hp0).step he0
  -- the new chain of v lies in v's ways
  have covv : ∀ i l, Way E rk i l v → i ≤ k → ∀ d, Ch t m d → d ∈ l := by
    intro i l hw hi d hd
    cases hw with
    | nil => exact absurd rfl hv0
    | @fall _ l p _ hw e cc =>
      have h1 := hk p e ⟨_, _, hw⟩
      rw [if_pos cc] at h1
      exact List.mem_cons_of_mem _ (C p h1.1 _ _ hw (by omega) d ((hall p h1.1 e).trans hd))
    | @rise i l p _ hw e cc =>
      have h1 := hk p e ⟨_, _, hw⟩
      rw [if_neg cc] at h1
      rcases h1 with h1 | h1
      · omega
      · exact List.mem_cons_of_mem _ (C p h1.1 _ _ hw (by omega) d ((hall p h1.1 e).trans hd))
  have domv : ∀ d, Dom E rk d v → d = v ∨ Ch t m d := by
    intro d hd
    by_cases hdv : d = v
    · exact .inl hdv
    · refine .inr (hgr d fun p hp he => H.dom p d hp fun i l hw => ?_)
      obtain ⟨i', h⟩ := hw.step he
      rcases List.mem_cons.1 (hd _ _ h) with h | h
      · exact absurd h hdv
      · exact h
  have chm : ∀ {d}, Ch t m d → Ch (upd t v m) m d := fun hd => ch_keep H hm hd (fun x hx e => by subst e; have := (H.ch hx hm).2.1; omega)
  refine ⟨⟨?_, ?_, ?_, ?_, ?_⟩, ?_⟩
  · rintro b (hb | rfl)
    · exact H.reach b hb
    · exact hrv
  · intro b hb h0
    by_cases hbv : b = v
    · subst hbv; rw [upd_at]; exact ⟨.inl hm, hmv⟩
    · rw [upd_ne t m hbv]
      obtain ⟨h1, h2⟩ := H.up b (hb.resolve_right hbv) h0
      exact ⟨.inl h1, h2⟩
  · intro b hb h0
    by_cases hbv : b = v
    · subst hbv
      rw [upd_at]
      have h1 := H.chlow (hall p0 hp0 he0) hp0
      exact h1.snoc he0 hmv
    · rw [upd_ne t m hbv]; exact H.low b (hb.resolve_right hbv) h0
  · intro b d hb hd
    by_cases hbv : b = v
    · subst hbv
      rcases domv d hd with rfl | h
      · exact .refl _
      · exact .up hv0 (by rw [upd_at]; exact chm h)
    · have hb := hb.resolve_right hbv
      have h1 := H.dom b d hb hd
      by_cases hc : Ch t b v
      · rcases Ch.line h1 hc with h2 | h2
        · refine ch_keep H hb h1 (fun x _ e => by subst e; exact h2)
        · have hsv := (H.ch hc hb).1
          have hdv : Dom E rk d v := H.domUp hc hb hd (H.ch h2 hsv).2.1
          have hbv' : Ch (upd t v m) b v := ch_keep H hb hc (fun x _ e => by subst e; exact .refl _)
          refine hbv'.trans ?_
          rcases domv d hdv with rfl | h
          · exact .refl _
          · exact .up hv0 (by rw [upd_at]; exact chm h)
      · exact ch_keep H hb h1 (fun x hx e => by subst e; exact absurd hx hc)
  · rintro b (hb | rfl) h0
    · exact H.top b hb h0
    · have h1 : rk m ≤ rk 0 := by
        by_cases e : m = 0
        · rw [e]; exact Nat.le_refl _
        · exact Nat.le_of_lt (H.top m hm e)
      omega
  · intro b hb i l hw hi d hd
    by_cases hbv : b = v
    · subst hbv
      rw [upd_at] at hi
      rcases ch_updv H hm hmv hd with rfl | h
      · exact hw.last
      · exact covv i l hw hi d h
    · rw [upd_ne c k hbv] at hi
      have hb := hb.resolve_right hbv
      rcases ch_upd H hm hmv hb hd with ⟨h, _⟩ | ⟨h1, h2⟩
      · exact C b hb i l hw hi d h
      · have hvl := C b hb i l hw hi v h1
        obtain ⟨i', l', g1, g2, g3, _⟩ := hw.cut v hvl
        have hlt : rk b < rk v := (H.ch h1 hb).2.2 hbv
        exact g3 d (covv i' l' g1 (by have := hck b hb hlt; omega) d h2)
end

theorem few : ∀ (n : Nat) (l : List Nat), l.Nodup → (∀ x ∈ l, x < n) → l.length ≤ n
  | 0, l, _, h => by
    cases l with
    | nil => simp
    | cons x l => exact absurd (h x List.mem_cons_self) (by omega)
  | n + 1, l, hd, h => by
    have h1 := few n (l.erase n) (hd.erase n) (fun x hx => by
      have h2 := h x (List.mem_of_mem_erase hx)
      have h3 : x ≠ n := fun e => by subst e; exact (List.Nodup.not_mem_erase hd) hx
      omega)
    have h4 := List.length_erase (a := n) (l := l)
    split at h4 <;> omega
section
variable {S : Nat → Prop} {t c : Nat → Nat} {n : Nat}
/-- The chains are what stands over: behind a round that changed nothing. -/
theorem Inv.done (H : Inv E rk S t) (hS : ∀ b, Reach E rk b → S b) (hf : ∀ v, S v → v ≠ 0 → ∀ p, S p → E p v → Ch t p (t v)) : ∀ b d, S b → (Ch t b d ↔ Dom E rk d b) := by
  have key : ∀ {i l b}, Way E rk i l b → ∀ d, Ch t b d → d ∈ l := by
    have core : ∀ {i l a b}, Way E rk i l a → E a b → (∀ d, Ch t a d → d ∈ l) → ∀ d, Ch t b d → d ∈ b :: l := by
      intro i l a b hw e ih d hd
      have ha := hS a ⟨_, _, hw⟩
      have hb := hS b (Reach.step ⟨_, _, hw⟩ e)
      cases hd with
      | refl => exact List.mem_cons_self
      | up h0 hd => exact List.mem_cons_of_mem _ (ih d ((hf b hb h0 a ha e).trans hd))
    intro i l b hw
    induction hw with
    | nil =>
      intro d hd
      cases hd with
      | refl => simp
      | up h0 _ => exact absurd rfl h0
    | fall hw e _ ih => exact core hw e ih
    | rise hw e _ ih => exact core hw e ih
  exact fun b d hb => ⟨fun h i l hw => key hw d h, fun h => H.dom b d hb h⟩
/-- The chains are what stands over: behind as many rounds as there are nodes. -/
theorem Inv.late (H : Inv E rk S t) (C : Cov E rk S t c) (hn : ∀ b, Reach E rk b → b < n) (hc : ∀ b, S b → n ≤ c b + 1) : ∀ b d, S b → (Ch t b d ↔ Dom E rk d b) := by
  intro b d hb
  refine ⟨fun h i l hw => ?_, fun h => H.dom b d hb h⟩
  obtain ⟨i', l', h1, h2, h3⟩ := hw.plain
  have hlen : l'.length ≤ n := by
    have : ∀ x ∈ l', x < n := fun x hx => by
      obtain ⟨i2, l2, g, _⟩ := h1.cut x hx
      exact hn x ⟨_, _, g⟩
    exact few n l' h2 this
  exact h3 d (C b hb i' l' h1 (by have := h1.count; have := hc b hb; omega) d h)
/-- Two such trees are one. -/
theorem Inv.same {S' : Nat → Prop} {t' : Nat → Nat} (H : Inv E rk S t) (H' : Inv E rk S' t') {b} (hb : S b) (hb' : S' b) (h0 : b ≠ 0) (h : ∀ d, Ch t b d ↔ Dom E rk d b) (h' : ∀ d, Ch t' b d ↔ Dom E rk d b)
    (g : ∀ d, Ch t (t' b) d ↔ Dom E rk d (t' b)) : t b = t' b := by
  obtain ⟨u1, u2⟩ := H.up b hb h0
  obtain ⟨u3, u4⟩ := H'.up b hb' h0
  have a1 : Ch t' b (t b) := (h' _).2 ((h _).1 (.up h0 (.refl _)))
  have a2 : Ch t b (t' b) := (h _).2 ((h' _).1 (.up h0 (.refl _)))
  have b1 : Ch t' (t' b) (t b) := by
    generalize hx : t b = x at a1
    cases a1 with
    | refl => rw [hx] at u2; omega
    | up _ h => exact h
  have b2 : Ch t (t b) (t' b) := by
    generalize hx : t' b = x at a2
    cases a2 with
    | refl => rw [hx] at u4; omega
    | up _ h => exact h
  have := (H'.ch b1 u3).2
  have := (H.ch b2 u1).2
  by_cases e : t b = t' b
  · exact e
  · have := this.2 e
    omega
end
end DomMath
