/- Tokens with gaps between are the same tokens: in plain words of lists (no program in sight; no condition beyond those stated). -/
import Derived.Test.YtimnlnkjogbjfaaTokCh
namespace Go.Eng.Tok
open Go Go.Eng
set_option linter.unusedVariables false
set_option linter.unusedSimpArgs false

/-- a gap: blanks, or a remark and a line's end -/
structure Gap (g : List UInt8) : Prop where
  skip : ∀ R, skipN (g ++ R) = g.length + skipN R
  head : ∀ R x, (g ++ R)[0]? = some x → kd x = 1
theorem gap1 : Gap [32] := by
  refine ⟨fun R => ?_, fun R x h => ?_⟩
  · show skipN (32 :: R) = _
    rw [skip_blank (by decide)]; rfl
  · simp at h; subst h; decide
theorem line_head (R : List UInt8) : lineN (47 :: 47 :: 43 :: 49 :: 10 :: R) = 4 := by
  simp [lineN, List.takeWhile]
theorem gap2 : Gap [32, 47, 47, 43, 49, 10] := by
  refine ⟨fun R => ?_, fun R x h => ?_⟩
  · show skipN (32 :: 47 :: 47 :: 43 :: 49 :: 10 :: R) = _
    rw [skip_blank (by decide)]
    have hr : rowN [1] (47 :: 47 :: 43 :: 49 :: 10 :: R) = 0 := by
      unfold rowN; rw [List.takeWhile_cons_of_neg (by decide)]; rfl
    have hy := skipN_yes (l := 47 :: 47 :: 43 :: 49 :: 10 :: R) (by rw [hr]; rfl)
    rw [hr, List.drop_zero, line_head] at hy
    rw [hy]
    show 1 + (0 + (4 + skipN (10 :: R))) = _
    rw [skip_blank (by decide)]
    simp; omega
  · simp at h; subst h; decide
/-- a token's text, and the gap -/
def piece (l g : List UInt8) (t : Nat × Nat × Nat) : List UInt8 := (l.drop t.2.1).take (t.2.2 - t.2.1) ++ g
def pieces (l g : List UInt8) (ts : List (Nat × Nat × Nat)) : List UInt8 := ts.flatMap (piece l g)
theorem joined {l g B : List UInt8} (hg : Gap g) (hl : g ≠ []) : ∀ (ts : List (Nat × Nat × Nat)) (a k p : Nat) (acc : List (Nat × Nat × Nat)) (G : List UInt8), Chain l a ts → (G = [] ∨ G = g) → B.drop p = G ++ pieces l g ts → p ≤ B.length → B.length - p < k →
    ∃ us, scanF k B p acc = .ok (acc ++ us) ∧ us.length = ts.length ∧ ∀ (i : Nat) (t u : Nat × Nat × Nat), i + 1 < ts.length → ts[i]? = some t → us[i]? = some u → u.1 = t.1 ∧ u.2.1 ≤ u.2.2 ∧ u.2.2 ≤ B.length ∧ (B.drop u.2.1).take (u.2.2 - u.2.1) = (l.drop t.2.1).take (t.2.2 - t.2.1)
  | [], a, k, p, acc, G, hc, _, _, _, _ => hc.elim
  | t :: ts, a, 0, p, acc, G, hc, _, _, _, hk => by omega
  | t :: ts, a, k + 1, p, acc, G, hc, hG, hB, hp, hk => by
    have hGs : ∀ R, skipN (G ++ R) = G.length + skipN R := by
      rcases hG with rfl | rfl
      · intro R; simp
      · exact hg.skip
    obtain ⟨hal, hc⟩ := hc
    have hBl : B.length - p = (G ++ pieces l g (t :: ts)).length := by rw [← hB, List.length_drop]
    split at hc
    · rename_i he
      obtain ⟨rfl, rfl⟩ := hc
      have hpc : pieces l g [(1, l.length, l.length)] = g := by simp [pieces, piece]
      rw [hpc] at hB hBl
      have hs : skipN (B.drop p) = (G ++ g).length := by
        have := hg.skip []
        rw [List.append_nil] at this
        rw [hB, hGs, this, List.length_append]; rfl
      refine ⟨[(1, p + skipN (B.drop p), p + skipN (B.drop p))], ?_, rfl, fun i t u hi => by simp at hi⟩
      rw [scanF, if_pos (by rw [hs]; omega)]
    · rename_i he
      obtain ⟨k', n, ht, rfl, hc⟩ := hc
      have hok := tokF_ok ht
      rw [List.length_drop] at hok
      generalize hq : a + skipN (l.drop a) = q at *
      have hs2 : [47, 47].isPrefixOf (l.drop q) = false := by
        have := (skip_end _ (A := l.drop a) (Nat.lt_succ_self _)).1
        rwa [List.drop_drop, hq] at this
      have hpc : pieces l g ((k', q, q + n) :: ts) = (l.drop q).take n ++ (g ++ pieces l g ts) := by
        show piece l g _ ++ pieces l g ts = _
        simp only [piece, Nat.add_sub_cancel_left, List.append_assoc]
      rw [hpc] at hB hBl
      have hgl : Gl n (l.drop q) ((l.drop q).take n ++ (g ++ pieces l g ts)) := gl_take (by rw [List.length_drop]; omega) (hg.head _)
      have hsk : skipN (B.drop p) = G.length := by rw [hB, hGs, skip_gl hgl ht hs2]; rfl
      have htl : ((l.drop q).take n).length = n := by rw [List.length_take, List.length_drop]; omega
      have hgp : 0 < g.length := List.length_pos_iff.mpr hl
      have hd : B.drop (p + G.length) = (l.drop q).take n ++ (g ++ pieces l g ts) := by
        rw [← List.drop_drop, hB, List.drop_left]
      rw [List.length_append, List.length_append, htl, List.length_append] at hBl
      have hd2 : B.drop (p + G.length + n) = g ++ pieces l g ts := by
        rw [← List.drop_drop, hd, List.drop_left' htl]
      obtain ⟨us, h1, h2, h3⟩ := joined hg hl ts (q + n) k (p + G.length + n) (acc ++ [(k', p + G.length, p + G.length + n)]) g hc (.inr rfl) hd2 (by omega) (by omega)
      refine ⟨(k', p + G.length, p + G.length + n) :: us, ?_, by simp [h2], fun i t u hi hti hui => ?_⟩
      · rw [scanF, hsk, if_neg (by omega), hd, tok_gl hgl ht]
        dsimp only
        rw [h1, List.append_assoc]; rfl
      · cases i with
        | zero =>
          simp at hti hui
          subst hti; subst hui
          refine ⟨rfl, by dsimp only; omega, by dsimp only; omega, ?_⟩
          dsimp only
          rw [Nat.add_sub_cancel_left, Nat.add_sub_cancel_left, hd, List.take_left' htl]
        | succ i => exact h3 i t u (by simpa using hi) (by simpa using hti) (by simpa using hui)
theorem joined_all {l g : List UInt8} (hg : Gap g) (hl : g ≠ []) {ts : List (Nat × Nat × Nat)} (h : Chain l 0 ts) :
    ∃ us, scanR (pieces l g ts) = .ok us ∧ us.length = ts.length ∧ ∀ (i : Nat) (t u : Nat × Nat × Nat), i + 1 < ts.length → ts[i]? = some t → us[i]? = some u → u.1 = t.1 ∧ u.2.1 ≤ u.2.2 ∧ u.2.2 ≤ (pieces l g ts).length ∧ ((pieces l g ts).drop u.2.1).take (u.2.2 - u.2.1) = (l.drop t.2.1).take (t.2.2 - t.2.1) := by
  obtain ⟨us, h1, h2, h3⟩ := joined (B := pieces l g ts) hg hl ts 0 _ 0 [] [] h (.inl rfl) rfl (Nat.zero_le _) (Nat.lt_succ_self _)
  exact ⟨us, by rw [List.nil_append] at h1; exact h1, h2, h3⟩
/-- the tokens' texts are no longer than the source -/
theorem chain_len {l g : List UInt8} : ∀ (ts : List (Nat × Nat × Nat)) (a : Nat), Chain l a ts → (pieces l g ts).length ≤ (l.length - a) + ts.length * g.length
  | [], _, h => h.elim
  | t :: ts, a, ⟨hal, hc⟩ => by
    split at hc
    · obtain ⟨rfl, rfl⟩ := hc
      simp [pieces, piece]
    · obtain ⟨k', n, ht, rfl, hc⟩ := hc
      have hok := tokF_ok ht
      rw [List.length_drop] at hok
      have := chain_len (g := g) ts _ hc
      have e : pieces l g ((k', a + skipN (l.drop a), a + skipN (l.drop a) + n) :: ts) = piece l g (k', a + skipN (l.drop a), a + skipN (l.drop a) + n) ++ pieces l g ts := rfl
      rw [e, List.length_append, List.length_cons, Nat.succ_mul]
      simp only [piece, List.length_append, List.length_take, List.length_drop]
      omega
end Go.Eng.Tok
