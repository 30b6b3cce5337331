/- The statement of TokenLong, of plain functions (no condition beyond those stated). -/
import Derived.Test.YtimnlnkjogbjfaaTokLongP
import Derived.Test.YtimnlnkjogbjfaaTokH
namespace Go.Eng.Tok
open Go Go.Eng
set_option linter.unusedVariables false
set_option linter.unusedSimpArgs false

theorem f12_j1 (x : List UInt8) (hl : x.length ≤ 65536) (ts : List (Nat × Nat × Nat)) (ht : ts.length ≤ 65536) (k p q : Nat) (hq : q ≤ x.length) :
    F12_j1 x (ts.map tkT) (k : Int) (p : Int) (q : Int) = some (.next ((ts ++ [(k, p, q)]).map tkT, ((q + skipN (x.drop q) : Nat) : Int))) := by
  unfold F12_j1
  rw [more_nat (by rw [List.length_map]; simp; omega), Option.bind_some, f22 x (by omega) hq, Option.bind_some, List.map_append]; rfl
def RP (x : List UInt8) (o : Out (List T_Token × T_Fault) (List T_Token)) : Prop :=
  match scanR x with | .error e => o = .ret ([], ⟨120, (e : Int)⟩) | .ok ts => ∃ acc, ts = acc ++ [(1, x.length, x.length)] ∧ acc.length ≤ x.length ∧ o = .go (acc.map tkT)
def RI (x : List UInt8) (m : Nat) (s : List T_Token × Int) : Prop :=
  ∃ (a : Nat) (ts : List (Nat × Nat × Nat)), a ≤ x.length ∧ m = x.length - a ∧ ts.length ≤ a ∧ s = (ts.map tkT, ((a + skipN (x.drop a) : Nat) : Int)) ∧ scanR x = scanF (x.length - a + 1) x a ts
theorem ref_scan (x : List UInt8) (hl : x.length ≤ 65536) (hD : ∀ b ∈ x, kd b ≠ 3) (hN : ∀ (a : Nat) (h : a < x.length), kd x[a] = 2 → rowN [2, 3] (x.drop a) = 1 ∧ x[a] = 97) : F12 x = F11 x := by
  have hsk0 := skipN_le x
  have hloop : ∃ o, iter (fun s : ((List T_Token) × Int) => F12_1_b x s.1 s.2) FUEL ([], ((0 + skipN (x.drop 0) : Nat) : Int)) = some o ∧ RP x o := by
    refine iter_ok (I := RI x) (P := RP x) ?_ FUEL x.length _ ⟨0, [], by omega, by omega, by simp, rfl, rfl⟩ (by unfold FUEL; omega)
    rintro m s ⟨a, ts, ha, rfl, hts, rfl, hsc⟩
    have hsk := skipN_le (x.drop a)
    rw [List.length_drop] at hsk
    have hse := skip_end _ (A := x.drop a) (Nat.lt_succ_self _)
    rw [List.drop_drop] at hse
    have hsc' := hsc
    unfold scanF at hsc
    generalize hp : a + skipN (x.drop a) = p at *
    show ∃ t, F12_1_b x (ts.map tkT) (p : Int) = some t ∧ _
    have hnext : ∀ (k q : Nat), p < q → q ≤ x.length → scanR x = scanF (x.length - a) x q (ts ++ [(k, p, q)]) →
        Ok (RI x) (x.length - a) (RP x)
          (.next ((ts ++ [(k, p, q)]).map tkT, ((q + skipN (x.drop q) : Nat) : Int))) := by
      intro k q hpq hq hs
      refine ⟨x.length - q, by omega, q, ts ++ [(k, p, q)], hq, rfl, by simp; omega, rfl, ?_⟩
      rw [hs]; exact scanF_more _ _ _ _ _ hq (by omega) (by omega)
    unfold F12_1_b
    by_cases hlt : p < x.length
    · rw [if_neg (by omega)] at hsc
      have hk1 : kd x[p] ≠ 1 := by
        refine hse.2 x[p] ?_
        rw [List.getElem?_drop, hp, List.getElem?_eq_getElem hlt]
      have e : x.drop p = x[p] :: x.drop (p + 1) := List.drop_eq_getElem_cons hlt
      rw [ite_t (decide_eq_true (by omega)), sidx_get hlt, Option.bind_some, f23, Option.bind_some]
      by_cases h2 : kd x[p] = 2
      · obtain ⟨hr, h97⟩ := hN p hlt h2
        rw [ite_t (decide_eq_true h2), f24 x (by omega) (by omega), Option.bind_some, hr]
        rw [ite_f (decide_eq_false (by rw [wrap64_in (by omega) (by omega)]; omega)), part_nat (by omega) (by omega), Option.bind_some, Nat.add_sub_cancel_left]
        have ht1 : (x.drop p).take 1 = [97] := by rw [e, List.take_succ_cons, List.take_zero, h97]
        rw [ht1, f15a, Option.bind_some, if_neg (by simp)]
        have htk : tokF (x.drop p) = .ok (2, 1) := by
          have : tokF (x.drop p) = nameF (x.drop p) := by rw [e]; simp only [tokF, h2, if_true]
          rw [this, nameF, hr, if_neg (by omega), ht1, worda]; rfl
        rw [htk] at hsc
        exact ⟨_, f12_j1 x hl ts (by omega) 2 p (p + 1) (by omega), hnext 2 (p + 1) (by omega) (by omega) hsc⟩
      · have h3 : kd x[p] ≠ 3 := hD _ (List.getElem_mem _)
        rw [ite_f (decide_eq_false h2), Option.bind_some, f25, Option.bind_some, ite_f (decide_eq_false h3), f27 x (by omega) hlt, Option.bind_some]
        by_cases h4 : kd x[p] = 4
        · have htk : tokF (x.drop p) = .ok (6, if twoB (x.drop p) then 2 else 1) := by
            have : tokF (x.drop p) = signF (x.drop p) := by rw [e]; simp only [tokF, h4]; rfl
            rw [this]; rfl
          have hok := tokF_ok htk
          rw [List.length_drop] at hok
          rw [htk] at hsc
          cases h2b : twoB (x.drop p) with
          | true =>
            rw [h2b] at hok hsc
            simp only [if_true] at hok hsc ⊢
            rw [if_neg (by decide), show IntKind.i64.wrap ((p : Int) + 2) = ((p + 2 : Nat) : Int) from wn 2 (by omega)]
            exact ⟨_, f12_j1 x hl ts (by omega) 6 p (p + 2) (by omega), hnext 6 (p + 2) (by omega) (by omega) hsc⟩
          | false =>
            rw [h2b] at hok hsc
            simp only [Bool.false_eq_true, if_false, if_pos h4] at hok hsc ⊢
            rw [if_neg (by decide), wnat (by omega)]
            exact ⟨_, f12_j1 x hl ts (by omega) 6 p (p + 1) (by omega), hnext 6 (p + 1) (by omega) (by omega) hsc⟩
        · have h2b : twoB (x.drop p) = false := by
            rw [Bool.eq_false_iff]; exact fun h => h4 (two_kd hlt h)
          rw [h2b]
          simp only [Bool.false_eq_true, if_false, if_neg h4]
          rw [ite_t (show ((0 : Int) == 0) = true from rfl)]
          have htk : tokF (x.drop p) = .error 0 := tokF_none hlt (fun j hj => by omega)
          rw [htk] at hsc
          refine ⟨_, rfl, ?_⟩
          have hsc2 : scanR x = .error p := hsc
          simp only [Ok, RP, hsc2]
    · have hpe : p = x.length := by omega
      rw [if_pos hpe] at hsc
      rw [ite_f (decide_eq_false (by omega))]
      refine ⟨_, rfl, ?_⟩
      simp only [Ok, RP, hsc]
      exact ⟨ts, by rw [hpe], by omega, rfl⟩
  obtain ⟨o, h1, h2⟩ := hloop
  unfold RP at h2
  unfold F12
  rw [ite_f (decide_eq_false (by omega)), show (0 : Int) = ((0 : Nat) : Int) from rfl, f22 x (by omega) (Nat.zero_le _), Option.bind_some]
  rw [h1]
  unfold F11
  rw [if_neg (by omega)]
  cases hs : scanR x with
  | error e =>
    rw [hs] at h2
    simp only at h2
    subst h2; rfl
  | ok ts =>
    rw [hs] at h2
    simp only at h2
    obtain ⟨acc, rfl, hal, rfl⟩ := h2
    simp only [Option.bind_some]
    rw [more_nat (by rw [List.length_map]; simp; omega), Option.bind_some, List.map_append]; rfl

def BL (m : Nat) (c : UInt8) : List UInt8 := 97 :: List.replicate m c
theorem BL_len (m : Nat) (c : UInt8) : (BL m c).length = m + 1 := by simp [BL]
theorem BL_get {m : Nat} {c : UInt8} {i : Nat} (h : i < (BL m c).length) (h0 : i ≠ 0) : (BL m c)[i] = c := by
  cases i with
  | zero => exact absurd rfl h0
  | succ i => simp [BL]
theorem tw_rep {p : UInt8 → Bool} {c : UInt8} (h : p c = true) : ∀ m, (List.replicate m c).takeWhile p = List.replicate m c
  | 0 => rfl
  | m + 1 => by rw [List.replicate_succ, List.takeWhile_cons_of_pos h, tw_rep h m]
theorem long_name {m : Nat} {c : UInt8} (hm : 32 < m) (h : kd c = 2 ∨ kd c = 3) : rowN [2, 3] (BL m c) = m + 1 := by
  unfold rowN BL
  have hc : ([2, 3].contains (kd c)) = true := by rcases h with h | h <;> rw [h] <;> rfl
  rw [List.takeWhile_cons_of_pos (by decide), List.length_cons, tw_rep (p := fun b => [2, 3].contains (kd b)) hc, List.length_replicate]
theorem f12_long {m : Nat} {c : UInt8} : F12 (BL m c) = F11 (BL m c) ∨ (65536 < m + 1) ∨ ¬ 32 < m := by
  by_cases hm : 32 < m
  · by_cases hl : 65536 < m + 1
    · exact .inr (.inl hl)
    · left
      have hlen := BL_len m c
      by_cases hk : kd c = 2 ∨ kd c = 3
      · have hr := long_name hm hk
        have h0 : skipN (BL m c) = 0 := by
          refine skip_none (fun y hy => ?_) ?_
          · simp [BL] at hy; subst hy; decide
          · simp [BL, List.isPrefixOf]
        have hs : scanR (BL m c) = .error 0 := by
          unfold scanR
          rw [hlen]
          unfold scanF
          have ht : tokF (BL m c) = .error 0 := by
            have : tokF (BL m c) = nameF (BL m c) := rfl
            rw [this, nameF, hr, if_pos (by omega)]
          rw [List.drop_zero, h0, Nat.add_zero, if_neg (by omega), List.drop_zero, ht]
        rw [F11, if_neg (by omega), hs]
        unfold F12
        rw [ite_f (decide_eq_false (by omega)), show (0 : Int) = ((0 : Nat) : Int) from rfl, f22 _ (by omega) (Nat.zero_le _), Option.bind_some, List.drop_zero, h0]
        have h1 : iter (fun s : ((List T_Token) × Int) => F12_1_b (BL m c) s.1 s.2) FUEL ([], ((0 + 0 : Nat) : Int)) = some (.ret ([], ⟨120, 0⟩)) := by
          refine iter_eq (I := fun k s => s = ([], (0 : Int))) _ ?_ (m := 0) rfl (by omega)
          rintro k s rfl
          show ∃ t, F12_1_b (BL m c) [] ((0 : Nat) : Int) = some t ∧ _
          unfold F12_1_b
          rw [ite_t (decide_eq_true (by omega)), sidx_get (by omega), Option.bind_some, f23, Option.bind_some, ite_t (by show decide (kd 97 = 2) = true; decide), f24 _ (by omega) (Nat.zero_le _), Option.bind_some, List.drop_zero, hr]
          rw [ite_t (decide_eq_true (by rw [wrap64_in (by omega) (by omega)]; omega))]
          exact ⟨_, rfl, rfl⟩
        rw [h1]; rfl
      · refine ref_scan _ (by omega) (fun b hb => ?_) (fun a ha h2 => ?_)
        · simp only [BL, List.mem_cons, List.mem_replicate] at hb
          rcases hb with rfl | ⟨_, rfl⟩
          · decide
          · omega
        · have ha0 : a = 0 := by
            by_cases h : a = 0
            · exact h
            · rw [BL_get ha h] at h2; omega
          subst ha0
          refine ⟨?_, rfl⟩
          rw [List.drop_zero]
          unfold rowN BL
          rw [List.takeWhile_cons_of_pos (by decide)]
          obtain ⟨m', rfl⟩ : ∃ m', m = m' + 1 := ⟨m - 1, by omega⟩
          rw [List.replicate_succ, List.takeWhile_cons_of_neg (by simp; omega)]; rfl
  · exact .inr (.inr hm)
theorem f13_refl (ts : List T_Token) (hl : ts.length ≤ 1000000) : F13 ts ts = some true := by
  unfold F13
  rw [ite_f (by simp)]
  have h : iter (fun s : (Int) => F13_1_b ts ts s) FUEL (0 : Int) = some (.go ()) := by
    refine iter_eq (I := fun m s => ∃ i : Nat, i ≤ ts.length ∧ m = ts.length - i ∧ s = (i : Int)) _ ?_ (m := ts.length) ⟨0, by omega, by omega, rfl⟩ (by omega)
    rintro m s ⟨i, hi, rfl, rfl⟩
    show ∃ t, F13_1_b ts ts (i : Int) = some t ∧ _
    unfold F13_1_b
    by_cases hlt : i < ts.length
    · rw [ite_t (decide_eq_true (by omega)), idx_get hlt, Option.bind_some, Option.bind_some, ite_f (by simp)]
      exact ⟨_, rfl, ts.length - (i + 1), by omega, i + 1, by omega, rfl, wnat (by omega)⟩
    · rw [ite_f (decide_eq_false (by omega))]; exact ⟨_, rfl, rfl⟩
  rw [h]; rfl
theorem fill (c : Int) (n : Nat) (hn : n ≤ 1000000) : iter (fun s : ((List Int) × Int) => F5_1_b c (n : Int) s.1 s.2) FUEL (List.replicate n 0, (0 : Int)) = some (.go (List.replicate n c)) := by
  refine iter_eq (I := fun m s => ∃ i : Nat, i ≤ n ∧ m = n - i ∧ s = (List.replicate i c ++ List.replicate (n - i) 0, (i : Int))) _ ?_ (m := n) ⟨0, by omega, by omega, by simp⟩ (by omega)
  rintro m s ⟨i, hi, rfl, rfl⟩
  show ∃ t, F5_1_b c (n : Int) (List.replicate i c ++ List.replicate (n - i) 0) (i : Int) = some t ∧ _
  unfold F5_1_b
  by_cases hlt : i < n
  · rw [ite_t (decide_eq_true (by omega)), idx_get (by simp; omega), Option.bind_some, upd_nat (by simp; omega), Option.bind_some]
    refine ⟨_, rfl, n - (i + 1), by omega, i + 1, by omega, rfl, ?_⟩
    rw [wnat (by omega)]
    congr 1
    obtain ⟨k, hk⟩ : ∃ k, n - i = k + 1 := ⟨n - i - 1, by omega⟩
    rw [hk, List.set_append_right _ _ (by simp), List.length_replicate, Nat.sub_self, List.replicate_succ, List.set_cons_zero, show n - (i + 1) = k by omega, List.replicate_succ', List.append_assoc]; rfl
  · rw [ite_f (decide_eq_false (by omega))]
    refine ⟨_, rfl, ?_⟩
    have : n - i = 0 := by omega
    have h2 : i = n := by omega
    simp only [Ok, this, h2, List.replicate_zero, List.append_nil, Nat.sub_self]
theorem F11_short (x : List UInt8) : ∃ r, F11 x = some r ∧ r.1.length ≤ x.length + 1 := by
  unfold F11
  split
  · exact ⟨_, rfl, by simp⟩
  · cases h : scanR x with
    | error e => exact ⟨_, rfl, by simp⟩
    | ok ts =>
      refine ⟨_, rfl, ?_⟩
      obtain ⟨r, rfl, _, hr⟩ := scan_chain' (x.length + 1) (Nat.zero_le _) (by omega) h
      simpa using hr
where scan_chain' : ∀ (k : Nat) {l : List UInt8} {a : Nat} {acc ts : List (Nat × Nat × Nat)}, a ≤ l.length → l.length - a < k → scanF k l a acc = .ok ts → ∃ r, ts = acc ++ r ∧ True ∧ r.length ≤ l.length - a + 1
  | 0, _, _, _, _, _, h, _ => by omega
  | k + 1, l, a, acc, ts, ha, hk, h => by
    have hs := skipN_le (l.drop a)
    rw [List.length_drop] at hs
    unfold scanF at h
    split at h
    · cases h; exact ⟨_, rfl, trivial, by simp⟩
    · split at h
      · cases h
      · rename_i k' n ht
        have hok := tokF_ok ht
        rw [List.length_drop] at hok
        obtain ⟨r, rfl, _, hr⟩ := scan_chain' k (by omega) (by omega) h
        exact ⟨_, List.append_assoc _ _ _, trivial, by simp; omega⟩
theorem f5_j2 (c : UInt8) (m : Nat) (h0 : 32 < m) (h1 : m ≤ 65536) : F5_j2 (c.toNat : Int) ((m + 1 : Nat) : Int) = some true := by
  unfold F5_j2
  rw [made_nat (by omega) (by omega), Option.bind_some, fill _ _ (by omega)]
  simp only [Option.bind_some]
  have hz : (0 : Int) = ((0 : Nat) : Int) := rfl
  rw [hz, idx_get (by simp), Option.bind_some, upd_nat (by simp), Option.bind_some]
  have hb : (List.replicate (m + 1) (c.toNat : Int)).set 0 97 = nums (BL m c) := by
    rw [List.replicate_succ, List.set_cons_zero]
    simp [nums, BL]
  rw [hb, bstr_nums, Option.bind_some]
  obtain ⟨r, hr, hrl⟩ := F11_short (BL m c)
  have h12 : F12 (BL m c) = some r := by
    rcases f12_long (m := m) (c := c) with h | h | h
    · rw [h, hr]
    · rw [← hr]
      unfold F12 F11
      rw [ite_t (decide_eq_true (by rw [BL_len]; omega)), if_pos (by rw [BL_len]; omega)]
    · omega
  rw [hr, Option.bind_some, Option.bind_some, h12, Option.bind_some, ite_t (by simp), f13_refl _ (by rw [BL_len] at hrl; omega)]; rfl
theorem tokLong (more : Int) (c : UInt8) : F5 more (c.toNat : Int) = some true := by
  have key : ∀ n : Nat, 32 < n → n ≤ 65536 → F5_j1 more (c.toNat : Int) ((n + 1 : Nat) : Int) = some true := by
    intro n h0 h1
    unfold F5_j1
    split
    · exact f5_j2 c 65536 (by omega) (by omega)
    · exact f5_j2 c n h0 h1
  unfold F5
  simp only [F10, Option.bind_some, Bool.not_true, Bool.false_eq_true, if_false]
  split
  · exact key 65535 (by omega) (by omega)
  · exact key 65534 (by omega) (by omega)
end Go.Eng.Tok
