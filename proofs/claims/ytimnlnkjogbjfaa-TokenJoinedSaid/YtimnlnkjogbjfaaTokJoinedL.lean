/- The statement of TokenJoined, of plain functions (no condition). -/
import Derived.Test.YtimnlnkjogbjfaaTokJoinedP
import Derived.Test.YtimnlnkjogbjfaaTokF
import Derived.Test.YtimnlnkjogbjfaaEngP
namespace Go.Eng.Tok
open Go Go.Eng
set_option linter.unusedVariables false
set_option linter.unusedSimpArgs false

theorem chain_get {l : List UInt8} : ∀ (ts : List (Nat × Nat × Nat)) (a : Nat), Chain l a ts → ∀ (i : Nat) (t : Nat × Nat × Nat), ts[i]? = some t → t.2.1 ≤ t.2.2 ∧ t.2.2 ≤ l.length
  | [], _, h, _, _, _ => h.elim
  | t :: ts, a, ⟨hal, hc⟩, i, u, hu => by
    split at hc
    · obtain ⟨rfl, rfl⟩ := hc
      cases i with
      | zero => simp at hu; subst hu; exact ⟨Nat.le_refl _, Nat.le_refl _⟩
      | succ i => simp at hu
    · obtain ⟨k', n, ht, rfl, hc⟩ := hc
      have hok := tokF_ok ht
      rw [List.length_drop] at hok
      cases i with
      | zero => simp at hu; subst hu; exact ⟨by dsimp only; omega, by dsimp only; omega⟩
      | succ i => exact chain_get ts _ hc i u (by simpa using hu)
theorem pieces_take {l g : List UInt8} (ts : List (Nat × Nat × Nat)) (i : Nat) : (pieces l g (ts.take i)).length ≤ (pieces l g ts).length := by
  have : pieces l g ts = pieces l g (ts.take i) ++ pieces l g (ts.drop i) := by unfold pieces; rw [← List.flatMap_append, List.take_append_drop]
  rw [this, List.length_append]; omega
theorem F11_ok {l : List UInt8} {ts : List (Nat × Nat × Nat)} (hl : l.length ≤ 65536) (h : scanR l = .ok ts) : F11 l = some (ts.map tkT, ⟨0, 0⟩) := by
  unfold F11; rw [if_neg (by omega), h]
theorem F11_err {l : List UInt8} {e : Nat} (hl : l.length ≤ 65536) (h : scanR l = .error e) : F11 l = some ([], ⟨120, (e : Int)⟩) := by
  unfold F11; rw [if_neg (by omega), h]

theorem loop1 {l g : List UInt8} {ts : List (Nat × Nat × Nat)} {f : T_Fault} (hc : Chain l 0 ts) (hl : (pieces l g ts).length ≤ 1000000) (hn : ts.length ≤ 1000000) :
    iter (fun s : ((List Int) × Int) => F7_1_b l (ts.map tkT, f) g s.1 s.2) FUEL ([], (0 : Int)) = some (.go (nums (pieces l g ts))) := by
  refine iter_eq (I := fun m s => ∃ i : Nat, i ≤ ts.length ∧ m = ts.length - i ∧ s = (nums (pieces l g (ts.take i)), (i : Int))) _ ?_ (m := ts.length) ⟨0, by omega, by omega, rfl⟩ (by omega)
  rintro m s ⟨i, hi, rfl, rfl⟩
  show ∃ t, F7_1_b l (ts.map tkT, f) g (nums (pieces l g (ts.take i))) (i : Int) = some t ∧ _
  unfold F7_1_b
  by_cases hlt : i < ts.length
  · have hti : ts[i]? = some ts[i] := List.getElem?_eq_getElem hlt
    have hmi : (ts.map tkT)[i]? = some (tkT ts[i]) := by rw [List.getElem?_map, hti]; rfl
    obtain ⟨g1, g2⟩ := chain_get ts 0 hc i _ hti
    rw [ite_t (by simpa using hlt), idx_some hmi, Option.bind_some, Option.bind_some]
    show ∃ t, ((part l ((ts[i].2.1 : Nat) : Int) ((ts[i].2.2 : Nat) : Int)).bind _) = some t ∧ _
    have hpt : pieces l g (ts.take (i + 1)) = pieces l g (ts.take i) ++ piece l g ts[i] := by
      unfold pieces
      rw [List.take_add_one, List.flatMap_append, hti]; simp
    have hle := pieces_take (l := l) (g := g) ts (i + 1)
    rw [hpt, List.length_append, piece, List.length_append] at hle
    rw [part_nat g1 g2, Option.bind_some, more_nat (r := List.map _ _) (by rw [nums_len, List.length_map]; omega), Option.bind_some, more_nat (r := List.map _ _) (by rw [List.length_append, nums_len, List.length_map, List.length_map]; omega), Option.bind_some]
    refine ⟨_, rfl, ts.length - (i + 1), by omega, i + 1, by omega, rfl, ?_⟩
    rw [wnat (by omega), hpt]
    simp only [nums, piece, List.map_append, List.append_assoc]
  · rw [ite_f (by simpa using hlt)]
    refine ⟨_, rfl, ?_⟩
    have : i = ts.length := by omega
    subst this
    simp only [Ok, List.take_length]
theorem loop2 {l g : List UInt8} {ts us : List (Nat × Nat × Nat)} {f f' : T_Fault} (hc : Chain l 0 ts) (hn : ts.length ≤ 1000000) (hus : us.length = ts.length)
    (h : ∀ (i : Nat) (t u : Nat × Nat × Nat), i + 1 < ts.length → ts[i]? = some t → us[i]? = some u → u.1 = t.1 ∧ u.2.1 ≤ u.2.2 ∧ u.2.2 ≤ (pieces l g ts).length ∧ ((pieces l g ts).drop u.2.1).take (u.2.2 - u.2.1) = (l.drop t.2.1).take (t.2.2 - t.2.1)) :
    iter (fun s : (Int) => F7_2_b l (ts.map tkT, f) (nums (pieces l g ts)) (us.map tkT, f') s) FUEL (0 : Int) = some (.go ()) := by
  refine iter_eq (I := fun m s => ∃ i : Nat, i ≤ ts.length ∧ m = ts.length - i ∧ s = (i : Int)) _ ?_ (m := ts.length) ⟨0, by omega, by omega, rfl⟩ (by omega)
  rintro m s ⟨i, hi, rfl, rfl⟩
  show ∃ t, F7_2_b l (ts.map tkT, f) (nums (pieces l g ts)) (us.map tkT, f') (i : Int) = some t ∧ _
  unfold F7_2_b
  rw [wnat (by omega)]
  by_cases hlt : i + 1 < ts.length
  · have hti : ts[i]? = some ts[i] := List.getElem?_eq_getElem (by omega)
    have hui : us[i]? = some us[i] := List.getElem?_eq_getElem (by omega)
    obtain ⟨g1, g2⟩ := chain_get ts 0 hc i _ hti
    obtain ⟨e1, e2, e3, e4⟩ := h i _ _ hlt hti hui
    have hmi : (ts.map tkT)[i]? = some (tkT ts[i]) := by rw [List.getElem?_map, hti]; rfl
    have hni : (us.map tkT)[i]? = some (tkT us[i]) := by rw [List.getElem?_map, hui]; rfl
    rw [ite_t (by rw [List.length_map]; exact decide_eq_true (by omega)), idx_some hmi, idx_some hni]
    simp only [Option.bind_some]
    rw [ite_f (by show (((us[i].1 : Nat) : Int) != ((ts[i].1 : Nat) : Int)) = false; rw [e1]; simp)]
    show ∃ t, ((part (nums (pieces l g ts)) ((us[i].2.1 : Nat) : Int) ((us[i].2.2 : Nat) : Int)).bind _) = some t ∧ _
    rw [part_nat e2 (by rw [nums_len]; exact e3), Option.bind_some]
    have hb : ((nums (pieces l g ts)).drop us[i].2.1).take (us[i].2.2 - us[i].2.1) = nums (((pieces l g ts).drop us[i].2.1).take (us[i].2.2 - us[i].2.1)) := by
      simp only [nums, List.map_take, List.map_drop]
    rw [hb, bstr_nums, Option.bind_some]
    show ∃ t, ((part l ((ts[i].2.1 : Nat) : Int) ((ts[i].2.2 : Nat) : Int)).bind _) = some t ∧ _
    rw [part_nat g1 g2, Option.bind_some, e4]
    rw [ite_f (by simp)]
    exact ⟨_, rfl, ts.length - (i + 1), by omega, i + 1, by omega, rfl, rfl⟩
  · rw [ite_f (by rw [List.length_map]; exact decide_eq_false (by omega))]
    exact ⟨_, rfl, rfl⟩
theorem tokJoined (l : List UInt8) (rm : Bool) : F7 l rm = some true := by
  unfold F7
  simp only [F10, Option.bind_some, Bool.not_true, Bool.false_eq_true, if_false]
  by_cases hbig : l.length > 8000
  · rw [if_pos (decide_eq_true (by omega))]
  rw [if_neg (by rw [decide_eq_true_eq]; omega)]
  cases hs : scanR l with
  | error e => rw [F11_err (by omega) hs]; rfl
  | ok ts =>
    rw [F11_ok (by omega) hs]
    obtain ⟨r, rfl, hc, hr⟩ := scan_chain _ (Nat.zero_le _) (by omega) hs
    have key : ∀ g, Gap g → g ≠ [] → g.length ≤ 6 → F7_j1 l (ts.map tkT, ⟨0, 0⟩) g = some true := by
      intro g hg hgn hgl
      have hpl := chain_len (g := g) ts 0 hc
      have : ts.length * g.length ≤ 8001 * 6 := Nat.mul_le_mul (by omega) hgl
      obtain ⟨us, h1, h2, h3⟩ := joined_all hg hgn hc
      unfold F7_j1
      rw [loop1 hc (by omega) (by omega)]
      simp only [Option.bind_some]
      rw [bstr_nums, Option.bind_some, F11_ok (by omega) h1, Option.bind_some]
      rw [ite_f (by rfl)]
      rw [ite_f (by simp [h2])]
      rw [loop2 hc (by omega) h2 h3]
      rfl
    show (if rm = true then F7_j1 l (ts.map tkT, ⟨0, 0⟩) _ else F7_j1 l (ts.map tkT, ⟨0, 0⟩) _) = _
    cases rm with
    | true => exact key _ gap2 (by simp) (by simp)
    | false => exact key _ gap1 (by simp) (by simp)
end Go.Eng.Tok
