/- Scan: what it comes to (no condition). -/
import Derived.Test.YtimnlnkjogbjfaaTokD
namespace Go.Eng.Tok
open Go Go.Eng
set_option linter.unusedVariables false
set_option linter.unusedSimpArgs false
set_option maxHeartbeats 8000000
set_option maxRecDepth 10000

/-- a token at the beginning of what is left -/
def tokF (l : List UInt8) : Tk :=
  match l with
  | [] => .error 0
  | x :: _ => if kd x = 2 then nameF l else if kd x = 3 then litF l else if kd x = 4 then signF l else .error 0
def scanF : Nat → List UInt8 → Nat → List (Nat × Nat × Nat) → Except Nat (List (Nat × Nat × Nat))
  | 0, _, _, acc => .ok acc
  | k + 1, l, a, acc =>
    if a + skipN (l.drop a) = l.length then .ok (acc ++ [(1, a + skipN (l.drop a), a + skipN (l.drop a))])
    else match tokF (l.drop (a + skipN (l.drop a))) with
      | .error e => .error (a + skipN (l.drop a) + e)
      | .ok (kd, n) => scanF k l (a + skipN (l.drop a) + n) (acc ++ [(kd, a + skipN (l.drop a), a + skipN (l.drop a) + n)])
def scanR (l : List UInt8) : Except Nat (List (Nat × Nat × Nat)) := scanF (l.length + 1) l 0 []
def tokC (t : Nat × Nat × Nat) : List V := [.int .u8 (t.1 : Int), .int .i64 (t.2.1 : Int), .int .i64 (t.2.2 : Int)]
def tokV (t : Nat × Nat × Nat) : V := .ag (tokC t)
def scanV (l : List UInt8) : V :=
  if 65536 < l.length then .tup [.fz [], .ag [.int .i64 3, .int .i64 0]] else
  match scanR l with
  | .error e => .tup [.fz [], .ag [.int .i64 120, .int .i64 (e : Int)]]
  | .ok ts => .tup [.fz (ts.map tokV), .ag [.int .i64 0, .int .i64 0]]

theorem tailF_ok {l : List UInt8} {n k m : Nat} (h : tailF l n = .ok (k, m)) : k = 5 ∧ m = n := by
  unfold tailF at h
  split at h
  · cases h
  · split at h
    · cases h
    · cases h; exact ⟨rfl, rfl⟩
theorem expF_ok {l : List UInt8} {n k m : Nat} (hn : n ≤ l.length) (h : expF l n = .ok (k, m)) : k = 5 ∧ n ≤ m ∧ m ≤ l.length := by
  have := row_le [3] l hn
  unfold expF at h
  split at h
  · cases h
  · obtain ⟨h1, h2⟩ := tailF_ok h; omega
theorem floF_ok {l : List UInt8} {n k m : Nat} (hn : n ≤ l.length) (h : floF l n = .ok (k, m)) : k = 5 ∧ n ≤ m ∧ m ≤ l.length := by
  have := row_le [3] l hn
  unfold floF at h
  split at h
  · cases h
  · split at h
    · rename_i h1
      have h1 := pre_lt h1
      split at h
      · rename_i h2
        have h2 := pre_lt h2
        have := expF_ok (by omega) h; omega
      · split at h
        · rename_i h2
          have h2 := pre_lt h2
          have := expF_ok (by omega) h; omega
        · have := expF_ok (by omega) h; omega
    · obtain ⟨h1, h2⟩ := tailF_ok h; omega
theorem litF_ok {l : List UInt8} {k m : Nat} (hd : 0 < rowN [3] l) (h : litF l = .ok (k, m)) : 0 < k ∧ 0 < m ∧ m ≤ l.length := by
  have h0 := row_le [3] l (Nat.zero_le _)
  rw [List.drop_zero] at h0
  have h1 := row_le [2, 3] l (p := rowN [3] l) (by omega)
  unfold litF at h
  split at h
  · rename_i h2
    have h2 := pre_lt h2
    have := floF_ok (by omega) h; omega
  · split at h
    · cases h; omega
    · cases h
theorem two_le {l : List UInt8} (h : twoB l = true) : 2 ≤ l.length := by
  obtain ⟨w, hw, hp⟩ := List.any_eq_true.1 h
  have := (List.isPrefixOf_iff_prefix.1 hp).length_le
  have h2 : ∀ w ∈ TWOS, w.length = 2 := by decide
  have := h2 w hw
  omega
theorem tokF_ok {l : List UInt8} {k m : Nat} (h : tokF l = .ok (k, m)) : 0 < k ∧ 0 < m ∧ m ≤ l.length := by
  match l with
  | [] => cases h
  | x :: t =>
    have e0 : (x :: t) = (x :: t).drop 0 := rfl
    simp only [tokF] at h
    split at h
    · rename_i hk
      have hr : 0 < rowN [2, 3] (x :: t) := by rw [e0, rowN_yes (by simp) (by simp [hk])]; omega
      have := rowN_le [2, 3] (x :: t)
      unfold nameF at h
      split at h
      · cases h
      · cases h
        refine ⟨by split <;> omega, hr, this⟩
    · split at h
      · rename_i hk
        exact litF_ok (by rw [e0, rowN_yes (by simp) (by simp [hk])]; omega) h
      · split at h
        · unfold signF at h
          cases h
          refine ⟨by omega, by split <;> omega, ?_⟩
          split
          · rename_i h2; exact two_le h2
          · simp
        · cases h
theorem scanF_more : ∀ (k m : Nat) (l : List UInt8) (a : Nat) (acc : List (Nat × Nat × Nat)), a ≤ l.length → l.length - a < k → l.length - a < m → scanF k l a acc = scanF m l a acc
  | 0, _, _, _, _, _, h, _ => by omega
  | _, 0, _, _, _, _, _, h => by omega
  | k + 1, m + 1, l, a, acc, ha, h1, h2 => by
    have hs := skipN_le (l.drop a)
    rw [List.length_drop] at hs
    unfold scanF
    split
    · rfl
    · split
      · rfl
      · rename_i ht
        have := tokF_ok ht
        rw [List.length_drop] at this
        exact scanF_more k m l _ _ (by omega) (by omega) (by omega)

def ARR : List V := [.int .i64 2, .bm 17 [.ptr 1 0 0], .int .i64 3, .bm 18 [.ptr 1 0 0], .int .i64 4, .bm 19 [.ptr 1 0 0]]
/-- the heap while Scan runs -/
structure SI (H : Heap) (l : List UInt8) (a b : Int) (v : V) (ts : List (Nat × Nat × Nat)) (tb : Nat) (tc : List V) : Prop where
  f0 : H[0]? = some (0, [.int .i64 0, .int .i64 0])
  f1 : H[1]? = some (cut l a b)
  f2 : H[2]? = some (0, ARR)
  ft : tb = 0 ∨ (3 ≤ tb ∧ H[tb]? = some (0, tc))
  out : (v = .nils ∧ ts = []) ∨ ∃ c g, 3 ≤ c ∧ c ≠ tb ∧ v = .sl c g 0 ts.length 3 true ∧ H[c]? = some (g, ts.flatMap tokC)
theorem get_app {H : Heap} {c : Nat} {x : Nat × List V} (h : H[c]? = some x) (y : Nat × List V) : (H ++ [y])[c]? = some x := by
  rw [List.getElem?_append_left (List.getElem?_eq_some_iff.mp h).1]; exact h
theorem SI.app {H : Heap} {l : List UInt8} {a b : Int} {v : V} {ts : List (Nat × Nat × Nat)} {tb : Nat} {tc : List V} (S : SI H l a b v ts tb tc) (x : Nat × List V) : SI (H ++ [x]) l a b v ts tb tc :=
  ⟨get_app S.f0 x, get_app S.f1 x, get_app S.f2 x, S.ft.imp id (fun h => ⟨h.1, get_app h.2 x⟩), S.out.imp id (fun ⟨c, g, h1, h2, h3, h4⟩ => ⟨c, g, h1, h2, h3, get_app h4 x⟩)⟩
theorem set_ne {H : Heap} {c d : Nat} {x : Nat × List V} (h : H[c]? = some x) (hd : d ≠ c) (y : Nat × List V) : (H.set d y)[c]? = some x := by rw [List.getElem?_set_ne hd]; exact h
theorem SI.set1 {H : Heap} {l : List UInt8} {a b : Int} {v : V} {ts : List (Nat × Nat × Nat)} {tb : Nat} {tc : List V} (S : SI H l a b v ts tb tc) (a' b' : Int) : SI (H.set 1 (cut l a' b')) l a' b' v ts tb tc :=
  ⟨set_ne S.f0 (by omega) _, get_set S.f1 _, set_ne S.f2 (by omega) _, S.ft.imp id (fun h => ⟨h.1, set_ne h.2 (by omega) _⟩), S.out.imp id (fun ⟨c, g, h1, h2, h3, h4⟩ => ⟨c, g, h1, h2, h3, set_ne h4 (by omega) _⟩)⟩
theorem SI.setT {H : Heap} {l : List UInt8} {a b : Int} {v : V} {ts : List (Nat × Nat × Nat)} {tb : Nat} {tc : List V} (S : SI H l a b v ts tb tc) (h3 : 3 ≤ tb) (tc' : List V) : SI (H.set tb (0, tc')) l a b v ts tb tc' :=
  ⟨set_ne S.f0 (by omega) _, set_ne S.f1 (by omega) _, set_ne S.f2 (by omega) _, .inr ⟨h3, get_set (S.ft.resolve_left (by omega)).2 _⟩, S.out.imp id (fun ⟨c, g, h1, h2, h3, h4⟩ => ⟨c, g, h1, h2, h3, set_ne h4 (Ne.symm h2) _⟩)⟩
theorem SI.newT {H : Heap} {l : List UInt8} {a b : Int} {v : V} {ts : List (Nat × Nat × Nat)} {tb : Nat} {tc : List V} (S : SI H l a b v ts tb tc) (tc' : List V) : SI (H ++ [(0, tc')]) l a b v ts H.length tc' :=
  have h3 : 3 ≤ H.length := (List.getElem?_eq_some_iff.mp S.f2).1
  ⟨get_app S.f0 _, get_app S.f1 _, get_app S.f2 _, .inr ⟨h3, by simp⟩, S.out.imp id (fun ⟨c, g, h1, h2, h3, h4⟩ => ⟨c, g, h1, by have := (List.getElem?_eq_some_iff.mp h4).1; omega, h3, get_app h4 _⟩)⟩
theorem SI.noT {H : Heap} {l : List UInt8} {a b : Int} {v : V} {ts : List (Nat × Nat × Nat)} {tb : Nat} {tc : List V} (S : SI H l a b v ts tb tc) : SI H l a b v ts 0 [] :=
  ⟨S.f0, S.f1, S.f2, .inl rfl, S.out.imp id (fun ⟨c, g, h1, h2, h3, h4⟩ => ⟨c, g, h1, by omega, h3, h4⟩)⟩
theorem toks_len (ts : List (Nat × Nat × Nat)) : (ts.flatMap tokC).length = ts.length * 3 := by
  induction ts with
  | nil => rfl
  | cons t ts ih => rw [List.flatMap_cons, List.length_append, ih]; simp [tokC]; omega
theorem SI.push {H : Heap} {l : List UInt8} {a b : Int} {v : V} {ts : List (Nat × Nat × Nat)} {tb : Nat} {tc : List V} (S : SI H l a b v ts tb tc) (hl : ts.length ≤ 1048576) (t : Nat × Nat × Nat) :
    ∃ v' H', appV H v (.fz [.ag (tokC t)]) 3 true 24 = some (v', H') ∧ SI H' l a b v' (ts ++ [t]) 0 [] := by
  have hn : newCells H (.fz [.ag (tokC t)]) 3 = some (tokC t, 1) := rfl
  have hc : (tokC t).all V.isCell = true := rfl
  have hlen : 3 ≤ H.length := (List.getElem?_eq_some_iff.mp S.f2).1
  rcases S.out with ⟨rfl, rfl⟩ | ⟨c, g, h1, h2, rfl, h4⟩
  · refine ⟨.sl H.length 0 0 1 3 true, H ++ [(0, tokC t)], ?_, ?_⟩
    · simp only [appV, hn, Option.bind_some, hc]; rfl
    · exact ⟨get_app S.f0 _, get_app S.f1 _, get_app S.f2 _, .inl rfl, .inr ⟨H.length, 0, hlen, by omega, rfl, by simp⟩⟩
  · refine ⟨.sl c (g + 1) 0 (ts.length + 1) 3 true, H.set c (g + 1, ts.flatMap tokC ++ tokC t), ?_, ?_⟩
    · have hcond : True ∧ 0 + ts.length * 3 ≤ (ts.flatMap tokC).length ∧ (ts.length + 1) * 24 ≤ 140737488355328 := ⟨trivial, by rw [toks_len]; omega, by omega⟩
      simp only [appV, hn, Option.bind_some, hc, rdB_of h4, Bool.not_true, Bool.false_eq_true, if_false]
      rw [if_pos hcond, List.drop_zero, List.take_of_length_le (by rw [toks_len]; omega)]
    · exact ⟨set_ne S.f0 (by omega) _, set_ne S.f1 (by omega) _, set_ne S.f2 (by omega) _, .inl rfl, .inr ⟨c, g + 1, h1, by omega, by simp, by rw [get_set h4]; simp⟩⟩
theorem rows_three : ∀ (ts : List (Nat × Nat × Nat)), rows 3 ts.length (ts.flatMap tokC) = ts.map tokC
  | [] => rfl
  | t :: ts => by
    rw [List.length_cons, rows, List.flatMap_cons, List.map_cons]
    show List.take 3 (tokC t ++ ts.flatMap tokC) :: rows 3 ts.length ((tokC t ++ ts.flatMap tokC).drop 3) = _
    rw [List.take_append_of_le_length (by simp [tokC]), List.drop_append_of_le_length (by simp [tokC]), List.take_of_length_le (by simp [tokC]), List.drop_of_length_le (by simp [tokC]), List.nil_append, rows_three ts]
theorem deep_toks {H : Heap} {c g : Nat} {ts : List (Nat × Nat × Nat)} (h : H[c]? = some (g, ts.flatMap tokC)) (n : Nat) : deep false H (n + 2) (.sl c g 0 ts.length 3 true) = some (.fz (ts.map tokV)) := by
  rw [deep_sl, rdB_of h, Option.bind_some, if_pos ⟨by rw [toks_len]; omega, by omega, .inl rfl⟩, List.drop_zero, rows_three]
  have : ∀ ts : List (Nat × Nat × Nat), omap (drow (deep false H (n + 1)) true) (ts.map tokC) = some (ts.map tokV) := by
    intro ts
    induction ts with
    | nil => rfl
    | cons t ts ih => simp only [List.map_cons, omap, ih]; rfl
  rw [this]; rfl
theorem idx_arr {q : Nat} (h : q < 3) : idxgV (.ag ARR) (.int .i64 (q : Int)) 3 2 (some 2) = some (.ag [.int .i64 ((q + 2 : Nat) : Int), .bm (17 + q) [.ptr 1 0 0]]) := by
  match q, h with
  | 0, _ | 1, _ | 2, _ => rfl
theorem st_new2 (H : Heap) (x y : V) (k : Int) (f : Nat) (cs : List V) : stV (H ++ [(0, [x, y])]) (.ptr H.length 0 0) (.ag [.int .i64 k, .bm f cs]) (some 2) = some (H ++ [(0, [.int .i64 k, .bm f cs])]) := by
  have hr : rdB (H ++ [(0, [x, y])]) H.length 0 = some [x, y] := rdB_of (by simp)
  simp only [stV, hr, Option.bind_some]
  show some ((H ++ [(0, [x, y])]).set H.length _) = _
  rw [List.set_append_right _ _ (Nat.le_refl _), Nat.sub_self]; rfl
theorem by_q {H : Heap} {l : List UInt8} {p q : Nat} (hq : q < 3) (h : H[1]? = some (cut l (p : Int) (-1))) (hp : p < l.length) (hl : l.length ≤ 1048576) (hk : kd l[p] = q + 2) :
    Fn T (17 + q) [.ptr 1 0 0] H (Took H 1 l p (tokF (l.drop p))) := by
  have e : l.drop p = l[p] :: l.drop (p + 1) := List.drop_eq_getElem_cons hp
  match q, hq, hk with
  | 0, _, hk =>
    have : tokF (l.drop p) = nameF (l.drop p) := by rw [e]; simp only [tokF, hk, if_true]
    rw [this]; exact name h (by omega) hl
  | 1, _, hk =>
    have : tokF (l.drop p) = litF (l.drop p) := by rw [e]; simp only [tokF, hk]; rfl
    rw [this]; exact literal h (by omega) hl
  | 2, _, hk =>
    have : tokF (l.drop p) = signF (l.drop p) := by rw [e]; simp only [tokF, hk]; rfl
    rw [this]; exact sign h hp hl
theorem tokF_none {l : List UInt8} {p : Nat} (hp : p < l.length) (h : ∀ j, j < 3 → kd l[p] ≠ j + 2) : tokF (l.drop p) = .error 0 := by
  rw [List.drop_eq_getElem_cons hp]
  simp only [tokF]
  rw [if_neg (h 0 (by omega)), if_neg (h 1 (by omega)), if_neg (h 2 (by omega))]
/-- behind a cut, or ahead of it -/
def Cutd (H : Heap) (l : List UInt8) (p : Nat) (v : V) (ts : List (Nat × Nat × Nat)) (tb : Nat) : Prop :=
  match tokF (l.drop p) with
  | .ok (k, n) => SI H l ((p + n : Nat) : Int) (-1) v ts tb [.int .u8 (k : Int), .int .i64 (p : Int), .int .i64 0]
  | .error e => ∃ k : Nat, 0 < k ∧ ∃ a' : Int, SI H l a' ((p + e : Nat) : Int) v ts tb [.int .u8 (k : Int), .int .i64 (p : Int), .int .i64 0]
theorem Cutd.app {H : Heap} {l : List UInt8} {p : Nat} {v : V} {ts : List (Nat × Nat × Nat)} {tb : Nat} (C : Cutd H l p v ts tb) (x : Nat × List V) : Cutd (H ++ [x]) l p v ts tb := by
  unfold Cutd at *
  split
  · rename_i h; rw [h] at C; exact C.app x
  · rename_i h; rw [h] at C
    obtain ⟨k, h1, a', S⟩ := C
    exact ⟨k, h1, a', S.app x⟩
theorem Cutd.si {H : Heap} {l : List UInt8} {p : Nat} {v : V} {ts : List (Nat × Nat × Nat)} {tb : Nat} (C : Cutd H l p v ts tb) : ∃ (a b : Int) (k : Nat), 0 < k ∧ SI H l a b v ts tb [.int .u8 (k : Int), .int .i64 (p : Int), .int .i64 0] := by
  unfold Cutd at C
  split at C
  · rename_i h; exact ⟨_, _, _, (tokF_ok h).1, C⟩
  · obtain ⟨k, h1, a', S⟩ := C; exact ⟨_, _, k, h1, S⟩

theorem deep_pair {H : Heap} {n : Nat} {x y u w : V} (hx : deep false H n x = some u) (hy : deep false H n y = some w) : deep false H (n + 1) (.tup [x, y]) = some (.tup [u, w]) := by
  simp only [deep, omap, hx, hy, Option.map_some]
theorem deep_f (H : Heap) (n : Nat) (x y : Int) : deep false H (n + 2) (.ag [.int .i64 x, .int .i64 y]) = some (.ag [.int .i64 x, .int .i64 y]) := rfl
theorem ld_tok {H : Heap} {tb : Nat} {k p e : V} (h : H[tb]? = some (0, [k, p, e])) : ldV H (.ptr tb 0 0) none = some k ∧ ldV H (.ptr tb 0 1) none = some p ∧ ldV H (.ptr tb 0 0) (some 3) = some (.ag [k, p, e]) := by
  refine ⟨?_, ?_, ?_⟩ <;> (simp only [ldV, rdB_of h, Option.bind_some]; rfl)
theorem st_tok0 {H : Heap} {tb : Nat} {k p e : V} (h : H[tb]? = some (0, [k, p, e])) (x : Nat) : stV H (.ptr tb 0 0) (.int .u8 (x : Int)) none = some (H.set tb (0, [.int .u8 (x : Int), p, e])) := by
  simp only [stV, rdB_of h, Option.bind_some]; rfl
theorem st_tok2 {H : Heap} {tb : Nat} {k p e : V} (h : H[tb]? = some (0, [k, p, e])) (x : Int) : stV H (.ptr tb 0 2) (.int .i64 x) none = some (H.set tb (0, [k, p, .int .i64 x])) := by
  simp only [stV, rdB_of h, Option.bind_some]; rfl
theorem st_new3 (H : Heap) (x y z : V) (k p e : Int) : stV (H ++ [(0, [x, y, z])]) (.ptr H.length 0 0) (.ag [.int .u8 k, .int .i64 p, .int .i64 e]) (some 3) = some (H ++ [(0, [.int .u8 k, .int .i64 p, .int .i64 e])]) := by
  have hr : rdB (H ++ [(0, [x, y, z])]) H.length 0 = some [x, y, z] := rdB_of (by simp)
  simp only [stV, hr, Option.bind_some]
  show some ((H ++ [(0, [x, y, z])]).set H.length _) = _
  rw [List.set_append_right _ _ (Nat.le_refl _), Nat.sub_self]; rfl
theorem ld_x {H : Heap} (k : Int) (f : V) : ldV (H ++ [(0, [.int .i64 k, f])]) (.ptr H.length 0 0) none = some (.int .i64 k) := by
  have hr : rdB (H ++ [(0, [V.int .i64 k, f])]) H.length 0 = some [.int .i64 k, f] := rdB_of (by simp)
  simp only [ldV, hr, Option.bind_some]; rfl
theorem ld_y {H : Heap} (k f : V) : ldV (H ++ [(0, [k, f])]) (.ptr H.length 0 1) none = some f := by
  have hr : rdB (H ++ [(0, [k, f])]) H.length 0 = some [k, f] := rdB_of (by simp)
  simp only [ldV, hr, Option.bind_some]; rfl
theorem ld_arr {H : Heap} (h : H[2]? = some (0, ARR)) : ldV H (.ptr 2 0 0) (some 6) = some (.ag ARR) := by
  simp only [ldV, rdB_of h, Option.bind_some]; rfl
theorem st_f {H : Heap} (h : H[0]? = some (0, [.int .i64 0, .int .i64 0])) (x y : Int) : stV H (.ptr 0 0 0) (.ag [.int .i64 x, .int .i64 y]) (some 2) = some (H.set 0 (0, [.int .i64 x, .int .i64 y])) := by
  simp only [stV, rdB_of h, Option.bind_some]; rfl
theorem ld_f {H : Heap} {x y : V} (h : H[0]? = some (0, [x, y])) : ldV H (.ptr 0 0 0) (some 2) = some (.ag [x, y]) := by
  simp only [ldV, rdB_of h, Option.bind_some]; rfl
theorem scan (l : List UInt8) : Fn T 11 [.str ⟨l.toArray⟩] [] (fun r h => deep false h deepN r = some (scanV l)) := by
  refine Fn.enterC t11 rfl ?_
  simp only [i11, List.length_cons, List.length_nil, Nat.reduceAdd, Nat.reduceSub, List.replicate_succ, List.replicate_zero, List.cons_append, List.nil_append]
  refine Run.seqr ?_; simp only [i11r0, exOps_nil, exOps_cons, bindO_some, mapQ_some, mapW_some, x_mov, x_pick, x_bin, x_un, x_cvt, x_ld, x_b2s, x_idxa, x_idxs, x_idxg, x_mkm, x_ixb, x_fld, x_flda, x_boxf, x_boxr, x_bld, x_bslf, x_slc, x_len, x_ext, x_nchk, x_mkf, x_mki, x_fbin, x_fneg, x_i2f, x_f2i, x_xc, x_eqs, xl_ld, xl_b2s, x_st, x_boxh, x_alloc, x_bslh, x_mks, x_app, exOp_gt, exOp_gf, exOp_gf2, exOp_gs, put_some, put_none, ev_t, ev_c, List.getD_cons_zero, List.getD_cons_succ, List.set_cons_zero, List.set_cons_succ, Option.map_some, Option.map_none, optB_some, if_true, Bool.false_eq_true, if_false, ne_eq, reduceCtorEq, not_false_eq_true, not_true_eq_false, Bool.true_eq_false, len_vis, lenV_fz, lenV_sl, lenV_nils, lenV_str, binV, intB, unV, ld_fp_int, ld_fp_bool, ld_fp_str, ld_fp_fz, ld_fp_vis, ld_fp_sl, ld_fp_nils, ld_fp_ptr, ld_fp_fpp, ld_fp_nilp, ld_bx_int, ld_bx_bool, ld_bx_str, ld_bx_fz, ld_bx_vis, ld_bx_sl, ld_bx_nils, ld_bx_ptr, ld_bx_fpp, ld_bx_nilp, List.length_cons, List.length_nil, beq_self_eq_true, Bool.and_self, Bool.and_true, Bool.true_and, List.length_nil, List.nil_append]
  refine Run.seq (Run.seq ?_)
  by_cases hbig : 65536 < l.length
  · refine Run.rgn (RunO.all ?_); simp only [i11r1, exOps_nil, exOps_cons, bindO_some, mapQ_some, mapW_some, x_mov, x_pick, x_bin, x_un, x_cvt, x_ld, x_b2s, x_idxa, x_idxs, x_idxg, x_mkm, x_ixb, x_fld, x_flda, x_boxf, x_boxr, x_bld, x_bslf, x_slc, x_len, x_ext, x_nchk, x_mkf, x_mki, x_fbin, x_fneg, x_i2f, x_f2i, x_xc, x_eqs, xl_ld, xl_b2s, x_st, x_boxh, x_alloc, x_bslh, x_mks, x_app, exOp_gt, exOp_gf, exOp_gf2, exOp_gs, put_some, put_none, ev_t, ev_c, List.getD_cons_zero, List.getD_cons_succ, List.set_cons_zero, List.set_cons_succ, Option.map_some, Option.map_none, optB_some, if_true, Bool.false_eq_true, if_false, ne_eq, reduceCtorEq, not_false_eq_true, not_true_eq_false, Bool.true_eq_false, len_vis, lenV_fz, lenV_sl, lenV_nils, lenV_str, binV, intB, unV, ld_fp_int, ld_fp_bool, ld_fp_str, ld_fp_fz, ld_fp_vis, ld_fp_sl, ld_fp_nils, ld_fp_ptr, ld_fp_fpp, ld_fp_nilp, ld_bx_int, ld_bx_bool, ld_bx_str, ld_bx_fz, ld_bx_vis, ld_bx_sl, ld_bx_nils, ld_bx_ptr, ld_bx_fpp, ld_bx_nilp, List.length_cons, List.length_nil, beq_self_eq_true, Bool.and_self, Bool.and_true, Bool.true_and, len_st, st_size, decide_eq_true (show (l.length : Int) > 65536 by omega)]
    refine Run.ite (by rfl) (fun _ => ?_) (fun h => by cases h)
    have b1 : bldV [.int .i64 0, .int .i64 0] [(0, 1, .int .i64 3)] = some (.ag [.int .i64 3, .int .i64 0]) := rfl
    refine Run.seqr ?_; simp only [i11r2, exOps_nil, exOps_cons, bindO_some, mapQ_some, mapW_some, x_mov, x_pick, x_bin, x_un, x_cvt, x_ld, x_b2s, x_idxa, x_idxs, x_idxg, x_mkm, x_ixb, x_fld, x_flda, x_boxf, x_boxr, x_bld, x_bslf, x_slc, x_len, x_ext, x_nchk, x_mkf, x_mki, x_fbin, x_fneg, x_i2f, x_f2i, x_xc, x_eqs, xl_ld, xl_b2s, x_st, x_boxh, x_alloc, x_bslh, x_mks, x_app, exOp_gt, exOp_gf, exOp_gf2, exOp_gs, put_some, put_none, ev_t, ev_c, List.getD_cons_zero, List.getD_cons_succ, List.set_cons_zero, List.set_cons_succ, Option.map_some, Option.map_none, optB_some, if_true, Bool.false_eq_true, if_false, ne_eq, reduceCtorEq, not_false_eq_true, not_true_eq_false, Bool.true_eq_false, len_vis, lenV_fz, lenV_sl, lenV_nils, lenV_str, binV, intB, unV, ld_fp_int, ld_fp_bool, ld_fp_str, ld_fp_fz, ld_fp_vis, ld_fp_sl, ld_fp_nils, ld_fp_ptr, ld_fp_fpp, ld_fp_nilp, ld_bx_int, ld_bx_bool, ld_bx_str, ld_bx_fz, ld_bx_vis, ld_bx_sl, ld_bx_nils, ld_bx_ptr, ld_bx_fpp, ld_bx_nilp, List.length_cons, List.length_nil, beq_self_eq_true, Bool.and_self, Bool.and_true, Bool.true_and, List.map_cons, List.map_nil, b1, st_f (H := [(0, [.int .i64 0, .int .i64 0])]) rfl]
    refine Run.ret ⟨_, rfl, ?_⟩
    unfold scanV; rw [if_pos hbig]; rfl
  have hl : l.length ≤ 65536 := by omega
  refine Run.rgn (RunO.all ?_); simp only [i11r1, exOps_nil, exOps_cons, bindO_some, mapQ_some, mapW_some, x_mov, x_pick, x_bin, x_un, x_cvt, x_ld, x_b2s, x_idxa, x_idxs, x_idxg, x_mkm, x_ixb, x_fld, x_flda, x_boxf, x_boxr, x_bld, x_bslf, x_slc, x_len, x_ext, x_nchk, x_mkf, x_mki, x_fbin, x_fneg, x_i2f, x_f2i, x_xc, x_eqs, xl_ld, xl_b2s, x_st, x_boxh, x_alloc, x_bslh, x_mks, x_app, exOp_gt, exOp_gf, exOp_gf2, exOp_gs, put_some, put_none, ev_t, ev_c, List.getD_cons_zero, List.getD_cons_succ, List.set_cons_zero, List.set_cons_succ, Option.map_some, Option.map_none, optB_some, if_true, Bool.false_eq_true, if_false, ne_eq, reduceCtorEq, not_false_eq_true, not_true_eq_false, Bool.true_eq_false, len_vis, lenV_fz, lenV_sl, lenV_nils, lenV_str, binV, intB, unV, ld_fp_int, ld_fp_bool, ld_fp_str, ld_fp_fz, ld_fp_vis, ld_fp_sl, ld_fp_nils, ld_fp_ptr, ld_fp_fpp, ld_fp_nilp, ld_bx_int, ld_bx_bool, ld_bx_str, ld_bx_fz, ld_bx_vis, ld_bx_sl, ld_bx_nils, ld_bx_ptr, ld_bx_fpp, ld_bx_nilp, List.length_cons, List.length_nil, beq_self_eq_true, Bool.and_self, Bool.and_true, Bool.true_and, len_st, st_size, decide_eq_false (show ¬ (l.length : Int) > 65536 by omega)]
  refine Run.ite (by rfl) (fun h => by cases h) (fun _ => ?_)
  refine Run.skip ?_
  have b2 : bldV [.str ⟨#[]⟩, .int .i64 0, .int .i64 0] [(0, 1, .str ⟨l.toArray⟩), (2, 1, .int .i64 (-1))] = some (.ag [.str ⟨l.toArray⟩, .int .i64 0, .int .i64 (-1)]) := rfl
  refine Run.seqr ?_; simp only [i11r6, exOps_nil, exOps_cons, bindO_some, mapQ_some, mapW_some, x_mov, x_pick, x_bin, x_un, x_cvt, x_ld, x_b2s, x_idxa, x_idxs, x_idxg, x_mkm, x_ixb, x_fld, x_flda, x_boxf, x_boxr, x_bld, x_bslf, x_slc, x_len, x_ext, x_nchk, x_mkf, x_mki, x_fbin, x_fneg, x_i2f, x_f2i, x_xc, x_eqs, xl_ld, xl_b2s, x_st, x_boxh, x_alloc, x_bslh, x_mks, x_app, exOp_gt, exOp_gf, exOp_gf2, exOp_gs, put_some, put_none, ev_t, ev_c, List.getD_cons_zero, List.getD_cons_succ, List.set_cons_zero, List.set_cons_succ, Option.map_some, Option.map_none, optB_some, if_true, Bool.false_eq_true, if_false, ne_eq, reduceCtorEq, not_false_eq_true, not_true_eq_false, Bool.true_eq_false, len_vis, lenV_fz, lenV_sl, lenV_nils, lenV_str, binV, intB, unV, ld_fp_int, ld_fp_bool, ld_fp_str, ld_fp_fz, ld_fp_vis, ld_fp_sl, ld_fp_nils, ld_fp_ptr, ld_fp_fpp, ld_fp_nilp, ld_bx_int, ld_bx_bool, ld_bx_str, ld_bx_fz, ld_bx_vis, ld_bx_sl, ld_bx_nils, ld_bx_ptr, ld_bx_fpp, ld_bx_nilp, List.length_cons, List.length_nil, beq_self_eq_true, Bool.and_self, Bool.and_true, Bool.true_and, List.map_cons, List.map_nil, b2, boxOk, V.cells, List.cons_append, List.nil_append]
  have b3 : ∀ (k : Int) (f : Nat) (cs : List V), bldV [.int .i64 0, .nilf] [(0, 1, .int .i64 k), (1, 1, .bm f cs)] = some (.ag [.int .i64 k, .bm f cs]) := fun _ _ _ => rfl
  have b4 : bldV [.int .i64 0, .nilf, .int .i64 0, .nilf, .int .i64 0, .nilf] [(0, 2, .ag [.int .i64 2, .bm 17 [.ptr 1 0 0]]), (2, 2, .ag [.int .i64 3, .bm 18 [.ptr 1 0 0]]), (4, 2, .ag [.int .i64 4, .bm 19 [.ptr 1 0 0]])] = some (.ag ARR) := rfl
  have s5 : stV [(0, [V.int .i64 0, .int .i64 0]), (0, [.str ⟨l.toArray⟩, .int .i64 0, .int .i64 (-1)]), (0, [.int .i64 0, .nilf, .int .i64 0, .nilf, .int .i64 0, .nilf])] (.ptr 2 0 0) (.ag ARR) (some 6) = some [(0, [V.int .i64 0, .int .i64 0]), (0, [.str ⟨l.toArray⟩, .int .i64 0, .int .i64 (-1)]), (0, ARR)] := rfl
  refine Run.seqr ?_; simp only [i11r7, exOps_nil, exOps_cons, bindO_some, mapQ_some, mapW_some, x_mov, x_pick, x_bin, x_un, x_cvt, x_ld, x_b2s, x_idxa, x_idxs, x_idxg, x_mkm, x_ixb, x_fld, x_flda, x_boxf, x_boxr, x_bld, x_bslf, x_slc, x_len, x_ext, x_nchk, x_mkf, x_mki, x_fbin, x_fneg, x_i2f, x_f2i, x_xc, x_eqs, xl_ld, xl_b2s, x_st, x_boxh, x_alloc, x_bslh, x_mks, x_app, exOp_gt, exOp_gf, exOp_gf2, exOp_gs, put_some, put_none, ev_t, ev_c, List.getD_cons_zero, List.getD_cons_succ, List.set_cons_zero, List.set_cons_succ, Option.map_some, Option.map_none, optB_some, if_true, Bool.false_eq_true, if_false, ne_eq, reduceCtorEq, not_false_eq_true, not_true_eq_false, Bool.true_eq_false, len_vis, lenV_fz, lenV_sl, lenV_nils, lenV_str, binV, intB, unV, ld_fp_int, ld_fp_bool, ld_fp_str, ld_fp_fz, ld_fp_vis, ld_fp_sl, ld_fp_nils, ld_fp_ptr, ld_fp_fpp, ld_fp_nilp, ld_bx_int, ld_bx_bool, ld_bx_str, ld_bx_fz, ld_bx_vis, ld_bx_sl, ld_bx_nils, ld_bx_ptr, ld_bx_fpp, ld_bx_nilp, List.length_cons, List.length_nil, beq_self_eq_true, Bool.and_self, Bool.and_true, Bool.true_and, List.map_cons, List.map_nil, b3, b4, List.cons_append, List.nil_append, s5]
  refine Run.seqr ?_; simp only [i11r8, exOps_nil, exOps_cons, bindO_some, mapQ_some, mapW_some, x_mov, x_pick, x_bin, x_un, x_cvt, x_ld, x_b2s, x_idxa, x_idxs, x_idxg, x_mkm, x_ixb, x_fld, x_flda, x_boxf, x_boxr, x_bld, x_bslf, x_slc, x_len, x_ext, x_nchk, x_mkf, x_mki, x_fbin, x_fneg, x_i2f, x_f2i, x_xc, x_eqs, xl_ld, xl_b2s, x_st, x_boxh, x_alloc, x_bslh, x_mks, x_app, exOp_gt, exOp_gf, exOp_gf2, exOp_gs, put_some, put_none, ev_t, ev_c, List.getD_cons_zero, List.getD_cons_succ, List.set_cons_zero, List.set_cons_succ, Option.map_some, Option.map_none, optB_some, if_true, Bool.false_eq_true, if_false, ne_eq, reduceCtorEq, not_false_eq_true, not_true_eq_false, Bool.true_eq_false, len_vis, lenV_fz, lenV_sl, lenV_nils, lenV_str, binV, intB, unV, ld_fp_int, ld_fp_bool, ld_fp_str, ld_fp_fz, ld_fp_vis, ld_fp_sl, ld_fp_nils, ld_fp_ptr, ld_fp_fpp, ld_fp_nilp, ld_bx_int, ld_bx_bool, ld_bx_str, ld_bx_fz, ld_bx_vis, ld_bx_sl, ld_bx_nils, ld_bx_ptr, ld_bx_fpp, ld_bx_nilp, List.length_cons, List.length_nil, beq_self_eq_true, Bool.and_self, Bool.and_true, Bool.true_and]
  refine Run.block ?_
  refine Run.loopc (fun m e H => ∃ (a : Nat) (v : V) (ts : List (Nat × Nat × Nat)), a ≤ l.length ∧ m = l.length - a ∧ ts.length ≤ a ∧ SI H l (a : Int) (-1) v ts 0 [] ∧ scanR l = scanF (l.length - a + 1) l a ts ∧ e = i11e52 (.str ⟨l.toArray⟩) (.ptr 0 0 0) (.ptr 1 0 0) (.ptr 2 0 0) v) l.length
    ⟨0, .nils, [], by omega, by omega, by simp, ⟨rfl, rfl, rfl, .inl rfl, .inl ⟨rfl, rfl⟩⟩, rfl, (by simp only [clrEnv, List.set_cons_zero, List.set_cons_succ, vi, vis, Int.natCast_zero, Int.natCast_add, Int.natCast_one, i11e52])⟩ ?_
  rintro m e H ⟨a, v, ts, ha, rfl, hts, S, hsc, rfl⟩
  simp only [i11e52]
  refine Run.block (Run.seq (Run.rgn ?_))
  refine RunO.pre 1 ?_; simp only [i11r9, List.take_succ_cons, List.take_zero, List.drop_succ_cons, List.drop_zero, exOps_nil, exOps_cons, bindO_some, mapQ_some, mapW_some, x_mov, x_pick, x_bin, x_un, x_cvt, x_ld, x_b2s, x_idxa, x_idxs, x_idxg, x_mkm, x_ixb, x_fld, x_flda, x_boxf, x_boxr, x_bld, x_bslf, x_slc, x_len, x_ext, x_nchk, x_mkf, x_mki, x_fbin, x_fneg, x_i2f, x_f2i, x_xc, x_eqs, xl_ld, xl_b2s, x_st, x_boxh, x_alloc, x_bslh, x_mks, x_app, exOp_gt, exOp_gf, exOp_gf2, exOp_gs, put_some, put_none, ev_t, ev_c, List.getD_cons_zero, List.getD_cons_succ, List.set_cons_zero, List.set_cons_succ, Option.map_some, Option.map_none, optB_some, if_true, Bool.false_eq_true, if_false, ne_eq, reduceCtorEq, not_false_eq_true, not_true_eq_false, Bool.true_eq_false, len_vis, lenV_fz, lenV_sl, lenV_nils, lenV_str, binV, intB, unV, ld_fp_int, ld_fp_bool, ld_fp_str, ld_fp_fz, ld_fp_vis, ld_fp_sl, ld_fp_nils, ld_fp_ptr, ld_fp_fpp, ld_fp_nilp, ld_bx_int, ld_bx_bool, ld_bx_str, ld_bx_fz, ld_bx_vis, ld_bx_sl, ld_bx_nils, ld_bx_ptr, ld_bx_fpp, ld_bx_nilp, List.length_cons, List.length_nil, beq_self_eq_true, Bool.and_self, Bool.and_true, Bool.true_and]
  refine RunO.h (by rfl) ?_
  refine (skip S.f1 ha (by omega)).mono ?_
  rintro r H' rfl
  have hsk := skipN_le (l.drop a)
  rw [List.length_drop] at hsk
  have hscu : scanR l = _ := hsc
  unfold scanF at hscu
  generalize hp : a + skipN (l.drop a) = p at *
  replace S := S.set1 (p : Int) (-1)
  refine RunO.all ?_; simp only [exOps_nil, exOps_cons, bindO_some, mapQ_some, mapW_some, x_mov, x_pick, x_bin, x_un, x_cvt, x_ld, x_b2s, x_idxa, x_idxs, x_idxg, x_mkm, x_ixb, x_fld, x_flda, x_boxf, x_boxr, x_bld, x_bslf, x_slc, x_len, x_ext, x_nchk, x_mkf, x_mki, x_fbin, x_fneg, x_i2f, x_f2i, x_xc, x_eqs, xl_ld, xl_b2s, x_st, x_boxh, x_alloc, x_bslh, x_mks, x_app, exOp_gt, exOp_gf, exOp_gf2, exOp_gs, put_some, put_none, ev_t, ev_c, List.getD_cons_zero, List.getD_cons_succ, List.set_cons_zero, List.set_cons_succ, Option.map_some, Option.map_none, optB_some, if_true, Bool.false_eq_true, if_false, ne_eq, reduceCtorEq, not_false_eq_true, not_true_eq_false, Bool.true_eq_false, len_vis, lenV_fz, lenV_sl, lenV_nils, lenV_str, binV, intB, unV, ld_fp_int, ld_fp_bool, ld_fp_str, ld_fp_fz, ld_fp_vis, ld_fp_sl, ld_fp_nils, ld_fp_ptr, ld_fp_fpp, ld_fp_nilp, ld_bx_int, ld_bx_bool, ld_bx_str, ld_bx_fz, ld_bx_vis, ld_bx_sl, ld_bx_nils, ld_bx_ptr, ld_bx_fpp, ld_bx_nilp, List.length_cons, List.length_nil, beq_self_eq_true, Bool.and_self, Bool.and_true, Bool.true_and]
  refine Run.seq (Run.seq ?_)
  generalize hH1 : H.set 1 (cut l (p : Int) (-1)) = H1 at *
  by_cases hend : p = l.length
  · refine Run.rgn (RunO.all ?_); simp only [i11r10, exOps_nil, exOps_cons, bindO_some, mapQ_some, mapW_some, x_mov, x_pick, x_bin, x_un, x_cvt, x_ld, x_b2s, x_idxa, x_idxs, x_idxg, x_mkm, x_ixb, x_fld, x_flda, x_boxf, x_boxr, x_bld, x_bslf, x_slc, x_len, x_ext, x_nchk, x_mkf, x_mki, x_fbin, x_fneg, x_i2f, x_f2i, x_xc, x_eqs, xl_ld, xl_b2s, x_st, x_boxh, x_alloc, x_bslh, x_mks, x_app, exOp_gt, exOp_gf, exOp_gf2, exOp_gs, put_some, put_none, ev_t, ev_c, List.getD_cons_zero, List.getD_cons_succ, List.set_cons_zero, List.set_cons_succ, Option.map_some, Option.map_none, optB_some, if_true, Bool.false_eq_true, if_false, ne_eq, reduceCtorEq, not_false_eq_true, not_true_eq_false, Bool.true_eq_false, len_vis, lenV_fz, lenV_sl, lenV_nils, lenV_str, binV, intB, unV, ld_fp_int, ld_fp_bool, ld_fp_str, ld_fp_fz, ld_fp_vis, ld_fp_sl, ld_fp_nils, ld_fp_ptr, ld_fp_fpp, ld_fp_nilp, ld_bx_int, ld_bx_bool, ld_bx_str, ld_bx_fz, ld_bx_vis, ld_bx_sl, ld_bx_nils, ld_bx_ptr, ld_bx_fpp, ld_bx_nilp, List.length_cons, List.length_nil, beq_self_eq_true, Bool.and_self, Bool.and_true, Bool.true_and, nchk_ptr, flda_ptr, Nat.zero_add, ld1 S.f1, len_st, st_size, show ((p : Int) == (l.length : Int)) = true by simp [hend]]
    refine Run.ite (by rfl) (fun _ => ?_) (fun h => by cases h)
    rw [if_pos hend] at hscu
    have b6 : bldV [.int .u8 0, .int .i64 0, .int .i64 0] [(0, 1, .int .u8 1), (1, 1, .int .i64 (p : Int)), (2, 1, .int .i64 (p : Int))] = some (.ag (tokC (1, p, p))) := rfl
    have b7 : (bslV [] 3 true 1 (.ag [.int .u8 0, .int .i64 0, .int .i64 0]) [(0, .ag (tokC (1, p, p)))] true).map (·.1) = some (.fz [.ag (tokC (1, p, p))]) := rfl
    have b8 : bldV [.int .i64 0, .int .i64 0] [] = some (.ag [.int .i64 0, .int .i64 0]) := rfl
    obtain ⟨v', H2, q1, S2⟩ := S.push (by omega) (1, p, p)
    refine Run.seqr ?_; simp only [i11r11, exOps_nil, exOps_cons, bindO_some, mapQ_some, mapW_some, x_mov, x_pick, x_bin, x_un, x_cvt, x_ld, x_b2s, x_idxa, x_idxs, x_idxg, x_mkm, x_ixb, x_fld, x_flda, x_boxf, x_boxr, x_bld, x_bslf, x_slc, x_len, x_ext, x_nchk, x_mkf, x_mki, x_fbin, x_fneg, x_i2f, x_f2i, x_xc, x_eqs, xl_ld, xl_b2s, x_st, x_boxh, x_alloc, x_bslh, x_mks, x_app, exOp_gt, exOp_gf, exOp_gf2, exOp_gs, put_some, put_none, ev_t, ev_c, List.getD_cons_zero, List.getD_cons_succ, List.set_cons_zero, List.set_cons_succ, Option.map_some, Option.map_none, optB_some, if_true, Bool.false_eq_true, if_false, ne_eq, reduceCtorEq, not_false_eq_true, not_true_eq_false, Bool.true_eq_false, len_vis, lenV_fz, lenV_sl, lenV_nils, lenV_str, binV, intB, unV, ld_fp_int, ld_fp_bool, ld_fp_str, ld_fp_fz, ld_fp_vis, ld_fp_sl, ld_fp_nils, ld_fp_ptr, ld_fp_fpp, ld_fp_nilp, ld_bx_int, ld_bx_bool, ld_bx_str, ld_bx_fz, ld_bx_vis, ld_bx_sl, ld_bx_nils, ld_bx_ptr, ld_bx_fpp, ld_bx_nilp, List.length_cons, List.length_nil, beq_self_eq_true, Bool.and_self, Bool.and_true, Bool.true_and, nchk_ptr, flda_ptr, Nat.zero_add, ld1 S.f1, List.map_cons, List.map_nil, b6, b7, b8, q1, st_f S2.f0]
    have S3 := set_same S2.f0
    rw [S3]
    refine Run.ret ⟨[v', .ag [.int .i64 0, .int .i64 0]], ?_, ?_⟩
    · simp only [List.zip_cons_cons, List.zip_nil_right, omap, ldR, List.getD_cons_succ, List.getD_cons_zero, ld_f S2.f0]
    · unfold scanV
      rw [if_neg hbig, hscu]
      rcases S2.out with ⟨_, h2⟩ | ⟨c, g, _, _, rfl, h4⟩
      · simp at h2
      · exact deep_pair (n := 37 + 2) (deep_toks h4 37) (deep_f H2 37 0 0)
  have hpl : p < l.length := by omega
  rw [if_neg hend] at hscu
  refine Run.rgn (RunO.all ?_); simp only [i11r10, exOps_nil, exOps_cons, bindO_some, mapQ_some, mapW_some, x_mov, x_pick, x_bin, x_un, x_cvt, x_ld, x_b2s, x_idxa, x_idxs, x_idxg, x_mkm, x_ixb, x_fld, x_flda, x_boxf, x_boxr, x_bld, x_bslf, x_slc, x_len, x_ext, x_nchk, x_mkf, x_mki, x_fbin, x_fneg, x_i2f, x_f2i, x_xc, x_eqs, xl_ld, xl_b2s, x_st, x_boxh, x_alloc, x_bslh, x_mks, x_app, exOp_gt, exOp_gf, exOp_gf2, exOp_gs, put_some, put_none, ev_t, ev_c, List.getD_cons_zero, List.getD_cons_succ, List.set_cons_zero, List.set_cons_succ, Option.map_some, Option.map_none, optB_some, if_true, Bool.false_eq_true, if_false, ne_eq, reduceCtorEq, not_false_eq_true, not_true_eq_false, Bool.true_eq_false, len_vis, lenV_fz, lenV_sl, lenV_nils, lenV_str, binV, intB, unV, ld_fp_int, ld_fp_bool, ld_fp_str, ld_fp_fz, ld_fp_vis, ld_fp_sl, ld_fp_nils, ld_fp_ptr, ld_fp_fpp, ld_fp_nilp, ld_bx_int, ld_bx_bool, ld_bx_str, ld_bx_fz, ld_bx_vis, ld_bx_sl, ld_bx_nils, ld_bx_ptr, ld_bx_fpp, ld_bx_nilp, List.length_cons, List.length_nil, beq_self_eq_true, Bool.and_self, Bool.and_true, Bool.true_and, nchk_ptr, flda_ptr, Nat.zero_add, ld1 S.f1, len_st, st_size, show ((p : Int) == (l.length : Int)) = false by simp; omega]
  refine Run.ite (by rfl) (fun h => by cases h) (fun _ => ?_)
  refine Run.skip ?_
  have b9 : bldV [.int .u8 0, .int .i64 0, .int .i64 0] [(1, 1, .int .i64 (p : Int))] = some (.ag [.int .u8 0, .int .i64 (p : Int), .int .i64 0]) := rfl
  refine Run.seqr ?_; simp only [i11r15, exOps_nil, exOps_cons, bindO_some, mapQ_some, mapW_some, x_mov, x_pick, x_bin, x_un, x_cvt, x_ld, x_b2s, x_idxa, x_idxs, x_idxg, x_mkm, x_ixb, x_fld, x_flda, x_boxf, x_boxr, x_bld, x_bslf, x_slc, x_len, x_ext, x_nchk, x_mkf, x_mki, x_fbin, x_fneg, x_i2f, x_f2i, x_xc, x_eqs, xl_ld, xl_b2s, x_st, x_boxh, x_alloc, x_bslh, x_mks, x_app, exOp_gt, exOp_gf, exOp_gf2, exOp_gs, put_some, put_none, ev_t, ev_c, List.getD_cons_zero, List.getD_cons_succ, List.set_cons_zero, List.set_cons_succ, Option.map_some, Option.map_none, optB_some, if_true, Bool.false_eq_true, if_false, ne_eq, reduceCtorEq, not_false_eq_true, not_true_eq_false, Bool.true_eq_false, len_vis, lenV_fz, lenV_sl, lenV_nils, lenV_str, binV, intB, unV, ld_fp_int, ld_fp_bool, ld_fp_str, ld_fp_fz, ld_fp_vis, ld_fp_sl, ld_fp_nils, ld_fp_ptr, ld_fp_fpp, ld_fp_nilp, ld_bx_int, ld_bx_bool, ld_bx_str, ld_bx_fz, ld_bx_vis, ld_bx_sl, ld_bx_nils, ld_bx_ptr, ld_bx_fpp, ld_bx_nilp, List.length_cons, List.length_nil, beq_self_eq_true, Bool.and_self, Bool.and_true, Bool.true_and, nchk_ptr, flda_ptr, Nat.zero_add, ld1 S.f1, List.map_cons, List.map_nil, b9, st_new3]
  replace S := S.newT [.int .u8 0, .int .i64 (p : Int), .int .i64 0]
  have htb : 3 ≤ H1.length := by
    rcases S.ft with h | h
    · have := (List.getElem?_eq_some_iff.mp S.f2).1; simp at this; omega
    · exact h.1
  generalize hH2 : H1 ++ [(0, [V.int .u8 0, .int .i64 (p : Int), .int .i64 0])] = H2 at *
  generalize htbe : H1.length = tb at *
  refine Run.seq (Run.seq ?_)
  refine Run.rgn (RunO.all ?_); simp only [i11r16, exOps_nil, exOps_cons, bindO_some, mapQ_some, mapW_some, x_mov, x_pick, x_bin, x_un, x_cvt, x_ld, x_b2s, x_idxa, x_idxs, x_idxg, x_mkm, x_ixb, x_fld, x_flda, x_boxf, x_boxr, x_bld, x_bslf, x_slc, x_len, x_ext, x_nchk, x_mkf, x_mki, x_fbin, x_fneg, x_i2f, x_f2i, x_xc, x_eqs, xl_ld, xl_b2s, x_st, x_boxh, x_alloc, x_bslh, x_mks, x_app, exOp_gt, exOp_gf, exOp_gf2, exOp_gs, put_some, put_none, ev_t, ev_c, List.getD_cons_zero, List.getD_cons_succ, List.set_cons_zero, List.set_cons_succ, Option.map_some, Option.map_none, optB_some, if_true, Bool.false_eq_true, if_false, ne_eq, reduceCtorEq, not_false_eq_true, not_true_eq_false, Bool.true_eq_false, len_vis, lenV_fz, lenV_sl, lenV_nils, lenV_str, binV, intB, unV, ld_fp_int, ld_fp_bool, ld_fp_str, ld_fp_fz, ld_fp_vis, ld_fp_sl, ld_fp_nils, ld_fp_ptr, ld_fp_fpp, ld_fp_nilp, ld_bx_int, ld_bx_bool, ld_bx_str, ld_bx_fz, ld_bx_vis, ld_bx_sl, ld_bx_nils, ld_bx_ptr, ld_bx_fpp, ld_bx_nilp, List.length_cons, List.length_nil, beq_self_eq_true, Bool.and_self, Bool.and_true, Bool.true_and, ld_arr S.f2]
  refine Run.block ?_
  refine Run.loopc (fun m e H => ∃ q : Nat, q ≤ 3 ∧ m = 3 - q ∧ (((∀ j, j < q → kd l[p] ≠ j + 2) ∧ SI H l (p : Int) (-1) v ts tb [.int .u8 0, .int .i64 (p : Int), .int .i64 0]) ∨ ((∃ j, j < q ∧ kd l[p] = j + 2) ∧ Cutd H l p v ts tb)) ∧
    e = i11e30 (.str ⟨l.toArray⟩) (.ptr 0 0 0) (.ptr 1 0 0) (.ptr 2 0 0) v (.ptr tb 0 0) (.ag ARR) (.int .i64 (q : Int))) 3 ⟨0, by omega, by omega, .inl ⟨fun j hj => by omega, S⟩, (by simp only [clrEnv, List.set_cons_zero, List.set_cons_succ, vi, vis, Int.natCast_zero, Int.natCast_add, Int.natCast_one, i11e30])⟩ ?_
  clear S
  rintro m e H3 ⟨q, hq, rfl, hst, rfl⟩
  simp only [i11e30]
  refine Run.seq ?_
  refine Run.rgn (RunO.all ?_); simp only [i11r17, exOps_nil, exOps_cons, bindO_some, mapQ_some, mapW_some, x_mov, x_pick, x_bin, x_un, x_cvt, x_ld, x_b2s, x_idxa, x_idxs, x_idxg, x_mkm, x_ixb, x_fld, x_flda, x_boxf, x_boxr, x_bld, x_bslf, x_slc, x_len, x_ext, x_nchk, x_mkf, x_mki, x_fbin, x_fneg, x_i2f, x_f2i, x_xc, x_eqs, xl_ld, xl_b2s, x_st, x_boxh, x_alloc, x_bslh, x_mks, x_app, exOp_gt, exOp_gf, exOp_gf2, exOp_gs, put_some, put_none, ev_t, ev_c, List.getD_cons_zero, List.getD_cons_succ, List.set_cons_zero, List.set_cons_succ, Option.map_some, Option.map_none, optB_some, if_true, Bool.false_eq_true, if_false, ne_eq, reduceCtorEq, not_false_eq_true, not_true_eq_false, Bool.true_eq_false, len_vis, lenV_fz, lenV_sl, lenV_nils, lenV_str, binV, intB, unV, ld_fp_int, ld_fp_bool, ld_fp_str, ld_fp_fz, ld_fp_vis, ld_fp_sl, ld_fp_nils, ld_fp_ptr, ld_fp_fpp, ld_fp_nilp, ld_bx_int, ld_bx_bool, ld_bx_str, ld_bx_fz, ld_bx_vis, ld_bx_sl, ld_bx_nils, ld_bx_ptr, ld_bx_fpp, ld_bx_nilp, List.length_cons, List.length_nil, beq_self_eq_true, Bool.and_self, Bool.and_true, Bool.true_and]
  refine Run.seq (Run.ite (by rfl) (fun hlq => ?_) (fun hgq => ?_))
  · have hlq : q < 3 := by have := of_decide_eq_true hlq; omega
    refine Run.skip (Run.seq (Run.block (Run.seq ?_)))
    refine Run.rgn (RunO.all ?_); simp only [i11r19, exOps_nil, exOps_cons, bindO_some, mapQ_some, mapW_some, x_mov, x_pick, x_bin, x_un, x_cvt, x_ld, x_b2s, x_idxa, x_idxs, x_idxg, x_mkm, x_ixb, x_fld, x_flda, x_boxf, x_boxr, x_bld, x_bslf, x_slc, x_len, x_ext, x_nchk, x_mkf, x_mki, x_fbin, x_fneg, x_i2f, x_f2i, x_xc, x_eqs, xl_ld, xl_b2s, x_st, x_boxh, x_alloc, x_bslh, x_mks, x_app, exOp_gt, exOp_gf, exOp_gf2, exOp_gs, put_some, put_none, ev_t, ev_c, List.getD_cons_zero, List.getD_cons_succ, List.set_cons_zero, List.set_cons_succ, Option.map_some, Option.map_none, optB_some, if_true, Bool.false_eq_true, if_false, ne_eq, reduceCtorEq, not_false_eq_true, not_true_eq_false, Bool.true_eq_false, len_vis, lenV_fz, lenV_sl, lenV_nils, lenV_str, binV, intB, unV, ld_fp_int, ld_fp_bool, ld_fp_str, ld_fp_fz, ld_fp_vis, ld_fp_sl, ld_fp_nils, ld_fp_ptr, ld_fp_fpp, ld_fp_nilp, ld_bx_int, ld_bx_bool, ld_bx_str, ld_bx_fz, ld_bx_vis, ld_bx_sl, ld_bx_nils, ld_bx_ptr, ld_bx_fpp, ld_bx_nilp, List.length_cons, List.length_nil, beq_self_eq_true, Bool.and_self, Bool.and_true, Bool.true_and, idx_arr hlq, st_new2]
    have hx : ∃ (a b : Int) (k : Nat), SI H3 l a b v ts tb [.int .u8 (k : Int), .int .i64 (p : Int), .int .i64 0] := by
      rcases hst with ⟨_, S⟩ | ⟨_, C⟩
      · exact ⟨_, _, 0, S⟩
      · obtain ⟨a, b, k, _, S⟩ := C.si; exact ⟨a, b, k, S⟩
    obtain ⟨a0, b0, k0, SX⟩ := hx
    have SX := SX.app (0, [.int .i64 ((q + 2 : Nat) : Int), .bm (17 + q) [.ptr 1 0 0]])
    have hft := (SX.ft.resolve_left (by omega)).2
    refine Run.seq (Run.rgn ?_)
    refine RunO.pre 4 ?_; simp only [i11r20, List.take_succ_cons, List.take_zero, List.drop_succ_cons, List.drop_zero, exOps_nil, exOps_cons, bindO_some, mapQ_some, mapW_some, x_mov, x_pick, x_bin, x_un, x_cvt, x_ld, x_b2s, x_idxa, x_idxs, x_idxg, x_mkm, x_ixb, x_fld, x_flda, x_boxf, x_boxr, x_bld, x_bslf, x_slc, x_len, x_ext, x_nchk, x_mkf, x_mki, x_fbin, x_fneg, x_i2f, x_f2i, x_xc, x_eqs, xl_ld, xl_b2s, x_st, x_boxh, x_alloc, x_bslh, x_mks, x_app, exOp_gt, exOp_gf, exOp_gf2, exOp_gs, put_some, put_none, ev_t, ev_c, List.getD_cons_zero, List.getD_cons_succ, List.set_cons_zero, List.set_cons_succ, Option.map_some, Option.map_none, optB_some, if_true, Bool.false_eq_true, if_false, ne_eq, reduceCtorEq, not_false_eq_true, not_true_eq_false, Bool.true_eq_false, len_vis, lenV_fz, lenV_sl, lenV_nils, lenV_str, binV, intB, unV, ld_fp_int, ld_fp_bool, ld_fp_str, ld_fp_fz, ld_fp_vis, ld_fp_sl, ld_fp_nils, ld_fp_ptr, ld_fp_fpp, ld_fp_nilp, ld_bx_int, ld_bx_bool, ld_bx_str, ld_bx_fz, ld_bx_vis, ld_bx_sl, ld_bx_nils, ld_bx_ptr, ld_bx_fpp, ld_bx_nilp, List.length_cons, List.length_nil, beq_self_eq_true, Bool.and_self, Bool.and_true, Bool.true_and, flda_ptr, Nat.zero_add, (ld_tok hft).2.1, idx_st hpl]
    refine RunO.c (ofC l[p] _) ?_
    refine RunO.all ?_; simp only [exOps_nil, exOps_cons, bindO_some, mapQ_some, mapW_some, x_mov, x_pick, x_bin, x_un, x_cvt, x_ld, x_b2s, x_idxa, x_idxs, x_idxg, x_mkm, x_ixb, x_fld, x_flda, x_boxf, x_boxr, x_bld, x_bslf, x_slc, x_len, x_ext, x_nchk, x_mkf, x_mki, x_fbin, x_fneg, x_i2f, x_f2i, x_xc, x_eqs, xl_ld, xl_b2s, x_st, x_boxh, x_alloc, x_bslh, x_mks, x_app, exOp_gt, exOp_gf, exOp_gf2, exOp_gs, put_some, put_none, ev_t, ev_c, List.getD_cons_zero, List.getD_cons_succ, List.set_cons_zero, List.set_cons_succ, Option.map_some, Option.map_none, optB_some, if_true, Bool.false_eq_true, if_false, ne_eq, reduceCtorEq, not_false_eq_true, not_true_eq_false, Bool.true_eq_false, len_vis, lenV_fz, lenV_sl, lenV_nils, lenV_str, binV, intB, unV, ld_fp_int, ld_fp_bool, ld_fp_str, ld_fp_fz, ld_fp_vis, ld_fp_sl, ld_fp_nils, ld_fp_ptr, ld_fp_fpp, ld_fp_nilp, ld_bx_int, ld_bx_bool, ld_bx_str, ld_bx_fz, ld_bx_vis, ld_bx_sl, ld_bx_nils, ld_bx_ptr, ld_bx_fpp, ld_bx_nilp, List.length_cons, List.length_nil, beq_self_eq_true, Bool.and_self, Bool.and_true, Bool.true_and, flda_ptr, Nat.zero_add, ld_x]
    refine Run.ite (by rfl) (fun heq => ?_) (fun hne => ?_)
    · have heq : kd l[p] = q + 2 := by have := of_decide_eq_true heq; omega
      rcases hst with ⟨hno, S⟩ | ⟨⟨j, hj, hk⟩, _⟩
      · refine Run.rgn ?_
        refine RunO.pre 2 ?_; simp only [i11r21, List.take_succ_cons, List.take_zero, List.drop_succ_cons, List.drop_zero, exOps_nil, exOps_cons, bindO_some, mapQ_some, mapW_some, x_mov, x_pick, x_bin, x_un, x_cvt, x_ld, x_b2s, x_idxa, x_idxs, x_idxg, x_mkm, x_ixb, x_fld, x_flda, x_boxf, x_boxr, x_bld, x_bslf, x_slc, x_len, x_ext, x_nchk, x_mkf, x_mki, x_fbin, x_fneg, x_i2f, x_f2i, x_xc, x_eqs, xl_ld, xl_b2s, x_st, x_boxh, x_alloc, x_bslh, x_mks, x_app, exOp_gt, exOp_gf, exOp_gf2, exOp_gs, put_some, put_none, ev_t, ev_c, List.getD_cons_zero, List.getD_cons_succ, List.set_cons_zero, List.set_cons_succ, Option.map_some, Option.map_none, optB_some, if_true, Bool.false_eq_true, if_false, ne_eq, reduceCtorEq, not_false_eq_true, not_true_eq_false, Bool.true_eq_false, len_vis, lenV_fz, lenV_sl, lenV_nils, lenV_str, binV, intB, unV, ld_fp_int, ld_fp_bool, ld_fp_str, ld_fp_fz, ld_fp_vis, ld_fp_sl, ld_fp_nils, ld_fp_ptr, ld_fp_fpp, ld_fp_nilp, ld_bx_int, ld_bx_bool, ld_bx_str, ld_bx_fz, ld_bx_vis, ld_bx_sl, ld_bx_nils, ld_bx_ptr, ld_bx_fpp, ld_bx_nilp, List.length_cons, List.length_nil, beq_self_eq_true, Bool.and_self, Bool.and_true, Bool.true_and, flda_ptr, Nat.zero_add, ld_y]
        replace S := S.app (0, [.int .i64 ((q + 2 : Nat) : Int), .bm (17 + q) [.ptr 1 0 0]])
        refine RunO.hb (by rfl) ?_
        refine (by_q hlq S.f1 hpl (by omega) heq).mono ?_
        intro r H4 hT
        have key : ∃ k : Nat, r = .int .u8 (k : Int) ∧ ∃ a' b' : Int, SI H4 l a' b' v ts tb [.int .u8 0, .int .i64 (p : Int), .int .i64 0] ∧ ∀ H5, SI H5 l a' b' v ts tb [.int .u8 (k : Int), .int .i64 (p : Int), .int .i64 0] → Cutd H5 l p v ts tb := by
          unfold Took at hT
          cases ht : tokF (l.drop p) with
          | ok kn =>
            obtain ⟨k, n⟩ := kn
            rw [ht] at hT
            obtain ⟨rfl, rfl⟩ := hT
            exact ⟨k, rfl, _, _, S.set1 _ _, fun H5 S5 => by unfold Cutd; rw [ht]; exact S5⟩
          | error e =>
            rw [ht] at hT
            obtain ⟨⟨k, hk0, rfl⟩, a', rfl⟩ := hT
            exact ⟨k, rfl, _, _, S.set1 _ _, fun H5 S5 => by unfold Cutd; rw [ht]; exact ⟨k, hk0, a', S5⟩⟩
        obtain ⟨k, rfl, a', b', S4, hC⟩ := key
        have hft4 := (S4.ft.resolve_left (by omega)).2
        refine RunO.all ?_; simp only [exOps_nil, exOps_cons, bindO_some, mapQ_some, mapW_some, x_mov, x_pick, x_bin, x_un, x_cvt, x_ld, x_b2s, x_idxa, x_idxs, x_idxg, x_mkm, x_ixb, x_fld, x_flda, x_boxf, x_boxr, x_bld, x_bslf, x_slc, x_len, x_ext, x_nchk, x_mkf, x_mki, x_fbin, x_fneg, x_i2f, x_f2i, x_xc, x_eqs, xl_ld, xl_b2s, x_st, x_boxh, x_alloc, x_bslh, x_mks, x_app, exOp_gt, exOp_gf, exOp_gf2, exOp_gs, put_some, put_none, ev_t, ev_c, List.getD_cons_zero, List.getD_cons_succ, List.set_cons_zero, List.set_cons_succ, Option.map_some, Option.map_none, optB_some, if_true, Bool.false_eq_true, if_false, ne_eq, reduceCtorEq, not_false_eq_true, not_true_eq_false, Bool.true_eq_false, len_vis, lenV_fz, lenV_sl, lenV_nils, lenV_str, binV, intB, unV, ld_fp_int, ld_fp_bool, ld_fp_str, ld_fp_fz, ld_fp_vis, ld_fp_sl, ld_fp_nils, ld_fp_ptr, ld_fp_fpp, ld_fp_nilp, ld_bx_int, ld_bx_bool, ld_bx_str, ld_bx_fz, ld_bx_vis, ld_bx_sl, ld_bx_nils, ld_bx_ptr, ld_bx_fpp, ld_bx_nilp, List.length_cons, List.length_nil, beq_self_eq_true, Bool.and_self, Bool.and_true, Bool.true_and, flda_ptr, Nat.zero_add, st_tok0 hft4]
        refine Run.rgn (RunO.all ?_); simp only [i11r26, exOps_nil, exOps_cons, bindO_some, mapQ_some, mapW_some, x_mov, x_pick, x_bin, x_un, x_cvt, x_ld, x_b2s, x_idxa, x_idxs, x_idxg, x_mkm, x_ixb, x_fld, x_flda, x_boxf, x_boxr, x_bld, x_bslf, x_slc, x_len, x_ext, x_nchk, x_mkf, x_mki, x_fbin, x_fneg, x_i2f, x_f2i, x_xc, x_eqs, xl_ld, xl_b2s, x_st, x_boxh, x_alloc, x_bslh, x_mks, x_app, exOp_gt, exOp_gf, exOp_gf2, exOp_gs, put_some, put_none, ev_t, ev_c, List.getD_cons_zero, List.getD_cons_succ, List.set_cons_zero, List.set_cons_succ, Option.map_some, Option.map_none, optB_some, if_true, Bool.false_eq_true, if_false, ne_eq, reduceCtorEq, not_false_eq_true, not_true_eq_false, Bool.true_eq_false, len_vis, lenV_fz, lenV_sl, lenV_nils, lenV_str, binV, intB, unV, ld_fp_int, ld_fp_bool, ld_fp_str, ld_fp_fz, ld_fp_vis, ld_fp_sl, ld_fp_nils, ld_fp_ptr, ld_fp_fpp, ld_fp_nilp, ld_bx_int, ld_bx_bool, ld_bx_str, ld_bx_fz, ld_bx_vis, ld_bx_sl, ld_bx_nils, ld_bx_ptr, ld_bx_fpp, ld_bx_nilp, List.length_cons, List.length_nil, beq_self_eq_true, Bool.and_self, Bool.and_true, Bool.true_and, wsucc (show q ≤ 1048576 by omega)]
        exact ⟨3 - (q + 1), by omega, q + 1, by omega, rfl, .inr ⟨⟨q, by omega, heq⟩, hC _ (S4.setT htb _)⟩, (by simp only [clrEnv, List.set_cons_zero, List.set_cons_succ, vi, vis, Int.natCast_zero, Int.natCast_add, Int.natCast_one, i11e30])⟩
      · omega
    · have hne : kd l[p] ≠ q + 2 := by have := of_decide_eq_false hne; omega
      refine Run.skip ?_
      refine Run.rgn (RunO.all ?_); simp only [i11r26, exOps_nil, exOps_cons, bindO_some, mapQ_some, mapW_some, x_mov, x_pick, x_bin, x_un, x_cvt, x_ld, x_b2s, x_idxa, x_idxs, x_idxg, x_mkm, x_ixb, x_fld, x_flda, x_boxf, x_boxr, x_bld, x_bslf, x_slc, x_len, x_ext, x_nchk, x_mkf, x_mki, x_fbin, x_fneg, x_i2f, x_f2i, x_xc, x_eqs, xl_ld, xl_b2s, x_st, x_boxh, x_alloc, x_bslh, x_mks, x_app, exOp_gt, exOp_gf, exOp_gf2, exOp_gs, put_some, put_none, ev_t, ev_c, List.getD_cons_zero, List.getD_cons_succ, List.set_cons_zero, List.set_cons_succ, Option.map_some, Option.map_none, optB_some, if_true, Bool.false_eq_true, if_false, ne_eq, reduceCtorEq, not_false_eq_true, not_true_eq_false, Bool.true_eq_false, len_vis, lenV_fz, lenV_sl, lenV_nils, lenV_str, binV, intB, unV, ld_fp_int, ld_fp_bool, ld_fp_str, ld_fp_fz, ld_fp_vis, ld_fp_sl, ld_fp_nils, ld_fp_ptr, ld_fp_fpp, ld_fp_nilp, ld_bx_int, ld_bx_bool, ld_bx_str, ld_bx_fz, ld_bx_vis, ld_bx_sl, ld_bx_nils, ld_bx_ptr, ld_bx_fpp, ld_bx_nilp, List.length_cons, List.length_nil, beq_self_eq_true, Bool.and_self, Bool.and_true, Bool.true_and, wsucc (show q ≤ 1048576 by omega)]
      refine ⟨3 - (q + 1), by omega, q + 1, by omega, rfl, ?_, (by simp only [clrEnv, List.set_cons_zero, List.set_cons_succ, vi, vis, Int.natCast_zero, Int.natCast_add, Int.natCast_one, i11e30])⟩
      rcases hst with ⟨hno, S⟩ | ⟨⟨j, hj, hk⟩, C⟩
      · refine .inl ⟨fun j hj => ?_, S.app _⟩
        by_cases hjq : j = q
        · subst hjq; exact hne
        · exact hno j (by omega)
      · exact .inr ⟨⟨j, by omega, hk⟩, C.app _⟩
  · have hqe : q = 3 := by have := of_decide_eq_false hgq; omega
    subst hqe
    refine Run.exit ?_
    show Run T _ _ _ _
    rcases hst with ⟨hno, S⟩ | ⟨_, C⟩
    · rw [tokF_none hpl hno] at hscu
      have hft := (S.ft.resolve_left (by omega)).2
      refine Run.seq (Run.seq ?_)
      refine Run.rgn (RunO.all ?_); simp only [i11r33, exOps_nil, exOps_cons, bindO_some, mapQ_some, mapW_some, x_mov, x_pick, x_bin, x_un, x_cvt, x_ld, x_b2s, x_idxa, x_idxs, x_idxg, x_mkm, x_ixb, x_fld, x_flda, x_boxf, x_boxr, x_bld, x_bslf, x_slc, x_len, x_ext, x_nchk, x_mkf, x_mki, x_fbin, x_fneg, x_i2f, x_f2i, x_xc, x_eqs, xl_ld, xl_b2s, x_st, x_boxh, x_alloc, x_bslh, x_mks, x_app, exOp_gt, exOp_gf, exOp_gf2, exOp_gs, put_some, put_none, ev_t, ev_c, List.getD_cons_zero, List.getD_cons_succ, List.set_cons_zero, List.set_cons_succ, Option.map_some, Option.map_none, optB_some, if_true, Bool.false_eq_true, if_false, ne_eq, reduceCtorEq, not_false_eq_true, not_true_eq_false, Bool.true_eq_false, len_vis, lenV_fz, lenV_sl, lenV_nils, lenV_str, binV, intB, unV, ld_fp_int, ld_fp_bool, ld_fp_str, ld_fp_fz, ld_fp_vis, ld_fp_sl, ld_fp_nils, ld_fp_ptr, ld_fp_fpp, ld_fp_nilp, ld_bx_int, ld_bx_bool, ld_bx_str, ld_bx_fz, ld_bx_vis, ld_bx_sl, ld_bx_nils, ld_bx_ptr, ld_bx_fpp, ld_bx_nilp, List.length_cons, List.length_nil, beq_self_eq_true, Bool.and_self, Bool.and_true, Bool.true_and, flda_ptr, Nat.zero_add, (ld_tok hft).1, show ((0 : Int) == 0) = true from rfl]
      refine Run.ite (by rfl) (fun _ => ?_) (fun h => by cases h)
      refine Run.rgn (RunO.all ?_); simp only [i11r34, exOps_nil, exOps_cons, bindO_some, mapQ_some, mapW_some, x_mov, x_pick, x_bin, x_un, x_cvt, x_ld, x_b2s, x_idxa, x_idxs, x_idxg, x_mkm, x_ixb, x_fld, x_flda, x_boxf, x_boxr, x_bld, x_bslf, x_slc, x_len, x_ext, x_nchk, x_mkf, x_mki, x_fbin, x_fneg, x_i2f, x_f2i, x_xc, x_eqs, xl_ld, xl_b2s, x_st, x_boxh, x_alloc, x_bslh, x_mks, x_app, exOp_gt, exOp_gf, exOp_gf2, exOp_gs, put_some, put_none, ev_t, ev_c, List.getD_cons_zero, List.getD_cons_succ, List.set_cons_zero, List.set_cons_succ, Option.map_some, Option.map_none, optB_some, if_true, Bool.false_eq_true, if_false, ne_eq, reduceCtorEq, not_false_eq_true, not_true_eq_false, Bool.true_eq_false, len_vis, lenV_fz, lenV_sl, lenV_nils, lenV_str, binV, intB, unV, ld_fp_int, ld_fp_bool, ld_fp_str, ld_fp_fz, ld_fp_vis, ld_fp_sl, ld_fp_nils, ld_fp_ptr, ld_fp_fpp, ld_fp_nilp, ld_bx_int, ld_bx_bool, ld_bx_str, ld_bx_fz, ld_bx_vis, ld_bx_sl, ld_bx_nils, ld_bx_ptr, ld_bx_fpp, ld_bx_nilp, List.length_cons, List.length_nil, beq_self_eq_true, Bool.and_self, Bool.and_true, Bool.true_and, nchk_ptr, flda_ptr, Nat.zero_add, (ld_tok hft).2.1, st2 S.f1]
      have S5 := S.set1 (p : Int) (p : Int)
      refine Run.seq (Run.seq ?_)
      refine Run.rgn (RunO.all ?_); simp only [i11r37, exOps_nil, exOps_cons, bindO_some, mapQ_some, mapW_some, x_mov, x_pick, x_bin, x_un, x_cvt, x_ld, x_b2s, x_idxa, x_idxs, x_idxg, x_mkm, x_ixb, x_fld, x_flda, x_boxf, x_boxr, x_bld, x_bslf, x_slc, x_len, x_ext, x_nchk, x_mkf, x_mki, x_fbin, x_fneg, x_i2f, x_f2i, x_xc, x_eqs, xl_ld, xl_b2s, x_st, x_boxh, x_alloc, x_bslh, x_mks, x_app, exOp_gt, exOp_gf, exOp_gf2, exOp_gs, put_some, put_none, ev_t, ev_c, List.getD_cons_zero, List.getD_cons_succ, List.set_cons_zero, List.set_cons_succ, Option.map_some, Option.map_none, optB_some, if_true, Bool.false_eq_true, if_false, ne_eq, reduceCtorEq, not_false_eq_true, not_true_eq_false, Bool.true_eq_false, len_vis, lenV_fz, lenV_sl, lenV_nils, lenV_str, binV, intB, unV, ld_fp_int, ld_fp_bool, ld_fp_str, ld_fp_fz, ld_fp_vis, ld_fp_sl, ld_fp_nils, ld_fp_ptr, ld_fp_fpp, ld_fp_nilp, ld_bx_int, ld_bx_bool, ld_bx_str, ld_bx_fz, ld_bx_vis, ld_bx_sl, ld_bx_nils, ld_bx_ptr, ld_bx_fpp, ld_bx_nilp, List.length_cons, List.length_nil, beq_self_eq_true, Bool.and_self, Bool.and_true, Bool.true_and, nchk_ptr, flda_ptr, Nat.zero_add, ld2 S5.f1, decide_eq_true (show (p : Int) ≥ 0 by omega)]
      refine Run.ite (by rfl) (fun _ => ?_) (fun h => by cases h)
      have b10 : bldV [.int .i64 0, .int .i64 0] [(0, 1, .int .i64 120), (1, 1, .int .i64 (p : Int))] = some (.ag [.int .i64 120, .int .i64 (p : Int)]) := rfl
      refine Run.seqr ?_; simp only [i11r38, exOps_nil, exOps_cons, bindO_some, mapQ_some, mapW_some, x_mov, x_pick, x_bin, x_un, x_cvt, x_ld, x_b2s, x_idxa, x_idxs, x_idxg, x_mkm, x_ixb, x_fld, x_flda, x_boxf, x_boxr, x_bld, x_bslf, x_slc, x_len, x_ext, x_nchk, x_mkf, x_mki, x_fbin, x_fneg, x_i2f, x_f2i, x_xc, x_eqs, xl_ld, xl_b2s, x_st, x_boxh, x_alloc, x_bslh, x_mks, x_app, exOp_gt, exOp_gf, exOp_gf2, exOp_gs, put_some, put_none, ev_t, ev_c, List.getD_cons_zero, List.getD_cons_succ, List.set_cons_zero, List.set_cons_succ, Option.map_some, Option.map_none, optB_some, if_true, Bool.false_eq_true, if_false, ne_eq, reduceCtorEq, not_false_eq_true, not_true_eq_false, Bool.true_eq_false, len_vis, lenV_fz, lenV_sl, lenV_nils, lenV_str, binV, intB, unV, ld_fp_int, ld_fp_bool, ld_fp_str, ld_fp_fz, ld_fp_vis, ld_fp_sl, ld_fp_nils, ld_fp_ptr, ld_fp_fpp, ld_fp_nilp, ld_bx_int, ld_bx_bool, ld_bx_str, ld_bx_fz, ld_bx_vis, ld_bx_sl, ld_bx_nils, ld_bx_ptr, ld_bx_fpp, ld_bx_nilp, List.length_cons, List.length_nil, beq_self_eq_true, Bool.and_self, Bool.and_true, Bool.true_and, nchk_ptr, flda_ptr, Nat.zero_add, ld2 S5.f1, List.map_cons, List.map_nil, b10, st_f S5.f0]
      refine Run.ret ⟨[.nils, .ag [.int .i64 120, .int .i64 (p : Int)]], ?_, ?_⟩
      · simp only [List.zip_cons_cons, List.zip_nil_right, omap, ldR, List.getD_cons_succ, List.getD_cons_zero, ld_f (get_set S5.f0 (0, [.int .i64 120, .int .i64 (p : Int)]))]
      · unfold scanV
        have hscu' : scanR l = .error p := hscu
        rw [if_neg hbig, hscu']
        exact deep_pair (n := 37 + 2) rfl (deep_f _ 37 120 _)
    · cases ht : tokF (l.drop p) with
      | error e =>
        rw [ht] at hscu
        unfold Cutd at C
        rw [ht] at C
        obtain ⟨k, hk0, a', S⟩ := C
        have hft := (S.ft.resolve_left (by omega)).2
        refine Run.seq (Run.seq ?_)
        refine Run.rgn (RunO.all ?_); simp only [i11r33, exOps_nil, exOps_cons, bindO_some, mapQ_some, mapW_some, x_mov, x_pick, x_bin, x_un, x_cvt, x_ld, x_b2s, x_idxa, x_idxs, x_idxg, x_mkm, x_ixb, x_fld, x_flda, x_boxf, x_boxr, x_bld, x_bslf, x_slc, x_len, x_ext, x_nchk, x_mkf, x_mki, x_fbin, x_fneg, x_i2f, x_f2i, x_xc, x_eqs, xl_ld, xl_b2s, x_st, x_boxh, x_alloc, x_bslh, x_mks, x_app, exOp_gt, exOp_gf, exOp_gf2, exOp_gs, put_some, put_none, ev_t, ev_c, List.getD_cons_zero, List.getD_cons_succ, List.set_cons_zero, List.set_cons_succ, Option.map_some, Option.map_none, optB_some, if_true, Bool.false_eq_true, if_false, ne_eq, reduceCtorEq, not_false_eq_true, not_true_eq_false, Bool.true_eq_false, len_vis, lenV_fz, lenV_sl, lenV_nils, lenV_str, binV, intB, unV, ld_fp_int, ld_fp_bool, ld_fp_str, ld_fp_fz, ld_fp_vis, ld_fp_sl, ld_fp_nils, ld_fp_ptr, ld_fp_fpp, ld_fp_nilp, ld_bx_int, ld_bx_bool, ld_bx_str, ld_bx_fz, ld_bx_vis, ld_bx_sl, ld_bx_nils, ld_bx_ptr, ld_bx_fpp, ld_bx_nilp, List.length_cons, List.length_nil, beq_self_eq_true, Bool.and_self, Bool.and_true, Bool.true_and, flda_ptr, Nat.zero_add, (ld_tok hft).1, show ((k : Int) == 0) = false by simp; omega]
        refine Run.ite (by rfl) (fun h => by cases h) (fun _ => ?_)
        refine Run.skip ?_
        refine Run.seq (Run.seq ?_)
        refine Run.rgn (RunO.all ?_); simp only [i11r37, exOps_nil, exOps_cons, bindO_some, mapQ_some, mapW_some, x_mov, x_pick, x_bin, x_un, x_cvt, x_ld, x_b2s, x_idxa, x_idxs, x_idxg, x_mkm, x_ixb, x_fld, x_flda, x_boxf, x_boxr, x_bld, x_bslf, x_slc, x_len, x_ext, x_nchk, x_mkf, x_mki, x_fbin, x_fneg, x_i2f, x_f2i, x_xc, x_eqs, xl_ld, xl_b2s, x_st, x_boxh, x_alloc, x_bslh, x_mks, x_app, exOp_gt, exOp_gf, exOp_gf2, exOp_gs, put_some, put_none, ev_t, ev_c, List.getD_cons_zero, List.getD_cons_succ, List.set_cons_zero, List.set_cons_succ, Option.map_some, Option.map_none, optB_some, if_true, Bool.false_eq_true, if_false, ne_eq, reduceCtorEq, not_false_eq_true, not_true_eq_false, Bool.true_eq_false, len_vis, lenV_fz, lenV_sl, lenV_nils, lenV_str, binV, intB, unV, ld_fp_int, ld_fp_bool, ld_fp_str, ld_fp_fz, ld_fp_vis, ld_fp_sl, ld_fp_nils, ld_fp_ptr, ld_fp_fpp, ld_fp_nilp, ld_bx_int, ld_bx_bool, ld_bx_str, ld_bx_fz, ld_bx_vis, ld_bx_sl, ld_bx_nils, ld_bx_ptr, ld_bx_fpp, ld_bx_nilp, List.length_cons, List.length_nil, beq_self_eq_true, Bool.and_self, Bool.and_true, Bool.true_and, nchk_ptr, flda_ptr, Nat.zero_add, ld2 S.f1, decide_eq_true (show ((p + e : Nat) : Int) ≥ 0 by omega)]
        refine Run.ite (by rfl) (fun _ => ?_) (fun h => by cases h)
        have b10 : bldV [.int .i64 0, .int .i64 0] [(0, 1, .int .i64 120), (1, 1, .int .i64 ((p + e : Nat) : Int))] = some (.ag [.int .i64 120, .int .i64 ((p + e : Nat) : Int)]) := rfl
        refine Run.seqr ?_; simp only [i11r38, exOps_nil, exOps_cons, bindO_some, mapQ_some, mapW_some, x_mov, x_pick, x_bin, x_un, x_cvt, x_ld, x_b2s, x_idxa, x_idxs, x_idxg, x_mkm, x_ixb, x_fld, x_flda, x_boxf, x_boxr, x_bld, x_bslf, x_slc, x_len, x_ext, x_nchk, x_mkf, x_mki, x_fbin, x_fneg, x_i2f, x_f2i, x_xc, x_eqs, xl_ld, xl_b2s, x_st, x_boxh, x_alloc, x_bslh, x_mks, x_app, exOp_gt, exOp_gf, exOp_gf2, exOp_gs, put_some, put_none, ev_t, ev_c, List.getD_cons_zero, List.getD_cons_succ, List.set_cons_zero, List.set_cons_succ, Option.map_some, Option.map_none, optB_some, if_true, Bool.false_eq_true, if_false, ne_eq, reduceCtorEq, not_false_eq_true, not_true_eq_false, Bool.true_eq_false, len_vis, lenV_fz, lenV_sl, lenV_nils, lenV_str, binV, intB, unV, ld_fp_int, ld_fp_bool, ld_fp_str, ld_fp_fz, ld_fp_vis, ld_fp_sl, ld_fp_nils, ld_fp_ptr, ld_fp_fpp, ld_fp_nilp, ld_bx_int, ld_bx_bool, ld_bx_str, ld_bx_fz, ld_bx_vis, ld_bx_sl, ld_bx_nils, ld_bx_ptr, ld_bx_fpp, ld_bx_nilp, List.length_cons, List.length_nil, beq_self_eq_true, Bool.and_self, Bool.and_true, Bool.true_and, nchk_ptr, flda_ptr, Nat.zero_add, ld2 S.f1, List.map_cons, List.map_nil, b10, st_f S.f0]
        refine Run.ret ⟨[.nils, .ag [.int .i64 120, .int .i64 ((p + e : Nat) : Int)]], ?_, ?_⟩
        · simp only [List.zip_cons_cons, List.zip_nil_right, omap, ldR, List.getD_cons_succ, List.getD_cons_zero, ld_f (get_set S.f0 (0, [.int .i64 120, .int .i64 ((p + e : Nat) : Int)]))]
        · unfold scanV
          rw [if_neg hbig, hscu]
          exact deep_pair (n := 37 + 2) rfl (deep_f _ 37 120 _)
      | ok kn =>
        obtain ⟨k, n⟩ := kn
        rw [ht] at hscu
        unfold Cutd at C
        rw [ht] at C
        have hok := tokF_ok ht
        rw [List.length_drop] at hok
        have hft := (C.ft.resolve_left (by omega)).2
        refine Run.seq (Run.seq ?_)
        refine Run.rgn (RunO.all ?_); simp only [i11r33, exOps_nil, exOps_cons, bindO_some, mapQ_some, mapW_some, x_mov, x_pick, x_bin, x_un, x_cvt, x_ld, x_b2s, x_idxa, x_idxs, x_idxg, x_mkm, x_ixb, x_fld, x_flda, x_boxf, x_boxr, x_bld, x_bslf, x_slc, x_len, x_ext, x_nchk, x_mkf, x_mki, x_fbin, x_fneg, x_i2f, x_f2i, x_xc, x_eqs, xl_ld, xl_b2s, x_st, x_boxh, x_alloc, x_bslh, x_mks, x_app, exOp_gt, exOp_gf, exOp_gf2, exOp_gs, put_some, put_none, ev_t, ev_c, List.getD_cons_zero, List.getD_cons_succ, List.set_cons_zero, List.set_cons_succ, Option.map_some, Option.map_none, optB_some, if_true, Bool.false_eq_true, if_false, ne_eq, reduceCtorEq, not_false_eq_true, not_true_eq_false, Bool.true_eq_false, len_vis, lenV_fz, lenV_sl, lenV_nils, lenV_str, binV, intB, unV, ld_fp_int, ld_fp_bool, ld_fp_str, ld_fp_fz, ld_fp_vis, ld_fp_sl, ld_fp_nils, ld_fp_ptr, ld_fp_fpp, ld_fp_nilp, ld_bx_int, ld_bx_bool, ld_bx_str, ld_bx_fz, ld_bx_vis, ld_bx_sl, ld_bx_nils, ld_bx_ptr, ld_bx_fpp, ld_bx_nilp, List.length_cons, List.length_nil, beq_self_eq_true, Bool.and_self, Bool.and_true, Bool.true_and, flda_ptr, Nat.zero_add, (ld_tok hft).1, show ((k : Int) == 0) = false by simp; omega]
        refine Run.ite (by rfl) (fun h => by cases h) (fun _ => ?_)
        refine Run.skip ?_
        refine Run.seq (Run.seq ?_)
        refine Run.rgn (RunO.all ?_); simp only [i11r37, exOps_nil, exOps_cons, bindO_some, mapQ_some, mapW_some, x_mov, x_pick, x_bin, x_un, x_cvt, x_ld, x_b2s, x_idxa, x_idxs, x_idxg, x_mkm, x_ixb, x_fld, x_flda, x_boxf, x_boxr, x_bld, x_bslf, x_slc, x_len, x_ext, x_nchk, x_mkf, x_mki, x_fbin, x_fneg, x_i2f, x_f2i, x_xc, x_eqs, xl_ld, xl_b2s, x_st, x_boxh, x_alloc, x_bslh, x_mks, x_app, exOp_gt, exOp_gf, exOp_gf2, exOp_gs, put_some, put_none, ev_t, ev_c, List.getD_cons_zero, List.getD_cons_succ, List.set_cons_zero, List.set_cons_succ, Option.map_some, Option.map_none, optB_some, if_true, Bool.false_eq_true, if_false, ne_eq, reduceCtorEq, not_false_eq_true, not_true_eq_false, Bool.true_eq_false, len_vis, lenV_fz, lenV_sl, lenV_nils, lenV_str, binV, intB, unV, ld_fp_int, ld_fp_bool, ld_fp_str, ld_fp_fz, ld_fp_vis, ld_fp_sl, ld_fp_nils, ld_fp_ptr, ld_fp_fpp, ld_fp_nilp, ld_bx_int, ld_bx_bool, ld_bx_str, ld_bx_fz, ld_bx_vis, ld_bx_sl, ld_bx_nils, ld_bx_ptr, ld_bx_fpp, ld_bx_nilp, List.length_cons, List.length_nil, beq_self_eq_true, Bool.and_self, Bool.and_true, Bool.true_and, nchk_ptr, flda_ptr, Nat.zero_add, ld2 C.f1, show decide ((-1 : Int) ≥ 0) = false from rfl]
        refine Run.ite (by rfl) (fun h => by cases h) (fun _ => ?_)
        refine Run.skip ?_
        refine Run.seqr ?_; simp only [i11r42, exOps_nil, exOps_cons, bindO_some, mapQ_some, mapW_some, x_mov, x_pick, x_bin, x_un, x_cvt, x_ld, x_b2s, x_idxa, x_idxs, x_idxg, x_mkm, x_ixb, x_fld, x_flda, x_boxf, x_boxr, x_bld, x_bslf, x_slc, x_len, x_ext, x_nchk, x_mkf, x_mki, x_fbin, x_fneg, x_i2f, x_f2i, x_xc, x_eqs, xl_ld, xl_b2s, x_st, x_boxh, x_alloc, x_bslh, x_mks, x_app, exOp_gt, exOp_gf, exOp_gf2, exOp_gs, put_some, put_none, ev_t, ev_c, List.getD_cons_zero, List.getD_cons_succ, List.set_cons_zero, List.set_cons_succ, Option.map_some, Option.map_none, optB_some, if_true, Bool.false_eq_true, if_false, ne_eq, reduceCtorEq, not_false_eq_true, not_true_eq_false, Bool.true_eq_false, len_vis, lenV_fz, lenV_sl, lenV_nils, lenV_str, binV, intB, unV, ld_fp_int, ld_fp_bool, ld_fp_str, ld_fp_fz, ld_fp_vis, ld_fp_sl, ld_fp_nils, ld_fp_ptr, ld_fp_fpp, ld_fp_nilp, ld_bx_int, ld_bx_bool, ld_bx_str, ld_bx_fz, ld_bx_vis, ld_bx_sl, ld_bx_nils, ld_bx_ptr, ld_bx_fpp, ld_bx_nilp, List.length_cons, List.length_nil, beq_self_eq_true, Bool.and_self, Bool.and_true, Bool.true_and, nchk_ptr, flda_ptr, Nat.zero_add, ld1 C.f1, st_tok2 hft]
        have S6 := C.setT htb [.int .u8 (k : Int), .int .i64 (p : Int), .int .i64 ((p + n : Nat) : Int)]
        have hft6 := (S6.ft.resolve_left (by omega)).2
        obtain ⟨v', H7, q1, S7⟩ := S6.push (by omega) (k, p, p + n)
        have b7 : (bslV [] 3 true 1 (.ag [.int .u8 0, .int .i64 0, .int .i64 0]) [(0, .ag [.int .u8 (k : Int), .int .i64 (p : Int), .int .i64 ((p + n : Nat) : Int)])] true).map (·.1) = some (.fz [.ag (tokC (k, p, p + n))]) := rfl
        refine Run.rgn (RunO.all ?_); simp only [i11r43, exOps_nil, exOps_cons, bindO_some, mapQ_some, mapW_some, x_mov, x_pick, x_bin, x_un, x_cvt, x_ld, x_b2s, x_idxa, x_idxs, x_idxg, x_mkm, x_ixb, x_fld, x_flda, x_boxf, x_boxr, x_bld, x_bslf, x_slc, x_len, x_ext, x_nchk, x_mkf, x_mki, x_fbin, x_fneg, x_i2f, x_f2i, x_xc, x_eqs, xl_ld, xl_b2s, x_st, x_boxh, x_alloc, x_bslh, x_mks, x_app, exOp_gt, exOp_gf, exOp_gf2, exOp_gs, put_some, put_none, ev_t, ev_c, List.getD_cons_zero, List.getD_cons_succ, List.set_cons_zero, List.set_cons_succ, Option.map_some, Option.map_none, optB_some, if_true, Bool.false_eq_true, if_false, ne_eq, reduceCtorEq, not_false_eq_true, not_true_eq_false, Bool.true_eq_false, len_vis, lenV_fz, lenV_sl, lenV_nils, lenV_str, binV, intB, unV, ld_fp_int, ld_fp_bool, ld_fp_str, ld_fp_fz, ld_fp_vis, ld_fp_sl, ld_fp_nils, ld_fp_ptr, ld_fp_fpp, ld_fp_nilp, ld_bx_int, ld_bx_bool, ld_bx_str, ld_bx_fz, ld_bx_vis, ld_bx_sl, ld_bx_nils, ld_bx_ptr, ld_bx_fpp, ld_bx_nilp, List.length_cons, List.length_nil, beq_self_eq_true, Bool.and_self, Bool.and_true, Bool.true_and, (ld_tok hft6).2.2, List.map_cons, List.map_nil, b7, q1]
        refine ⟨l.length - (p + n), by omega, p + n, v', ts ++ [(k, p, p + n)], by omega, rfl, by simp; omega, S7, ?_, (by simp only [clrEnv, List.set_cons_zero, List.set_cons_succ, vi, vis, Int.natCast_zero, Int.natCast_add, Int.natCast_one, i11e52])⟩
        rw [hscu]
        exact scanF_more _ _ _ _ _ (by omega) (by omega) (by omega)
theorem scanC (l : List UInt8) (H : Heap) : PC T H 11 [.str ⟨l.toArray⟩] (scanV l) := PC.of rfl (scan l)
end Go.Eng.Tok
