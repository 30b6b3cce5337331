/- The one pure statement of TokenKeeps: a source is cut into the same tokens each time, whatever is written into those handed out (no condition but the size of a text that a machine holds). -/
import Derived.Test.YtimnlnkjogbjfaaX30
import Derived.Test.YtimnlnkjogbjfaaLemE
namespace Go.Proofs.Ytimnlnkjogbjfaa.Pure
open Go.RowKit Go.Proofs.Ytimnlnkjogbjfaa.X Go.Proofs.YtimnlnkjogbjfaaW.PrintWords Go.Proofs.YtimnlnkjogbjfaaW.PrintLast
theorem keeps_l0 (s : ByteArray) (r : List S35 × Int × Int) (hr : Ev (fun k => token_Scan.f k s) r) (hl : r.1.length ≤ 65537) (d : Nat) : ∀ (q : Nat) (a : List S35), a.length ≤ 65537 → a.length - q = d → q ≤ a.length → Ev (fun k => smithylaw02_TokenKeeps.l0 k s a r.1 (q : Int)) true := by
  induction d with
  | zero =>
    intro q a h h0 h1
    refine Ev.step (fun k => by rw [smithylaw02_TokenKeeps.l0]) ?_
    exact Ev.ite_neg (by omega) (Ev.bind hr (Ev.bind (same_ev r.1 (by omega)) (Ev.now _)))
  | succ d ih =>
    intro q a h h0 h1
    refine Ev.step (fun k => by rw [smithylaw02_TokenKeeps.l0]) ?_
    refine Ev.ite_pos (by omega) (Ev.ite_pos (by omega) ?_)
    rw [w64 (by omega) (by omega), show (q : Int) + 1 = ((q + 1 : Nat) : Int) by omega]
    exact ih (q + 1) _ (by rw [List.length_set]; omega) (by rw [List.length_set]; omega) (by rw [List.length_set]; omega)
theorem TokenKeeps : smithylaw02_TokenKeeps.Pure := by
  intro s hs
  obtain ⟨r, r1, r2, r3⟩ := scan_same s hs
  have h0 : Ev (fun k => smithylaw02_TokenKeeps.l0 k s r.1 r.1 0) true := keeps_l0 s r r1 r3 _ 0 r.1 r3 rfl (Nat.zero_le _)
  have hj : Ev (fun k => smithylaw02_TokenKeeps.j0 k s r.1 r.1 false) true := by
    refine Ev.step (fun k => by rw [smithylaw02_TokenKeeps.j0]) ?_
    exact Ev.ite_neg (by decide) h0
  refine Ev.rounds (Ev.congr (fun k => by rw [smithylaw02_TokenKeeps.f]) (Ev.bind awake_ev (Ev.ite_pos rfl ?_)))
  by_cases hc : (s.size : Int) > 20000
  · exact Ev.ite_pos hc (Ev.now _)
  · refine Ev.ite_neg hc (Ev.bind r1 (Ev.bind r1 (Ev.ite_neg (by simp) (Ev.bind (same_ev r.1 (by omega)) ?_))))
    exact hj
end Go.Proofs.Ytimnlnkjogbjfaa.Pure
