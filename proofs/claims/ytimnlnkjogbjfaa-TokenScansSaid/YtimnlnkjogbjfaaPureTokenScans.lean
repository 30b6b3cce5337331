/- The one pure statement of TokenScans: the program's Scan and the document's give the same tokens and the same fault of every source (no condition but the size of a text that a machine holds). -/
import Derived.Test.YtimnlnkjogbjfaaLemE
namespace Go.Proofs.Ytimnlnkjogbjfaa.Pure
open Go.RowKit Go.Proofs.Ytimnlnkjogbjfaa.X Go.Proofs.YtimnlnkjogbjfaaW.PrintWords Go.Proofs.YtimnlnkjogbjfaaW.PrintLast
theorem TokenScans : smithylaw02_TokenScans.Pure := by
  intro s hs
  obtain ⟨r, r1, r2, r3⟩ := scan_same s hs
  refine Ev.rounds (Ev.congr (fun k => by rw [smithylaw02_TokenScans.f]) (Ev.bind awake_ev (Ev.ite_pos rfl (Ev.bind r1 (Ev.bind r2 ?_)))))
  refine Ev.ite_pos (by simp) (Ev.bind (same_ev r.1 (by omega)) (Ev.now _))
end Go.Proofs.Ytimnlnkjogbjfaa.Pure
