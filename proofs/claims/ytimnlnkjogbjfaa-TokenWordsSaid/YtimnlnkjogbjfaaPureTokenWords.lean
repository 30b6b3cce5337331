/- The one pure statement of TokenWords: the program's Word and the document's Word agree at every text (no condition but the size of a text that a machine holds). -/
import Derived.Test.YtimnlnkjogbjfaaLemA
namespace Go.Proofs.Ytimnlnkjogbjfaa.Pure
open Go.RowKit Go.Proofs.Ytimnlnkjogbjfaa.X Go.Proofs.YtimnlnkjogbjfaaW.PrintWords Go.Proofs.YtimnlnkjogbjfaaW.PrintLast
theorem TokenWords : smithylaw02_TokenWords.Pure := by
  intro s hs
  refine Ev.rounds (Ev.congr (fun k => by rw [smithylaw02_TokenWords.f]) (Ev.bind awake_ev (Ev.congr (fun k => by rw [if_pos rfl]) (Ev.bind (prog_word_ev s) (Ev.bind (ref_word s hs) ?_)))))
  simp only [beq_self_eq_true]
  exact Ev.now true
end Go.Proofs.Ytimnlnkjogbjfaa.Pure
