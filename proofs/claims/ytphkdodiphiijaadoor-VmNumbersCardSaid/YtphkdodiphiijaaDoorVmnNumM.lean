/- A closed statement, reckoned piece by piece (lines written by a program of this session's; no condition). -/
import Derived.Test.YtphkdodiphiijaaDoorVmnN1
import Derived.Test.YtphkdodiphiijaaDoorVmnN2
import Derived.Test.YtphkdodiphiijaaDoorVmnN3
import Derived.Test.YtphkdodiphiijaaDoorVmnN4
import Derived.Test.YtphkdodiphiijaaDoorVmnN5
import Derived.Test.YtphkdodiphiijaaDoorVmnN6
import Derived.Test.YtphkdodiphiijaaDoorVmnN7
import Derived.Test.YtphkdodiphiijaaDoorVmnN8
import Derived.Test.YtphkdodiphiijaaDoorVmnN9
import Derived.Test.YtphkdodiphiijaaDoorVmnN10
import Derived.Test.YtphkdodiphiijaaDoorEngQ
namespace Go.Eng.Vmn
open Go Go.Eng
set_option linter.unusedSectionVars false
set_option linter.unusedVariables false
set_option maxRecDepth 100000
theorem law_VmNumbers : Fn T 3 [] [] (fun r h => r = .bool true) := by
  refine Fn.enterE t3 (e0 := f3_0) (by kernel_rfl) ?_
  refine Run.clr ?_
  show Run T _ f3_0 g3_0 _
  refine Run.segc3 200 s3_1 ?_
  refine Run.segc3 200 s3_2 ?_
  refine Run.segc3 200 s3_3 ?_
  refine Run.segc3 200 s3_4 ?_
  refine Run.segc3 200 s3_5 ?_
  refine Run.segc3 200 s3_6 ?_
  refine Run.segc3 200 s3_7 ?_
  refine Run.segc3 200 s3_8 ?_
  refine Run.segc3 200 s3_9 ?_
  refine Run.segc3 200 s3_10 ?_
  refine Run.segc3 200 s3_11 ?_
  refine Run.segc3 200 s3_12 ?_
  refine Run.segc3 200 s3_13 ?_
  refine Run.segc3 200 s3_14 ?_
  refine Run.segc3 200 s3_15 ?_
  refine Run.segc3 200 s3_16 ?_
  refine Run.segc3 200 s3_17 ?_
  refine Run.segc3 200 s3_18 ?_
  refine Run.segc3 200 s3_19 ?_
  refine Run.segc3 200 s3_20 ?_
  refine Run.segc3 200 s3_21 ?_
  refine Run.segc3 200 s3_22 ?_
  refine Run.segc3 200 s3_23 ?_
  refine Run.segc3 200 s3_24 ?_
  refine Run.segc3 200 s3_25 ?_
  refine Run.segc3 200 s3_26 ?_
  have hz := z3
  cases he : exec (exF T 200) 200 .ret f3_26 g3_26 with
  | none => rw [he] at hz; cases hz
  | some r =>
    obtain ⟨x, e, h1⟩ := r
    rw [he] at hz
    simp only [Option.bind_some] at hz
    split at hz
    · rename_i hx
      simp only [Option.some.injEq] at hz
      refine ⟨200, x, e, h1, he, ?_⟩
      cases x with
      | nrm => exact ⟨_, rfl, hz⟩
      | ret => exact ⟨_, rfl, hz⟩
      | ext i => cases hx
    · cases hz
end Go.Eng.Vmn
