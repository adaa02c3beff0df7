-- Written for this seat by wip/tools/xprint.py of this repo.
import Derived.Test.YtdniecpijkhpnaaX6
import Derived.Test.YtdniecpijkhpnaaOpenT
namespace Go.Proofs.Ytdniecpijkhpnaa.X
open Go.RowKit Go.Proofs.YtdniecpijkhpnaaW.PrintWords Go.Proofs.YtdniecpijkhpnaaW.PrintLast Go.Proofs.YtdniecpijkhpnaaW.PrintMore
attribute [local go_sem] max2_int min2_int max_two min_two max_three min_three max_four min_four   -- for this text's walks alone
set_option linter.unusedVariables false
set_option linter.unusedSimpArgs false

/-- What is left of the law FnExactGreedyLines: a statement on numbers and lists. -/
def PureFnExactGreedyLines : Prop := ∀ (l0 : List ByteArray), ∀ (a1 : Int), (l0.length ≤ maxLen ∧ ∀ y ∈ l0, y.size ≤ maxLen) → (Lit.int .i64 a1).wf = true → ∃ k, laws_FnExactGreedyLines.f k l0 a1 = some true
end Go.Proofs.Ytdniecpijkhpnaa.X
