/- The document's examples. -/
import Derived.Test.YtapagoaoglmegaaPClx18
namespace Go.Proofs.Ytapagoaoglmegaa
open Go.RowKit Go.Proofs.YtapagoaoglmegaaW.PrintWords Go.Proofs.YtapagoaoglmegaaW.PrintLast Go.Proofs.YtapagoaoglmegaaW.PrintMore PCl
set_option linter.unusedVariables false
set_option maxRecDepth 100000
theorem awake_30 : ephemerislaw23_awake.f 30 = some true := by kernel_rfl
theorem awake_f : ∀ k, 30 ≤ k → ephemerislaw23_awake.f k = some true
  | 0, h => by omega
  | k + 1, h => by
    by_cases e : k + 1 = 30
    · rw [e]; exact awake_30
    · exact ephemerislaw23_awake.mono k _ (awake_f k (by omega))
end Go.Proofs.Ytapagoaoglmegaa
