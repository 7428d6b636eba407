/- The remainder (it stands in Addr0). -/
import Derived.Test.YtmjahjdnfijpkaaDoorAddr0
set_option linter.unusedSimpArgs false
set_option linter.unusedVariables false
namespace Go.Proofs.YtmjahjdnfijpkaaDoor
end Go.Proofs.YtmjahjdnfijpkaaDoor
