/- The remainder (it stands in Addr0). -/
import Derived.Test.YtpkgfkhaiifooaaDoorAddr0
set_option linter.unusedSimpArgs false
set_option linter.unusedVariables false
namespace Go.Proofs.YtpkgfkhaiifooaaDoor
end Go.Proofs.YtpkgfkhaiifooaaDoor
