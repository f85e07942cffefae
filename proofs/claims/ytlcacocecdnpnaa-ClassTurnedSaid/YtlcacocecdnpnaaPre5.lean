
/- Contracts of package pre: halves, what is common. -/
import Derived.Test.YtlcacocecdnpnaaPre4
set_option linter.unusedVariables false
namespace Go.Proofs.Ytlcacocecdnpnaa
open Go.RowKit Go.Sort Wc Wk


end Go.Proofs.Ytlcacocecdnpnaa
