
/- Contracts of package pre: spans, halves, what is common. -/
import Derived.Test.YtlcacocecdnpnaaPre3
import Derived.Test.YtlcacocecdnpnaaPlain4
import Derived.Test.YtlcacocecdnpnaaShelf
set_option linter.unusedVariables false
namespace Go.Proofs.Ytlcacocecdnpnaa
open Go.RowKit Go.Sort Wc Wk


end Go.Proofs.Ytlcacocecdnpnaa
