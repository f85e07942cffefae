
/- Contracts of package pre: halves, what is common. -/
import Derived.Test.YticfcigkldkhmaaPre4
set_option linter.unusedVariables false
namespace Go.Proofs.Yticfcigkldkhmaa
open Go.RowKit Go.Sort Wc Wk


end Go.Proofs.Yticfcigkldkhmaa
