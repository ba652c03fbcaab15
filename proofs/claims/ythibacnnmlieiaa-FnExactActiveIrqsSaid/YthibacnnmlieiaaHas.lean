/- Is a number in a list, in the reference. No condition. -/
import Derived.Test.YthibacnnmlieiaaTyInt
import Derived.Test.YthibacnnmlieiaaBase2
namespace Go.Proofs.Ythibacnnmlieiaa
open Go.RowKit Go.ChangeShapes Go.WideShapes Go.Deep


end Go.Proofs.Ythibacnnmlieiaa
