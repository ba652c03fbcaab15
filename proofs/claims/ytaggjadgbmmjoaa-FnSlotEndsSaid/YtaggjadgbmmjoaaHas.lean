/- Is a number in a list, in the reference. No condition. -/
import Derived.Test.YtaggjadgbmmjoaaTyInt
import Derived.Test.YtaggjadgbmmjoaaBase2
namespace Go.Proofs.Ytaggjadgbmmjoaa
open Go.RowKit Go.ChangeShapes Go.WideShapes Go.Deep


end Go.Proofs.Ytaggjadgbmmjoaa
