/- slices.Grow of nil, slices.Concat, at one element type. The lengths stay below 2^30. -/
import Derived.Test.YtmjpcaiehfimgaaTypes
import Derived.Test.YtmjpcaiehfimgaaMake
namespace Go.Proofs.Ytmjpcaiehfimgaa
open Go.RowKit Go.Ev

end Go.Proofs.Ytmjpcaiehfimgaa
