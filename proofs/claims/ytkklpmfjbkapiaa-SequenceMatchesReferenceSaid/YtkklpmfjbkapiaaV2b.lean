/- THE MATCHING AND THE EXAMPLES, as the law walks take them. -/
import Derived.Test.YtkklpmfjbkapiaaV2
import Derived.Test.YtkklpmfjbkapiaaW3
namespace Go.Proofs.Ytkklpmfjbkapiaa
open Go.RowKit
theorem matchSaid : MatchSaid := fun A B c d a b w h1 h2 h3 h4 => match_any A B c d a b w h1 h2 h3 h4
theorem headSaid : HeadSaid := fun w => head_any matchSaid w
end Go.Proofs.Ytkklpmfjbkapiaa
