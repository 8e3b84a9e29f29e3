/- N39: CellApart. -/
import Derived.Test.YtciciaikajdenaaQN27
import Derived.Test.YtciciaikajdenaaQN38
set_option linter.unusedVariables false
namespace Go.Proofs.Ytciciaikajdenaa
open Go.RowKit

theorem cellApart_c (v : Val) (tw : Bool) (hv : v.low) : RunsP Try.prog 7 [.agg (valD v), .v (.bool tw)] (fun r => r = .v (.bool true)) := cellApart_w (fun σ => known_c) v tw hv
end Go.Proofs.Ytciciaikajdenaa
