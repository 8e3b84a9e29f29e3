/- N46: CellOrder. -/
import Derived.Test.YtciciaikajdenaaQN27
import Derived.Test.YtciciaikajdenaaQN45
set_option linter.unusedVariables false
namespace Go.Proofs.Ytciciaikajdenaa
open Go.RowKit

theorem cellOrder_c (v : Val) (hv : v.low) : RunsP Try.prog 10 [.agg (valD v)] (fun r => r = .v (.bool true)) := cellOrder_w (fun σ => known_c) v hv
end Go.Proofs.Ytciciaikajdenaa
