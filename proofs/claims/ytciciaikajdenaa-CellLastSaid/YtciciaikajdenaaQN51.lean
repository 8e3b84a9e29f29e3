/- N51: CellLast. -/
import Derived.Test.YtciciaikajdenaaQN27
import Derived.Test.YtciciaikajdenaaQN50
set_option linter.unusedVariables false
namespace Go.Proofs.Ytciciaikajdenaa
open Go.RowKit

theorem cellLast_c (v u : Val) (hv : v.low) (hu : u.low) : RunsP Try.prog 11 [.agg (valD v), .agg (valD u)] (fun r => r = .v (.bool true)) := cellLast_w (fun σ => known_c) v u hv hu
end Go.Proofs.Ytciciaikajdenaa
