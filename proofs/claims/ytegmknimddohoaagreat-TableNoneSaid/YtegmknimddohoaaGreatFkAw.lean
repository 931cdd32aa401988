/- The law's own check, run. No statement is proved here. -/
import Derived.Test.YtegmknimddohoaaGreatFkT8
namespace Go.Ev
open Go.Proofs
set_option maxRecDepth 100000
theorem fk_awake : pureN Tryz.prog tyTab 400 (fk_ch fk_t8 fk_m8) 13 [] = some (.bool true) := by kernel_rfl
end Go.Ev
