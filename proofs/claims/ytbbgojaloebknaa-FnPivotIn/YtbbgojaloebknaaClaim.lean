/- The statement FnPivotInSaid is proved, for every input, without a condition. -/
import Derived.Test.YtbbgojaloebknaaVcR6
namespace Go.Proofs.Ytbbgojaloebknaa
theorem FnPivotIn_proved : Rows.FnPivotInSaid := Vc.FnPivotIn_holds
end Go.Proofs.Ytbbgojaloebknaa
