/- The statement FnExactPivotInSaid is proved, for every input, without a condition. -/
import Derived.Test.YtbbgojaloebknaaVcZI
namespace Go.Proofs.Ytbbgojaloebknaa
theorem FnExactPivotIn_proved : Rows.FnExactPivotInSaid := Vc.FnExactPivotIn_holds
end Go.Proofs.Ytbbgojaloebknaa
