import Derived.Test.YtajijcfikihhjaaGreatDoorLD
set_option linter.unusedSimpArgs false
set_option linter.unusedVariables false
set_option maxRecDepth 100000
set_option maxHeartbeats 16000000
namespace Go.Proofs.YtajijcfikihhjaaGreatDoor
open Go.RowKit Go.Sort Go.Shelf
attribute [local go_sem] Oper.semAt_some
theorem logsB_mk {st : Int} {es : List En} (h1 : 1 ≤ st ∧ st ≤ 1000000) (h2 : es.length ≤ 5000) (h3 : EntsOk es) : QU [mkLg st es] = true := by
 unfold QU; simp [Jn h1 h2 h3]
end Go.Proofs.YtajijcfikihhjaaGreatDoor
