import Derived.Test.YtajijcfikihhjaaGreatDoorLC
set_option linter.unusedSimpArgs false
set_option linter.unusedVariables false
set_option maxRecDepth 100000
set_option maxHeartbeats 16000000
namespace Go.Proofs.YtajijcfikihhjaaGreatDoor
open Go.RowKit Go.Sort Go.Shelf
attribute [local go_sem] Oper.semAt_some
theorem LgsAt.new {V : World} {x : Lg} {a1 : Option Addr} {c1 : Nat} (h : EnAt V a1 x.es) : LgsAt (V.alloc (.cells #[.int .i64 (x).st, .slice a1 (x).es.length c1, .int .u64 (x).ch] 44 (0, 0))) (some ⟨V.heap.size, 0, none⟩) [(x, ⟨a1, c1⟩)] :=
 ⟨SlAt.new V _ 44 3 _ (by simp [lgRow]) (by simp [lgRow]), fun y hy => by rw [List.mem_singleton.1 hy]; exact h.below (Qg _)⟩
end Go.Proofs.YtajijcfikihhjaaGreatDoor
