import Derived.Test.YtajijcfikihhjaaGreatDoorLC
set_option linter.unusedSimpArgs false
set_option linter.unusedVariables false
set_option maxRecDepth 100000
set_option maxHeartbeats 16000000
namespace Go.Proofs.YtajijcfikihhjaaGreatDoor
open Go.RowKit Go.Sort Go.Shelf
attribute [local go_sem] Oper.semAt_some
theorem EnAt.set3 {w : World} {a : Option Addr} {es : List En} (h : EnAt w a es) {b : Nat} {c0 c1 c2 : Value} {T : TypeId} (hb : w.heap[b]? = some (.cells #[c0, c1, c2] T (0, 0))) (v0 v1 v2 : Value) : EnAt (Go.Proofs.YtajijcfikihhjaaGreatDoor.set3 w b v0 v1 v2) a es := by
 cases es with
 | nil => exact SlAt.nil _ _ _
 | cons e es => exact SlAt.keepB (h : SlAt _ _ _ _) (((KeepB.refl w.heap.size [b] w).set (.inl (by simp)) _).set (.inl (by simp)) _ |>.set (.inl (by simp)) _) (fun ad ea => by rw [List.mem_singleton]; exact SlAt.far (sz := 6) (rows := es.map enRow) (r := enRow e) h hb (by show 3 < 6; omega) ad ea)
theorem set3_far {v : World} {b k : Nat} {o : Obj} (h : v.heap[k]? = some o) (hk : k ≠ b) (a0 a1 a2 : Value) : (Go.Proofs.YtajijcfikihhjaaGreatDoor.set3 v b a0 a1 a2).heap[k]? = some o :=
 (heap_setCell_other _ _ _ _ (show k ≠ b from hk)).trans ((heap_setCell_other _ _ _ _ (show k ≠ b from hk)).trans ((heap_setCell_other _ _ _ _ (show k ≠ b from hk)).trans h))
theorem LgsAt.new {V : World} {x : Lg} {a1 : Option Addr} {c1 : Nat} (h : EnAt V a1 x.es) : LgsAt (V.alloc (.cells #[.int .i64 x.st, .slice a1 x.es.length c1, .int .u64 x.ch] 44)) (some ⟨V.heap.size, 0, none⟩) [(x, ⟨a1, c1⟩)] :=
 ⟨SlAt.new V _ 44 3 _ (by simp [lgRow]) (by simp [lgRow]), fun y hy => by rw [List.mem_singleton.1 hy]; exact h.below (Qg _)⟩
end Go.Proofs.YtajijcfikihhjaaGreatDoor
