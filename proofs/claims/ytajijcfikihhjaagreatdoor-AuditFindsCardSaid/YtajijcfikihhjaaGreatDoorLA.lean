import Derived.Test.YtajijcfikihhjaaGreatDoorAAW
import Derived.LaidMore
import Derived.Stop.LaidErr
import Derived.OpenShut
import Derived.Stop.Joined
set_option linter.unusedSimpArgs false
set_option linter.unusedVariables false
set_option maxRecDepth 100000
set_option maxHeartbeats 16000000
namespace Go.Proofs.YtajijcfikihhjaaGreatDoor
open Go.ChangeShapes Go.WideShapes Go.ChangeAt Go.RowKit Go.Sort Go.Deep
theorem both {a b : Bool} (h : a = true) (k : b = true) : (a && b) = true := by rw [h, k]; rfl
def YO : List (String × DataW Unit) := Rows.auditEachRow.laid
theorem env_of_laid {W : World} (h : laidMetH Tryz.prog YO W) : EnvP W := by
 rw [MakeChecks.laidMetH_plain _ _ _ (by kernel_rfl)] at h
 exact ⟨Lib.tabIs_of_head (P := Tryz.prog) (k := .u64) (zs := Lib.pow10Tab) (g := 0) (t := 306) (e := 42) (n := 20) (by kernel_rfl) (by kernel_rfl) Tryz.underlying306 Tryz.underlying42 (by kernel_rfl) (by kernel_rfl) h.tail.tail⟩
theorem door_met (os : Os) (args : Array Value) : laidMetH Tryz.prog YO ((World.doorLaid Tryz.prog 272 os).forCall (fun _ _ => 0) ⟨#[], args, []⟩).memory :=
 laidMetH_of_parts3 (fuel := 8) (laidMet_of_run' 8 (by kernel_rfl) (by kernel_rfl)) (by kernel_rfl) (by kernel_rfl)
theorem arg_of {H : Type} {enc : TypeId × Value → H} {w : World} {base : Nat} {held : Bool} {v0 v1 v2 : Value} {d0 d1 d2 : DataW H} {p0 p1 p2 : List MemPlace} (k0 : Value.okWide Tryz.prog w .any base 27 v0) (k1 : Value.okWide Tryz.prog w .any base 28 v1) (k2 : Value.okWide Tryz.prog w .any base 29 v2)
  (h0 : DataW.Trod enc Tryz.prog w 0 (fun _ => true) held 27 v0 d0 p0) (h1 : DataW.Trod enc Tryz.prog w 0 (fun _ => true) held 28 v1 d1 p1) (h2 : DataW.Trod enc Tryz.prog w 0 (fun _ => true) held 29 v2 d2 p2) (hE : EnvP w) :
  ∃ (L : Lb) (P : Lbp) (d : List De) (da : Option Addr) (dc : Nat) (l : List (Lg × Lq)) (a : Option Addr) (cap : Nat), v0 = .agg #[.slice (P).wa (L).ws.length (P).wc, .slice (P).ea (L).eds.length (P).ec, .slice (P).sa (L).shs.length (P).sc, .slice (P).la (L).los.length (P).lc] ∧ v1 = .slice da d.length dc ∧ v2 = .slice a l.length cap ∧ ArgA w L P d da dc l a cap ∧ ∀ s ∈ L.shs, 0 ≤ s.dg ∧ s.dg < 18446744073709551616 := by
 obtain ⟨L, P, rfl, hl, n1, n2, n3, n4, sw⟩ := lib_of k0 h0
 obtain ⟨da, dc, d, rfl, n5, dk, hd⟩ := des_of k1 h1
 obtain ⟨a, cap, l, rfl, n6, lk, hg, lo, lw, n7⟩ := logs_of k2 h2
 exact ⟨L, P, d, da, dc, l, a, cap, rfl, rfl, rfl, ⟨hl, hd, dk, hg, lk, lo, lw, n1, n5, n6, n2, n3, n4, n7, hE⟩, sw⟩
end Go.Proofs.YtajijcfikihhjaaGreatDoor
