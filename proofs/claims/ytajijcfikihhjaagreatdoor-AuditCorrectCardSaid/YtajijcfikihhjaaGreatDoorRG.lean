import Derived.Test.YtajijcfikihhjaaGreatDoorLA
import Derived.Test.YtajijcfikihhjaaGreatDoorLH
import Derived.Test.YtajijcfikihhjaaGreatDoorTie
import Derived.Test.YtajijcfikihhjaaGreatDoorCards
set_option linter.unusedSimpArgs false
set_option linter.unusedVariables false
set_option maxRecDepth 100000
set_option maxHeartbeats 16000000
namespace Go.Proofs.YtajijcfikihhjaaGreatDoor
open Go.ChangeShapes Go.WideShapes Go.ChangeAt Go.RowKit Go.Sort Go.Deep
theorem wf_u16 {n : Int} (h : (Lit.int .u16 n).wf = true) : 0 ≤ n ∧ n ≤ 65535 := by
 simp [Lit.wf] at h
 have h1 : IntKind.u16.min = 0 := by decide
 have h2 : IntKind.u16.max = 65535 := by decide
 rw [h1, h2] at h; omega
instance : Inhabited Dd := ⟨⟨0, 0, 0, 0, 0⟩⟩
section
variable {H : Type} {enc : TypeId × Value → H} {w : World} {held : Bool}
theorem deed_trod {n : Nat} {cs : List Value} {y : DataW H × List MemPlace} (h : DataW.trod enc Tryz.prog w 0 (fun _ => true) held n 115 cs = some y) : ∃ x : Dd, cs = Qaz x ∧ DdOk x := by
 have h5 := (DataW.trod_struct Tryz.underlying115 h).choose_spec.choose_spec.2.2.1.trans (show Tryz.prog.cellsOf 115 = 5 by kernel_rfl)
 match cs, h5 with
 | [c0, c1, c2, c3, c4], _ =>
  obtain ⟨m0, rfl, w0⟩ := fint Tryz.underlying115 h 0 rfl rfl (k := .u8) Tryz.underlying5 (by kernel_rfl)
  obtain ⟨m1, rfl, w1⟩ := fint Tryz.underlying115 h 1 rfl rfl (k := .u8) Tryz.underlying5 (by kernel_rfl)
  obtain ⟨m2, rfl, w2⟩ := fint Tryz.underlying115 h 2 rfl rfl (k := .u8) Tryz.underlying5 (by kernel_rfl)
  obtain ⟨m3, rfl, w3⟩ := fint Tryz.underlying115 h 3 rfl rfl (k := .u16) Tryz.underlying113 (by kernel_rfl)
  obtain ⟨m4, rfl, w4⟩ := fint Tryz.underlying115 h 4 rfl rfl (k := .u64) Tryz.underlying42 (by kernel_rfl)
  obtain ⟨a0, b0⟩ := Qbe w0
  obtain ⟨a1, b1⟩ := Qbe w1
  obtain ⟨a2, b2⟩ := Qbe w2
  obtain ⟨a3, b3⟩ := wf_u16 w3
  obtain ⟨k0, rfl⟩ := Int.eq_ofNat_of_zero_le a0
  obtain ⟨k1, rfl⟩ := Int.eq_ofNat_of_zero_le a1
  obtain ⟨k2, rfl⟩ := Int.eq_ofNat_of_zero_le a2
  obtain ⟨k3, rfl⟩ := Int.eq_ofNat_of_zero_le a3
  exact ⟨⟨k0, k1, k2, k3, m4⟩, rfl, ⟨by dsimp only; omega, by dsimp only; omega, by dsimp only; omega, by dsimp only; omega, wf_u64' w4⟩⟩
theorem dds_of {base : Nat} {v : Value} {d : DataW H} {p : List MemPlace} (hv : Value.okWide Tryz.prog w .any base 62 v) (h : DataW.Trod enc Tryz.prog w 0 (fun _ => true) held 62 v d p) :
  ∃ (a : Option Addr) (cap : Nat) (l : List Dd), v = .slice a l.length cap ∧ SlAt w a 5 (l.map Qaz) ∧ ∀ x ∈ l, DdOk x := by
 obtain ⟨a0, len0, cap0, rfl⟩ := okWide_slice Tryz.underlying62 hv
 obtain ⟨fuel, h⟩ := h
 obtain ⟨a, k, l, e, b, o, s, q⟩ := YJ (cells := Qaz) (Q := DdOk) Tryz.underlying62 (k := 5) (by kernel_rfl) (fun _ => rfl) (by decide) h (fun _ _ _ h => deed_trod h)
 exact ⟨a, k, l, e, s, q⟩
end
theorem argD_of {H : Type} {enc : TypeId × Value → H} {w : World} {base : Nat} {held : Bool} {v0 v1 : Value} {d0 d1 : DataW H} {p0 p1 : List MemPlace} (k0 : Value.okWide Tryz.prog w .any base 27 v0) (k1 : Value.okWide Tryz.prog w .any base 28 v1)
  (h0 : DataW.Trod enc Tryz.prog w 0 (fun _ => true) held 27 v0 d0 p0) (h1 : DataW.Trod enc Tryz.prog w 0 (fun _ => true) held 28 v1 d1 p1) (hE : EnvP w) :
  ∃ (L : Lb) (P : Lbp) (d : List De) (da : Option Addr) (dc : Nat), v0 = .agg #[.slice P.wa L.ws.length P.wc, .slice P.ea L.eds.length P.ec, .slice P.sa L.shs.length P.sc, .slice P.la L.los.length P.lc] ∧ v1 = .slice da d.length dc ∧ ArgA w L P d da dc [] none 0 ∧ ∀ s ∈ L.shs, 0 ≤ s.dg ∧ s.dg < 18446744073709551616 := by
 obtain ⟨L, P, rfl, hl, n1, n2, n3, n4, sw⟩ := lib_of k0 h0
 obtain ⟨da, dc, d, rfl, n5, dk, hd⟩ := des_of k1 h1
 exact ⟨L, P, d, da, dc, rfl, rfl, ⟨hl, hd, dk, ⟨SlAt.nil _ _ _, by simp⟩, SlOk.nil, by simp, by simp, n1, n5, by simp, n2, n3, n4, by simp, hE⟩, sw⟩
theorem auditcorrect_lifted (os : Os) (started : os.Started) (H : Type) (enc : TypeId × Value → H) :
  ReturnsInHanded {} Tryz.checked os 8 .any (fun w args => (Rows.auditCorrectSpec.pre enc Tryz.prog Tryz.f8 [] false w args ∧ laidMetH Tryz.prog YO w) ∧ sizedMet enc Tryz.prog Tryz.f8 (OpenSpec.ofChange Rows.auditCorrectSpec) false w args) (Rows.auditCorrectSpec.post enc Tryz.prog Tryz.f8 false true false false) := by
 refine returnsInHanded_of_change_and (C := Tryz.checked) (X := fun w _ => laidMetH Tryz.prog YO w) (fun _ _ _ hh h => h.of_heap hh) ownT started (by kernel_rfl) Tryz.func8
  (ChangeSpec.witness_shaped (enc := enc) (C := Tryz.checked) (os := os) (X := fun w _ => laidMetH Tryz.prog YO w) false (World.doorLaid Tryz.prog 272 os) #[.agg #[.slice none 0 0, .slice none 0 0, .slice none 0 0, .slice none 0 0], .slice none 0 0, .int .u8 0, .slice none 0 0] 8 rfl (World.shaped_of_RefB (by kernel_rfl) (by kernel_rfl)) (by kernel_rfl) (by kernel_rfl) (by kernel_rfl) (door_met os _)) ?_
 intro W base args ds gs before hval0 hW _ hsz0 hL _
 have hval : ∀ (j : Nat) t v, Tryz.f8.params[j]? = some t → args[j]? = some v → Value.okWide Tryz.prog W .any base t v := hval0
 have hW' := hW
 obtain ⟨p, q, hA0, hV, rfl, hfz, hnd⟩ := hW
 have hA : DataW.TrodAll enc Tryz.prog W 0 (fun _ => true) true Tryz.f8.params.toList args.toList ds p := hA0
 have hsz : (DataW.weightsEach Tryz.prog (Tryz.f8.params.toList ++ Rows.auditCorrectSpec.plain.varTypes Tryz.prog) (ds ++ gs)).all (· ≤ reachBytes) = true := hsz0
 rw [Tryz.params8] at hA hval hsz
 have hK := hA
 obtain ⟨v0, v1, v2, v3, d0, d1, d2, d3, p0, p1, p2, p3, rfl, rfl, h0, h1, h2, h3⟩ := args_4 hA
 obtain ⟨rfl, rfl⟩ := trodVars_none hV
 simp only [List.append_nil] at hW'
 have hlt : ∀ y ∈ p, y.block < W.heap.size := fun y hy => hW'.lt y hy
 have hE := env_of_laid hL
 obtain ⟨L, P, d, da, dc, rfl, rfl, hG, hsw⟩ := argD_of (hval 0 _ _ rfl rfl) (hval 1 _ _ rfl rfl) h0 h1 hE; obtain ⟨c, rfl, rfl, rfl, hwf⟩ := open_int Tryz.underlying5 (hval 2 _ _ rfl rfl) h2; obtain ⟨c0, c1⟩ := Qbe hwf; obtain ⟨c, rfl⟩ := Int.eq_ofNat_of_zero_le c0; obtain ⟨ta, tcp, ds, rfl, hds, hdd⟩ := dds_of (hval 3 _ _ rfl rfl) h3
 clear hA0 hval0 hsz0
 refine (AuditCorrect_any L P d da dc c ds ta tcp W (by omega) hdd hds hsw hG).mono fun e W' ⟨he, bel⟩ => ?_
 subst he
 refine ⟨_, rfl, ⟨_, _, _, [], p, [], hW', ?_, ?_, rfl, bel.frame _, fun h => by cases h⟩⟩
 ·exact trodAll_mk1 (shut_bool Tryz.underlying4 true)
 ·exact trodAll_below laidOutT (fun t ht => by have e : (decide (t < Tryz.prog.types.size) && Tryz.prog.readableRec t) = true := List.all_eq_true.1 (show ([27, 28, 5, 62] : List TypeId).all (fun t => decide (t < Tryz.prog.types.size) && Tryz.prog.readableRec t) = true by kernel_rfl) t ht; rw [Bool.and_eq_true] at e; exact ⟨e.2, of_decide_eq_true e.1⟩) hK bel hlt
theorem auditcorrect_closed : joinedFacts Tryz.pinned.checked.prog 8 Tryz.f8 Rows.auditCorrectSpec Rows.auditCorrectRow = true := by
 unfold joinedFacts
 repeat' (with_reducible refine both ?_ ?_)
 all_goals (as_aux_lemma => kernel_rfl)
theorem auditcorrect_holds : Rows.AuditCorrectSaid :=
 OpenClaim.holds_of_wide 8 Tryz.f8 rfl rfl rfl rfl rfl rfl rfl ⟨rfl, rfl, rfl, rfl, rfl⟩ rfl rfl rfl rfl rfl (by kernel_rfl) Tryz.func8 auditcorrect_closed
  (of_decide_eq_true (by kernel_rfl)) (by unfold Func.isWrapper; rw [if_neg (by decide +kernel)]; exact ⟨rfl, rfl⟩)
  (fun os started H enc _ => auditcorrect_lifted os started H enc)
theorem auditcorrect_card : Rows.AuditCorrectCardSaid :=
 Claim7.holds_tied_plain_at .later [] Rows.auditCorrectCard.laidKinds true Rows.auditCorrectCard.stood.harness false auditcorrect_holds (fun _ h => by cases h) (by kernel_rfl) (fun _ h => by cases h) auditCorrect_row_tie rfl ⟨rfl, rfl⟩ (by kernel_rfl) rfl
  (fun f fn hf hfn => by
   obtain rfl : f = 8 := Option.some.inj ((show Tryz.prog.funcNamed Rows.auditCorrectRow.func = some 8 by kernel_rfl).symm.trans hf) |>.symm
   obtain rfl : fn = Tryz.f8 := (Option.some.inj (Tryz.func8.symm.trans hfn)).symm
   exact ⟨by kernel_rfl, fun j t ht => by
    rw [Tryz.params8] at ht
    have hm : t ∈ [27, 28, 5, 62] := by simpa using Array.mem_of_getElem? ht
    have hall : (([27, 28, 5, 62] : List TypeId).all fun u => !Tryz.prog.wantsStandIn u) = true := by kernel_rfl
    exact (show Tryz.prog.wantsStandIn t = false by simpa using List.all_eq_true.1 hall t hm)⟩)
  (by kernel_rfl)
end Go.Proofs.YtajijcfikihhjaaGreatDoor
