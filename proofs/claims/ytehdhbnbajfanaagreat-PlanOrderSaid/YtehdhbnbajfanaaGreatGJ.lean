/- Texts of this seat, laid together: PlanGive, PlanMet, PlanR36a, PlanFall, PlanR36b. -/
import Derived.Test.YtehdhbnbajfanaaGreatGI
import Derived.Test.YtehdhbnbajfanaaGreatGH

/- The reference's search for a copy (give) and Met: walked; for at most 200 demands and copies. -/
namespace Go.Proofs.YtehdhbnbajfanaaGreat
set_option linter.unusedSimpArgs false
set_option linter.unusedVariables false
open Go.RowKit Go.Sort

theorem RCost_lit {d : De} {c : Co} {hall X : Int} (h : costI d c hall = X) (w : World) (hl : d.eds.length ≤ 1000) (hd : d.Ok w) :
    Calls Tryz.prog 45 #[.agg #[.int .i64 d.id, .int .i64 d.part, .int .i64 d.stand, .slice d.ea d.eds.length d.ecap], .agg #[.int .i64 c.id, .int .i64 c.part, .int .i64 c.ed, .int .i64 c.hall], .int .i64 hall] w fun e w' => e = .returned (.int .i64 X) ∧ Below w.heap.size w w' := by
  rw [← h]; exact RCost_any d c hall w hl hd
/-- Some demands can be met by some copies. -/
def MetP (ds : List De) (cs : List Co) : Prop := Mtd (may (cc (costM ds cs 0))) (fun i => i < ds.length) cs.length
theorem may_hall {ds : List De} {cs : List Co} {h h' : Int} {i k : Nat} (hi : i < ds.length) (hk : k < cs.length) : may (cc (costM ds cs h)) i k = may (cc (costM ds cs h')) i k := by
  rw [Bool.eq_iff_iff, may_iff, may_iff, costM_row hi hk, costM_row hi hk, costI_may, costI_may]
theorem met_hall {ds : List De} {cs : List Co} (h : Int) : MetP ds cs ↔ Mtd (may (cc (costM ds cs h))) (fun i => i < ds.length) cs.length := by
  constructor
  · rintro ⟨f, hf⟩
    exact ⟨f, hf.lt, fun i hi => by rw [may_hall (h' := 0) hi (hf.lt i hi)]; exact hf.can i hi, hf.inj⟩
  · rintro ⟨f, hf⟩
    exact ⟨f, hf.lt, fun i hi => by rw [may_hall (h' := h) hi (hf.lt i hi)]; exact hf.can i hi, hf.inj⟩
set_option maxRecDepth 100000 in
set_option maxHeartbeats 4000000 in
theorem give_any {w0 : World} {a a2 : Option Addr} {cap cap2 : Nat} {ds : List De} {cs : List Co} {b capb : Nat} (hm : DeAt w0 a ds) (hc : CoAt w0 a2 cs) (h1 : ds.length ≤ 200 ∧ cs.length ≤ 200) (he : ∀ d ∈ ds, d.eds.length ≤ 1000) (hb0 : w0.heap.size ≤ b) :
    ∀ (u r : Nat) (ow : Nat → Int) (seen : Nat → Bool) (bs : Nat) (w : World), cnt seen cs.length ≤ u → r < ds.length → (∀ k, k < cs.length → ow k = -1 ∨ ∃ i : Nat, ow k = i ∧ i < ds.length) →
    (∀ k, k < cs.length → seen k = false → 0 ≤ ow k → may (cc (costM ds cs 0)) (ow k).toNat k = true) → w0.heap.size ≤ bs → b ≠ bs → PSt w0 cs.length b bs w ow seen →
    Calls Tryz.prog 46 #[.slice a ds.length cap, .slice a2 cs.length cap2, .int .i64 r, .slice (some ⟨b, 0, none⟩) cs.length capb, .slice (some ⟨bs, 0, none⟩) cs.length cs.length] w (PlacePost w0 (costM ds cs 0) b bs r ow seen) := by
  intro u
  induction u using Nat.strongRecOn with
  | _ u IH =>
  intro r ow seen bs w hu hr hv hcan hbs hne P
  obtain ⟨bd, od, rfl, c0, c1, c2, c3⟩ := hm.get r hr
  have HC0 := Lib.hid c0; have HC1 := Lib.hid c1; have HC2 := Lib.hid c2; have HC3 := Lib.hid c3
  have HD := Lib.hid (hm.ok ds[r] (List.getElem_mem _)); have hed := he ds[r] (List.getElem_mem _)
  have HI := Lib.hid IH; have HV := Lib.hid hv; have HC := Lib.hid hcan; have HU := Lib.hid hu; have HBS := Lib.hid hbs; have HNE := Lib.hid hne; have HB0 := Lib.hid hb0; have HCO := Lib.hid hc
  have HN := Lib.hid (show wideL (costM ds cs 0) = cs.length from costM_wide (by omega))
  have HCL := Lib.hid (costM_len ds cs 0)
  have HCE := Lib.hid (fun j (hj : j < cs.length) => costM_row (hall := 0) hr hj)
  obtain ⟨h200, hw200⟩ := h1
  clear IH hv hcan hu hbs hne hm hc he hb0 c0 c1 c2 c3
  have HP := Lib.hid P; clear P
  generalize ds[r] = d at *
  go_enter Tryz.func46, Tryz.ntmps46
  go_wp2
  go_loopw [11] (fun i wr => ∃ (j : Nat) (seen' : Nat → Bool) (ks : List Nat), j ≤ cs.length ∧ i = .int .i64 j ∧ PSt w0 cs.length b bs wr ow seen' ∧ No (may (cc (costM ds cs 0))) cs.length ow seen seen' r j ks) (fun i _ => cs.length - (intOf i).toNat)
  case atStart => exact ⟨0, seen, [], Nat.zero_le _, rfl, HP.out, No.start _ _ _ _ _⟩
  case round =>
    clear HP
    obtain ⟨j, seen', ks, hj, rfl, P, N⟩ := hrel
    have HP := Lib.hid P; have HNO := Lib.hid N
    clear P N
    by_cases hlt : j < cs.length
    · obtain ⟨b2, o2, rfl, e0, e1, e2, e3⟩ := HCO.out.get j hlt
      have HCj := Lib.hid (HCE.out j hlt)
      have HMY := Lib.hid (may_iff (cc (costM ds cs 0)) r j)
      generalize cs[j] = c at *
      have HX0 := Lib.hid (show ∃ X, costI d c 0 = X from ⟨_, rfl⟩)
      obtain ⟨X, hX⟩ := HX0.out
      have HX := Lib.hid hX
      rw [hX] at HCj
      clear hX HX0
      have g0 := cell_regrown (keepE HC0.out HP.out.hb); have g1 := cell_regrown (keepE HC1.out HP.out.hb); have g2 := cell_regrown (keepE HC2.out HP.out.hb); have g3 := cell_regrown (keepE HC3.out HP.out.hb)
      have g4 := cell_regrown (keepE e0 HP.out.hb); have g5 := cell_regrown (keepE e1 HP.out.hb); have g6 := cell_regrown (keepE e2 HP.out.hb); have g7 := cell_regrown (keepE e3 HP.out.hb)
      have g8 := cell_regrown (HP.out.rs.cell hlt)
      clear e0 e1 e2 e3
      cases hn : decide (X < 0)
      · have HC2 := Lib.hid (HMY.out.2 (by rw [HCj.out]; simpa using hn))
        cases hs : seen' j
        · have HS := Lib.hid hs
          rw [hs] at g8
          clear hs
          go_wp2
          refine wp_quietB (by kernel_rfl) (by kernel_rfl) ?_; (repeat (go_big_quiet_step (first | (go_at_call 45; exact Calls.regrown_of (RCost_lit HX.out _ hed (HD.out.below (HP.out.hb.trans ((below_regrown _ _ _).mono HP.out.hb.size)))))))); refine wpQuiet_nil ?_; intro wq hq; replace HP := Lib.hid (HP.out.below hq); clear hq g0 g1 g2 g3 g4 g5 g6 g7 g8
          have HP3 := Lib.hid (HP.out.seen HBS.out HNE.out hlt)
          have g4 := HP3.out.ro.cell hlt
          have fo4 := HP3.out.ro.free j
          have gs := HP.out.rs.cell hlt
          rw [HS.out] at gs
          have fs := HP.out.rs.free j
          have hcnt := cnt_upd seen' j cs.length hlt HS.out
          have hcn := HNO.out.cnt cs.length
          rcases HV.out j hlt with ho | ⟨i, ho, him⟩
          · rw [ho] at g4
            have HOj := Lib.hid ho; clear ho
            go_wp2
            go_ret
            exact ⟨true, upd ow j (r : Int), upd seen' j true, rfl, by rw [HN.out]; exact HP3.out.give HB0.out HNE.out hlt _, PV.put (fun k hk => by rw [HN.out] at hk; rw [HCL.out]; exact HV.out k hk) (by rw [HCL.out]; exact hr), .inl ⟨rfl, by rw [HN.out]; exact yes_free hlt (find_unseen HNO.out HS.out) HC2.out (by rw [HOj.out]; decide)⟩⟩
          · rw [ho] at g4
            have HOj := Lib.hid ho; clear ho
            have hng : decide ((i : Int) < 0) = false := by simp <;> omega
            go_wp2_with (fail)
            refine (HI.out (cnt (upd seen' j true) cs.length) (by have := HU.out; omega) i ow (upd seen' j true) bs _ (Nat.le_refl _) him HV.out (fun k hk hsk ho => HC.out k hk (find_sub HNO.out hsk) ho) HBS.out HNE.out HP3.out).mono ?_
            rintro e w5 ⟨ok, ow', seen2, rfl, P5, V5, Y5⟩
            rw [HN.out] at P5 Y5
            clear gs fs g4 fo4 HP3
            clear HP
            have HP := Lib.hid P5
            have HV5 := Lib.hid V5
            clear P5 V5
            have g3 := HP.out.ro.cell hlt
            have fo := HP.out.ro.free j
            rcases Y5 with ⟨rfl, Y⟩ | ⟨rfl, rfl, ks2, N2⟩
            · have HY := Lib.hid Y; clear Y
              go_wp2
              go_ret
              exact ⟨true, upd ow' j (r : Int), seen2, rfl, by rw [HN.out]; exact HP.out.give HB0.out HNE.out hlt _, HV5.out.put (by rw [HCL.out]; exact hr), .inl ⟨rfl, by rw [HN.out]; exact yes_deep hlt (fun k hk => (HNO.out.seen k).2 (.inl hk)) HS.out HC2.out HOj.out HY.out⟩⟩
            · have HN2 := Lib.hid N2; clear N2
              go_wp2
              go_roundw
              case rel => exact ⟨j + 1, seen2, ks ++ j :: ks2, by omega, by go_num, HP.out, HNO.out.deep hlt HS.out HC2.out HOj.out HC.out HN2.out⟩
              case measure => simp [intOf]; omega
        · have HS := Lib.hid hs
          rw [hs] at g8
          clear hs
          go_wp2
          refine wp_quietB (by kernel_rfl) (by kernel_rfl) ?_; (repeat (go_big_quiet_step (first | (go_at_call 45; exact Calls.regrown_of (RCost_lit HX.out _ hed (HD.out.below (HP.out.hb.trans ((below_regrown _ _ _).mono HP.out.hb.size)))))))); refine wpQuiet_nil ?_; intro wq hq; replace HP := Lib.hid (HP.out.below hq); clear hq g0 g1 g2 g3 g4 g5 g6 g7 g8
          go_wp2
          go_roundw
          case rel => exact ⟨j + 1, seen', ks, by omega, by go_num, HP.out, HNO.out.skip (.inl HS.out)⟩
          case measure => simp [intOf]; omega
      · have HC2 := Lib.hid (show may (cc (costM ds cs 0)) r j = false by
          cases q : may (cc (costM ds cs 0)) r j
          · rfl
          · have := HMY.out.1 q
            rw [HCj.out] at this
            simp at hn; omega)
        go_wp2
        refine wp_quietB (by kernel_rfl) (by kernel_rfl) ?_; (repeat (go_big_quiet_step (first | (go_at_call 45; exact Calls.regrown_of (RCost_lit HX.out _ hed (HD.out.below (HP.out.hb.trans ((below_regrown _ _ _).mono HP.out.hb.size)))))))); refine wpQuiet_nil ?_; intro wq hq; replace HP := Lib.hid (HP.out.below hq); clear hq g0 g1 g2 g3 g4 g5 g6 g7 g8
        go_wp2
        go_roundw
        case rel => exact ⟨j + 1, seen', ks, by omega, by go_num, HP.out, HNO.out.skip (.inr HC2.out)⟩
        case measure => simp [intOf]; omega
    · have hjn : j = cs.length := by omega
      have HJ := Lib.hid hjn; clear hjn
      go_wp2
      go_ret
      exact ⟨false, ow, seen', rfl, by rw [HN.out]; exact HP.out, fun k hk => by rw [HN.out] at hk; rw [HCL.out]; exact HV.out k hk, .inr ⟨rfl, rfl, ks, by rw [HN.out]; exact HJ.out ▸ HNO.out⟩⟩
end Go.Proofs.YtehdhbnbajfanaaGreat


/- The reference's Met: walked; for at most 200 demands and copies. -/
namespace Go.Proofs.YtehdhbnbajfanaaGreat
set_option linter.unusedSimpArgs false
set_option linter.unusedVariables false
open Go.RowKit Go.Sort

/-- What Met says. -/
def MetPost (ds : List De) (cs : List Co) (w : World) (e : Ending) (w' : World) : Prop :=
  ∃ ok : Bool, e = .returned (.bool ok) ∧ (ok = true ↔ MetP ds cs) ∧ Below w.heap.size w w'
set_option maxRecDepth 100000 in
set_option maxHeartbeats 4000000 in
theorem Met_any (a a2 : Option Addr) (cap cap2 : Nat) (ds : List De) (cs : List Co) (w : World) (h1 : ds.length ≤ 200 ∧ cs.length ≤ 200) (he : ∀ d ∈ ds, d.eds.length ≤ 1000) (hm : DeAt w a ds) (hc : CoAt w a2 cs) :
    Calls Tryz.prog 29 #[.slice a ds.length cap, .slice a2 cs.length cap2] w (MetPost ds cs w) := by
  have hmk := fun w => run_make_row' (P := Tryz.prog) 78 4 (.bool false) 1 Tryz.underlying78 (by kernel_rfl) rfl .i64 .i64 cs.length (by omega) (by omega) w
  have hmki := fun w => run_make_row' (P := Tryz.prog) 24 3 (.int .i64 0) 8 Tryz.underlying24 (by kernel_rfl) rfl .i64 .i64 cs.length (by omega) (by omega) w
  have HM := Lib.hid hm; have HCO := Lib.hid hc; have HE := Lib.hid he
  have H1 := Lib.hid h1
  have HW := Lib.hid (fun h : 0 < ds.length => (costM_wide h : wideL (costM ds cs 0) = cs.length))
  have HCL := Lib.hid (costM_len ds cs 0)
  have HR0 := Lib.hid (RowAt.made w cs.length 3 (.int .i64 0)).rowC
  have HB0 := Lib.hid ((Below.refl w.heap.size w).alloc (Nat.le_refl _) (.cells (madeCells #[.int .i64 0] cs.length) 3))
  obtain ⟨h200, hw200⟩ := h1
  clear hm hc he
  go_enter Tryz.func29, Tryz.ntmps29
  go_wp2
  go_loopw [6] (fun i wr => ∃ (k : Nat) (ow : Nat → Int), k ≤ cs.length ∧ i = .int .i64 k ∧ RowC wr w.heap.size cs.length ow ∧ (∀ x, x < k → ow x = -1) ∧ Below w.heap.size w wr) (fun i _ => cs.length - (intOf i).toNat)
  case atStart => exact ⟨0, _, Nat.zero_le _, rfl, HR0.out, fun x h => by omega, HB0.out⟩
  case round =>
    clear HR0 HB0
    obtain ⟨k, ow, hk, rfl, hrw, hone, hb⟩ := hrel
    have HB := Lib.hid hb; have HR := Lib.hid hrw; have HO := Lib.hid hone
    clear hb hrw hone
    by_cases hlt : k < cs.length
    · have g1 := HR.out.cell hlt
      have f1 := HR.out.free k
      go_wp2
      go_roundw
      case rel => exact ⟨k + 1, _, by omega, by go_num, HR.out.set hlt _, fun x hx => by
        by_cases e : x = k
        · subst e; rw [upd_same]
        · rw [upd_ne _ _ e]; exact HO.out x (by omega), below_set HB.out (Nat.le_refl _) _⟩
      case measure => simp [intOf]; omega
    · have hke : k = cs.length := by omega
      subst hke
      have HR1 := Lib.hid (HR.out.congr HO.out)
      clear HR HO hlt hk
      go_wp2
      go_loopw [7] (fun i wr => ∃ (r : Nat) (ow : Nat → Int), r ≤ ds.length ∧ i = .int .i64 r ∧ RowC wr w.heap.size cs.length ow ∧ Own (may (cc (costM ds cs 0))) cs.length (fun _ => True) (fun i => i < r) ow ∧ Below w.heap.size w wr) (fun i _ => ds.length - (intOf i).toNat)
      case atStart => exact ⟨0, _, Nat.zero_le _, rfl, HR1.out, ⟨fun _ _ _ => .inl rfl, fun i hi => by omega, fun _ _ i _ _ _ _ e _ => by omega⟩, HB.out⟩
      case round =>
        clear HB HR1
        obtain ⟨r, ow, hr, rfl, hrw, O, hb⟩ := hrel
        have HB := Lib.hid hb; have HR := Lib.hid hrw; have HOW := Lib.hid O
        clear hb hrw O
        by_cases hlt : r < ds.length
        · have hgs := HR.out.lt
          have K1 := (RowAt.made wr cs.length 4 (.bool false))
          have P1 : PSt w cs.length w.heap.size wr.heap.size (wr.alloc (.cells (madeCells #[.bool false] cs.length) 4)) ow (fun _ => false) := ⟨HB.out.alloc HB.out.size _, HR.out.below ((Below.refl _ _).alloc (Nat.le_refl _) _), K1⟩
          have HP := Lib.hid P1
          clear P1 K1
          have HWE := Lib.hid (HW.out (by omega))
          have HPV := Lib.hid (own_pv (by rw [HCL.out]; omega) (by rw [HWE.out]; exact HOW.out))
          have HCN := Lib.hid (own_can (by rw [HWE.out]; exact HOW.out))
          go_wp2_with (fail)
          refine (give_any (cap := cap) (cap2 := cap2) (b := w.heap.size) (capb := cs.length) HM.out HCO.out H1.out HE.out (Nat.le_refl _) _ r ow (fun _ => false) wr.heap.size _ (Nat.le_refl _) hlt (fun k hk => by have := HPV.out k (by rw [HWE.out]; exact hk); rw [HCL.out] at this; exact this) (fun k hk _ => HCN.out k (by rw [HWE.out]; exact hk) trivial) HB.out.size (by omega) HP.out).mono ?_
          rintro e w5 ⟨ok, ow', seen', rfl, P5, V5, Y5⟩
          rw [HWE.out] at P5 Y5
          have HP5 := Lib.hid P5
          clear P5 V5
          rcases Y5 with ⟨rfl, Y⟩ | ⟨rfl, rfl, ks, N⟩
          · have HY := Lib.hid Y; clear Y
            go_wp2
            go_roundw
            case rel => exact ⟨r + 1, ow', by omega, by go_num, HP5.out.ro, own_yes HY.out HOW.out, HP5.out.hb⟩
            case measure => simp [intOf]; omega
          · have HNO := Lib.hid N; clear N
            go_wp2
            go_ret
            refine ⟨false, rfl, ⟨fun h => (by cases h), fun h => ?_⟩, HP5.out.hb⟩
            exact absurd (Mtd.sub (h : Mtd _ _ _) fun x hx => (circ_of HNO.out HOW.out hlt).le x hx |> fun h2 => by omega) (circ_of HNO.out HOW.out hlt).no
        · have hre : r = ds.length := by omega
          subst hre
          go_wp2
          go_ret
          exact ⟨true, rfl, ⟨fun _ => HOW.out.mt, fun _ => rfl⟩, HB.out⟩
end Go.Proofs.YtehdhbnbajfanaaGreat


/- The reference's Without and below over demands: walked; for not too many demands. -/
namespace Go.Proofs.YtehdhbnbajfanaaGreat
set_option linter.unusedSimpArgs false
set_option linter.unusedVariables false
open Go.RowKit Go.Sort

theorem eltDe : Elt Tryz.prog 22 46 4 48 De.cells := ⟨Tryz.underlying22, ⟨.agg #[.int .i64 0, .int .i64 0, .int .i64 0, .slice none 0 0], by kernel_rfl, rfl⟩, by decide, by decide, fun _ => rfl, fun x u hu => by
  simp [De.cells] at hu
  rcases hu with rfl | rfl | rfl | rfl <;> rfl⟩
/-- A call returns a slice of these demands. -/
def DesPost (l : List De) (w : World) (e : Ending) (w' : World) : Prop :=
  ∃ a cap, e = .returned (.slice a l.length cap) ∧ SlOk a l.length cap ∧ DeAt w' a l ∧ Below w.heap.size w w'
/-- Demands without the one with an ID. -/
def lessL (ds : List De) (id : Int) : List De := ds.filter fun d => d.id != id
theorem less_sub {ds : List De} {id : Int} {d : De} (h : d ∈ lessL ds id) : d ∈ ds := (List.mem_filter.1 h).1
theorem less_len (ds : List De) (id : Int) : (lessL ds id).length ≤ ds.length := List.length_filter_le _ _
theorem filt_next {α : Type} (p : α → Bool) (l : List α) (k : Nat) (h : k < l.length) : (p l[k] = true → (l.take (k + 1)).filter p = (l.take k).filter p ++ [l[k]]) ∧ (p l[k] = false → (l.take (k + 1)).filter p = (l.take k).filter p) := by
  rw [List.take_succ_eq_append_getElem h, List.filter_append]
  constructor <;> intro e <;> simp [List.filter_cons, e]
theorem OwnR.des {w w' : World} {B : Nat} {v : Value} {l : List De} (o : OwnR w' B 46 4 v (l.map De.cells)) (hk : ∀ d ∈ l, d.Ok w') (hb : Below w.heap.size w w') : DesPost l w (.returned v) w' := by
  obtain ⟨a, cap, rfl, h1, h2⟩ := o.slAt
  rw [List.length_map] at *
  exact ⟨a, cap, rfl, h1, ⟨h2, hk⟩, hb⟩
set_option maxRecDepth 100000 in
set_option maxHeartbeats 4000000 in
theorem RWithoutD_any (a : Option Addr) (cap : Nat) (ds : List De) (id : Int) (w : World) (hl : ds.length ≤ 1000) (hm : DeAt w a ds) :
    Calls Tryz.prog 23 #[.slice a ds.length cap, .int .i64 id] w (DesPost (lessL ds id) w) := by
  have HM := Lib.hid hm
  clear hm
  go_enter Tryz.func23, Tryz.ntmps23
  go_wp2
  go_loopw [5, 6] (fun v i wr => ∃ k : Nat, k ≤ ds.length ∧ i = .int .i64 k ∧ OwnR wr w.heap.size 46 4 v ((lessL (ds.take k) id).map De.cells) ∧ Below w.heap.size w wr) (fun _ i _ => ds.length - (intOf i).toNat)
  case atStart => exact ⟨0, Nat.zero_le _, rfl, OwnR.nil _ _ _ _, Below.refl _ _⟩
  case round =>
    obtain ⟨k, hk, rfl, ho, hb⟩ := hrel
    have HO := Lib.hid ho; have HB := Lib.hid hb
    clear ho hb
    by_cases hlt : k < ds.length
    · obtain ⟨b, off, rfl, e0, e1, e2, e3⟩ := HM.out.get k hlt
      have g0 := keepE e0 HB.out; have g1 := keepE e1 HB.out; have g2 := keepE e2 HB.out; have g3 := keepE e3 HB.out
      clear e0 e1 e2 e3
      obtain ⟨f1, f2⟩ := filt_next (fun d : De => d.id != id) ds k hlt
      have F1 := Lib.hid f1; have F2 := Lib.hid f2; clear f1 f2
      have hlen : (lessL (ds.take k) id).length ≤ 1000 := Nat.le_trans (less_len _ _) (by rw [List.length_take]; omega)
      have HL := Lib.hid hlen; clear hlen
      generalize ds[k] = d at *
      cases hd : (d.id != id)
      · have HD := Lib.hid hd
        go_wp2
        go_roundw
        case rel => exact ⟨k + 1, by omega, by go_num, by rw [lessL, F2.out HD.out]; exact HO.out, HB.out⟩
        case measure => simp [intOf]; omega
      · have HD := Lib.hid hd
        go_wp2_with (at_builtin; go_must (refine appE eltDe rfl (.tmp 20) (.tmp 25) rfl w.heap.size _ _ rfl (HO.out.below ((Below.refl _ _).alloc (Nat.le_refl _) _)) _ _ _ [d] rfl rfl (fun e => by cases e) (eltDe.new _ _ _ _ rfl) (by have := HL.out; simp; omega) (by have := HB.out.size; simp; omega) ?_); intro v5 w5 ho5 hg5; have HO5 := Lib.hid ho5; have HB5 := Lib.hid (below_grown (HB.out.alloc HB.out.size _) (HO.out.below ((Below.refl _ _).alloc (Nat.le_refl _) _)) (by have := HB.out.size; simp; omega) hg5); clear ho5 hg5)
        go_roundw
        case rel => exact ⟨k + 1, by omega, by go_num, by rw [lessL, F1.out HD.out]; exact HO5.out, HB5.out⟩
        case measure => simp [intOf]; omega
    · have hke : k = ds.length := by omega
      have hk2 : ds.take k = ds := List.take_of_length_le (by omega)
      rw [hk2] at HO
      go_wp2
      go_ret
      exact HO.out.des (fun d hd => (HM.out.ok d (less_sub hd)).below HB.out) HB.out
/-- The greatest of some numbers that is less than another one; 0: there is none. -/
def belowL (l : List Int) (x : Int) : Int := l.foldl (fun b y => if y < x ∧ b < y then y else b) 0
theorem below_next (l : List Int) (x : Int) (k : Nat) (h : k < l.length) : belowL (l.take (k + 1)) x = if l[k] < x ∧ belowL (l.take k) x < l[k] then l[k] else belowL (l.take k) x := by
  unfold belowL
  rw [List.take_succ_eq_append_getElem h, List.foldl_append]; rfl
set_option maxRecDepth 100000 in
set_option maxHeartbeats 4000000 in
theorem Rbelow_any (a : Option Addr) (cap : Nat) (ds : List De) (x : Int) (w : World) (hl : ds.length ≤ 1000) (hm : DeAt w a ds) :
    Calls Tryz.prog 47 #[.slice a ds.length cap, .int .i64 x] w fun e w' => e = .returned (.int .i64 (belowL (ds.map De.id) x)) ∧ w = w' := by
  have HM := Lib.hid hm
  clear hm
  go_enter Tryz.func47, Tryz.ntmps47
  go_wp2
  go_loopw [5, 6] (fun v i wr => ∃ k : Nat, k ≤ ds.length ∧ i = .int .i64 k ∧ v = .int .i64 (belowL ((ds.map De.id).take k) x) ∧ w = wr) (fun _ i _ => ds.length - (intOf i).toNat)
  case atStart => exact ⟨0, Nat.zero_le _, rfl, rfl, rfl⟩
  case round =>
    obtain ⟨k, hk, rfl, rfl, rfl⟩ := hrel
    by_cases hlt : k < ds.length
    · obtain ⟨b, off, rfl, g0, g1, g2, g3⟩ := HM.out.get k hlt
      clear g1 g2 g3
      have HX := Lib.hid (below_next (ds.map De.id) x k (by simpa using hlt))
      rw [List.getElem_map] at HX
      generalize ds[k] = d at *
      generalize belowL ((ds.map De.id).take k) x = B at *
      cases h1 : decide (d.id < x)
      · have H1 := Lib.hid h1
        go_wp2
        go_roundw
        case rel => exact ⟨k + 1, by omega, by go_num, by rw [HX.out, if_neg (by have := H1.out; simp at this; omega)], trivial⟩
        case measure => simp [intOf]; omega
      · have H1 := Lib.hid h1
        cases h2 : decide (d.id > B)
        · have H2 := Lib.hid h2
          go_wp2
          go_roundw
          case rel => exact ⟨k + 1, by omega, by go_num, by rw [HX.out, if_neg (by have := H2.out; simp at this; omega)], trivial⟩
          case measure => simp [intOf]; omega
        · have H2 := Lib.hid h2
          go_wp2
          go_roundw
          case rel => exact ⟨k + 1, by omega, by go_num, by rw [HX.out, if_pos (by have := H1.out; have := H2.out; simp at *; omega)], trivial⟩
          case measure => simp [intOf]; omega
    · have hke : k = ds.length := by omega
      have hk2 : (ds.map De.id).take k = ds.map De.id := List.take_of_length_le (by simp; omega)
      rw [hk2]
      go_wp2
      go_ret
      exact ⟨rfl, rfl⟩
end Go.Proofs.YtehdhbnbajfanaaGreat


/- Refusals by themselves: numbers in falling order, demands left out one by one; plain laws. -/
namespace Go.Proofs.YtehdhbnbajfanaaGreat
set_option linter.unusedSimpArgs false
set_option linter.unusedVariables false
open Go.RowKit Go.Sort

theorem below_fold (l : List Int) (x b : Int) : (b ≤ l.foldl (fun b y => if y < x ∧ b < y then y else b) b) ∧ (l.foldl (fun b y => if y < x ∧ b < y then y else b) b = b ∨ (l.foldl (fun b y => if y < x ∧ b < y then y else b) b ∈ l ∧ l.foldl (fun b y => if y < x ∧ b < y then y else b) b < x)) ∧
    ∀ y ∈ l, y < x → y ≤ l.foldl (fun b y => if y < x ∧ b < y then y else b) b := by
  induction l generalizing b with
  | nil => exact ⟨Int.le_refl _, .inl rfl, fun y h => by cases h⟩
  | cons z l ih =>
    rw [List.foldl_cons]
    obtain ⟨h1, h2, h3⟩ := ih (if z < x ∧ b < z then z else b)
    generalize l.foldl _ (if z < x ∧ b < z then z else b) = r at *
    have hb : b ≤ (if z < x ∧ b < z then z else b) := by split <;> omega
    refine ⟨by omega, ?_, fun y hy hyx => ?_⟩
    · rcases h2 with h2 | ⟨h2, h4⟩
      · by_cases hz : z < x ∧ b < z
        · rw [if_pos hz] at h2
          exact .inr ⟨by rw [h2]; simp, by omega⟩
        · rw [if_neg hz] at h2
          exact .inl h2
      · exact .inr ⟨List.mem_cons_of_mem _ h2, h4⟩
    · rcases List.mem_cons.1 hy with rfl | hy
      · by_cases hz : y < x ∧ b < y
        · rw [if_pos hz] at h1; exact h1
        · rw [if_neg hz] at h1; omega
      · exact h3 y hy hyx
theorem below_spec (l : List Int) (x : Int) : 0 ≤ belowL l x ∧ (belowL l x = 0 ∨ (belowL l x ∈ l ∧ belowL l x < x)) ∧ ∀ y ∈ l, y < x → y ≤ belowL l x := below_fold l x 0
/-- Numbers in falling order. -/
def downL (l : List Int) : List Int := l.mergeSort fun a b => decide (b ≤ a)
theorem down_perm (l : List Int) : (downL l).Perm l := List.mergeSort_perm _ _
theorem down_len (l : List Int) : (downL l).length = l.length := (down_perm l).length_eq
theorem down_mem {l : List Int} {x : Int} : x ∈ downL l ↔ x ∈ l := (down_perm l).mem_iff
theorem down_ge (l : List Int) : (downL l).Pairwise fun a b => b ≤ a := by
  have := List.pairwise_mergeSort (le := fun a b : Int => decide (b ≤ a)) (fun a b c h1 h2 => by simp at *; omega) (fun a b => by simp; omega) l
  exact this.imp fun h => by simpa using h
theorem down_gt {l : List Int} (hn : l.Nodup) : (downL l).Pairwise fun a b => b < a := by
  have h1 := down_ge l
  have h2 : (downL l).Nodup := (down_perm l).nodup_iff.2 hn
  exact (h1.and h2).imp fun h => by omega
/-- What falls strictly and has the same members is it. -/
theorem down_eq {l s : List Int} (hn : l.Nodup) (hp : s.Perm l) (hs : s.Pairwise fun a b => b ≤ a) : s = downL l :=
  List.Perm.eq_of_pairwise (le := fun a b => b ≤ a) (fun a b _ _ h1 h2 => by omega) hs (down_ge l) (hp.trans (down_perm l).symm)
theorem gt_idx {s : List Int} (hs : s.Pairwise fun a b => b < a) {i j : Nat} (hi : i < s.length) (hj : j < s.length) (h : i < j) : s[j] < s[i] := List.pairwise_iff_getElem.1 hs i j hi hj h
theorem below_first {l : List Int} (hn : l.Nodup) (hp : ∀ y ∈ l, 0 < y) {X : Int} (hX : ∀ y ∈ l, y < X) : belowL l X = (downL l).getD 0 0 := by
  obtain ⟨h1, h2, h3⟩ := below_spec l X
  cases he : downL l with
  | nil =>
    rcases h2 with h2 | ⟨h2, _⟩
    · rw [h2]; rfl
    · have := down_mem.2 h2; rw [he] at this; cases this
  | cons y s =>
    have hy : y ∈ l := down_mem.1 (by rw [he]; simp)
    have h4 := h3 y hy (hX y hy)
    have h5 := hp y hy
    have hg := down_gt hn
    rw [he] at hg
    rcases h2 with h2 | ⟨h2, _⟩
    · omega
    · have h6 := down_mem.2 h2
      rw [he] at h6
      show _ = y
      rcases List.mem_cons.1 h6 with h6 | h6
      · exact h6
      · have := (List.pairwise_cons.1 hg).1 _ h6; omega
theorem below_after {l : List Int} (hn : l.Nodup) (hp : ∀ y ∈ l, 0 < y) {k : Nat} (hk : k < (downL l).length) : belowL l ((downL l)[k]) = (downL l).getD (k + 1) 0 := by
  obtain ⟨h1, h2, h3⟩ := below_spec l ((downL l)[k])
  have hg := down_gt hn
  have key : ∀ m (hm : m < (downL l).length), (downL l)[m] < (downL l)[k] → k < m := fun m hm h => by
    rcases Nat.lt_trichotomy m k with q | q | q
    · have := gt_idx hg hm hk q; omega
    · subst q; omega
    · exact q
  by_cases hk1 : k + 1 < (downL l).length
  · have hy : (downL l)[k + 1] ∈ l := down_mem.1 (List.getElem_mem _)
    have h4 := h3 _ hy (gt_idx hg hk hk1 (by omega))
    have h5 := hp _ hy
    have h7 : (downL l).getD (k + 1) 0 = (downL l)[k + 1] := by simp [List.getD, hk1]
    rw [h7]
    rcases h2 with h2 | ⟨h2, h6⟩
    · omega
    · obtain ⟨m, hm, hme⟩ := List.mem_iff_getElem.1 (down_mem.2 h2)
      rw [← hme] at h6
      have q := key m hm h6
      by_cases e : m = k + 1
      · subst e; exact hme.symm
      · have := gt_idx hg hk1 hm (by omega); omega
  · have h7 : (downL l).getD (k + 1) 0 = 0 := by
      rw [List.getD_eq_getElem?_getD, List.getElem?_eq_none (by omega)]; rfl
    rw [h7]
    rcases h2 with h2 | ⟨h2, h6⟩
    · exact h2
    · obtain ⟨m, hm, hme⟩ := List.mem_iff_getElem.1 (down_mem.2 h2)
      rw [← hme] at h6
      have := key m hm h6; omega
open Classical in
/-- Whether some demands can be met by some copies. -/
noncomputable def metB (cs : List Co) (ds : List De) : Bool := decide (MetP ds cs)
theorem metB_iff {cs : List Co} {ds : List De} : metB cs ds = true ↔ MetP ds cs := by unfold metB; simp
/-- A demand is left out, unless the others can be met. -/
noncomputable def refu1 (cs : List Co) (l : List De) (id : Int) : List De := if metB cs (lessL l id) then l else lessL l id
noncomputable def refuL (cs : List Co) (ids : List Int) (ds : List De) : List De := ids.foldl (refu1 cs) ds
theorem refu_next (cs : List Co) (ids : List Int) (ds : List De) (k : Nat) (h : k < ids.length) : refuL cs (ids.take (k + 1)) ds = refu1 cs (refuL cs (ids.take k) ds) ids[k] := by
  unfold refuL
  rw [List.take_succ_eq_append_getElem h, List.foldl_append]; rfl
theorem less_subl (ds : List De) (id : Int) : (lessL ds id).Sublist ds := List.filter_sublist
theorem refu1_subl (cs : List Co) (l : List De) (id : Int) : (refu1 cs l id).Sublist l := by
  unfold refu1; split
  · exact List.Sublist.refl _
  · exact less_subl _ _
theorem refu_subl (cs : List Co) (ids : List Int) (ds : List De) : (refuL cs ids ds).Sublist ds := by
  induction ids generalizing ds with
  | nil => exact List.Sublist.refl _
  | cons i ids ih => exact (ih (refu1 cs ds i)).trans (refu1_subl _ _ _)
/-- The refusal. -/
noncomputable def leftL (cs : List Co) (ds : List De) : List De := refuL cs (downL (ds.map De.id)) ds
noncomputable def answerL (cs : List Co) (ds : List De) : List Int := (downL ((leftL cs ds).map De.id)).reverse
theorem left_subl (cs : List Co) (ds : List De) : (leftL cs ds).Sublist ds := refu_subl _ _ _
/-- Valid demands and copies. -/
structure Vd (ds : List De) (cs : List Co) : Prop where
  n1 : ds.length ≤ 200
  n2 : cs.length ≤ 200
  eds : ∀ d ∈ ds, d.eds.length ≤ 12
  ids : ∀ d ∈ ds, 1 ≤ d.id ∧ d.id ≤ 1000000
  nd : (ds.map De.id).Nodup
theorem vd_of {ds : List De} {cs : List Co} (h : validB ds cs = true) : Vd ds cs := by
  simp only [validB, Bool.and_eq_true, decide_eq_true_eq] at h
  obtain ⟨⟨⟨⟨⟨h1, h2⟩, h3⟩, h4⟩, h5⟩, h6⟩ := h
  have h3 := List.all_eq_true.1 h3
  refine ⟨h1, h2, fun d hd => ?_, fun d hd => ?_, by simpa [nodupB] using h5⟩
  · have := h3 d hd
    simp [deOk, inR] at this; omega
  · have := h3 d hd
    simp [deOk, isId, inR] at this; omega
theorem valid_sub {ds l : List De} {cs : List Co} (hs : l.Sublist ds) (h : validB ds cs = true) : validB l cs = true := by
  simp only [validB, Bool.and_eq_true, decide_eq_true_eq] at *
  obtain ⟨⟨⟨⟨⟨h1, h2⟩, h3⟩, h4⟩, h5⟩, h6⟩ := h
  refine ⟨⟨⟨⟨⟨Nat.le_trans hs.length_le h1, h2⟩, ?_⟩, h4⟩, ?_⟩, h6⟩
  · exact List.all_eq_true.2 fun d hd => List.all_eq_true.1 h3 d (hs.subset hd)
  · simp [nodupB] at *
    exact (hs.map De.id).nodup h5
theorem Vd.pos {ds : List De} {cs : List Co} (v : Vd ds cs) : ∀ y ∈ ds.map De.id, 0 < y := fun y hy => by
  obtain ⟨d, hd, rfl⟩ := List.mem_map.1 hy
  have := v.ids d hd; omega
theorem Vd.top {ds : List De} {cs : List Co} (v : Vd ds cs) : ∀ y ∈ ds.map De.id, y < 1000001 := fun y hy => by
  obtain ⟨d, hd, rfl⟩ := List.mem_map.1 hy
  have := v.ids d hd; omega
end Go.Proofs.YtehdhbnbajfanaaGreat


/- The reference's refusal: walked; for valid demands and copies. -/
namespace Go.Proofs.YtehdhbnbajfanaaGreat
set_option linter.unusedSimpArgs false
set_option linter.unusedVariables false
open Go.RowKit Go.Sort

theorem ownR_one (w : World) (B : Nat) (E : TypeId) (n : Int) (hb : B ≤ w.heap.size) : OwnR (w.alloc (.cells #[.int .i64 n] E)) B E 1 (.slice (some ⟨w.heap.size, 0, none⟩) 1 1) ([n].map inRow) :=
  ⟨by simp [inRow], by simp [inRow], .inr ⟨w.heap.size, 1, #[.int .i64 n], rfl, hb, heap_alloc_new w _, by simp, by decide, rfl, rfl⟩⟩
/-- A call returns a slice of these integers. -/
def IntsPost (l : List Int) (w : World) (e : Ending) (w' : World) : Prop :=
  ∃ a cap, e = .returned (.slice a l.length cap) ∧ SlOk a l.length cap ∧ InAt w' a l ∧ Below w.heap.size w w'
/-- A slice of integers that lies in memory. -/
def IsSl (w : World) (v : Value) (l : List Int) : Prop := ∃ a cap, v = .slice a l.length cap ∧ SlOk a l.length cap ∧ InAt w a l
theorem OwnR.isSl {w : World} {B : Nat} {E : TypeId} {v : Value} {l : List Int} (o : OwnR w B E 1 v (l.map inRow)) : IsSl w v l := by
  obtain ⟨a, cap, rfl, h1, h2⟩ := o.slAt
  rw [List.length_map] at *
  exact ⟨a, cap, rfl, h1, h2⟩
/-- A slice of demands that lies in memory. -/
def IsDs (w : World) (v : Value) (l : List De) : Prop := ∃ a cap, v = .slice a l.length cap ∧ SlOk0 a l.length cap ∧ DeAt w a l
theorem rev_take {s : List Int} {k : Nat} (h : k < s.length) : (s.take (k + 1)).reverse = [s[k]] ++ (s.take k).reverse := by
  rw [List.take_succ_eq_append_getElem h, List.reverse_append]; rfl
set_option maxRecDepth 100000 in
set_option maxHeartbeats 4000000 in
theorem Rrefusal_any (a a2 : Option Addr) (cap cap2 : Nat) (ds : List De) (cs : List Co) (w : World) (hv : Vd ds cs) (hs : SlOk0 a ds.length cap) (hm : DeAt w a ds) (hc : CoAt w a2 cs) :
    Calls Tryz.prog 30 #[.slice a ds.length cap, .slice a2 cs.length cap2] w (IntsPost (answerL cs ds) w) := by
  have HM := Lib.hid hm; have HC := Lib.hid hc; have HV := Lib.hid hv; have HS := Lib.hid hs
  have HN := Lib.hid hv.n1
  clear hm hc hs
  obtain ⟨S, hS⟩ : ∃ S, S = downL (ds.map De.id) := ⟨_, rfl⟩
  have HF := Lib.hid (show belowL (ds.map De.id) 1000001 = S.getD 0 0 by rw [hS]; exact below_first hv.nd hv.pos hv.top)
  have HA := Lib.hid (show ∀ k (hk : k < S.length), belowL (ds.map De.id) S[k] = S.getD (k + 1) 0 by subst hS; exact fun k hk => below_after hv.nd hv.pos hk)
  have HP := Lib.hid (show ∀ k (hk : k < S.length), 0 < S[k] by subst hS; exact fun k hk => hv.pos _ (down_mem.1 (List.getElem_mem _)))
  have HSE := Lib.hid hS; clear hS
  clear hv
  go_enter Tryz.func30, Tryz.ntmps30
  go_wp2_with (fail)
  refine (Rbelow_any a cap ds 1000001 _ (by have := HN.out; omega) HM.out).mono ?_
  rintro e w1 ⟨rfl, rfl⟩
  rw [HF.out]
  go_wp2
  go_loopg [5, 6] S.length (fun g v i wr => ∃ k : Nat, k ≤ S.length ∧ g = S.length - k ∧ i = .int .i64 (S.getD k 0) ∧ IsDs wr v (refuL cs (S.take k) ds) ∧ Below w.heap.size w wr)
  case atStart => exact ⟨0, Nat.zero_le _, rfl, rfl, ⟨a, cap, rfl, HS.out, HM.out⟩, Below.refl _ _⟩
  case round =>
    obtain ⟨k, hk, hgh, rfl, hds, hb⟩ := hrel
    obtain ⟨wo, rfl⟩ : ∃ wo, wo = wr := ⟨_, rfl⟩
    have HB := Lib.hid hb; have HGH := Lib.hid hgh
    clear hb hgh
    obtain ⟨al, cl, rfl, hsl, hdl⟩ := hds
    have HSL := Lib.hid hsl; have HDL := Lib.hid hdl
    clear hsl hdl
    by_cases hlt : k < S.length
    · have hgd : S.getD k 0 = S[k] := by simp [List.getD, hlt]
      rw [hgd]
      clear hgd
      have HSK := Lib.hid (HA.out k hlt)
      have HRN := Lib.hid (refu_next cs S ds k hlt)
      have hpos : decide (S[k] > 0) = true := by have := HP.out k hlt; simp; omega
      have HSub := Lib.hid (refu_subl cs (S.take k) ds)
      have HLL := Lib.hid (refu_subl cs (S.take k) ds).length_le
      generalize refuL cs (S.take k) ds = L at *
      generalize S[k] = id at *
      go_wp2_with (fail)
      refine (RWithoutD_any al cl L id _ (by have := HN.out; have := HLL.out; omega) HDL.out).mono ?_
      rintro e w2 ⟨a5, c5, rfl, hs5, hd5, hb5⟩
      have HS5 := Lib.hid hs5; have HD5 := Lib.hid hd5
      replace HB := Lib.hid (HB.out.trans (hb5.mono HB.out.size))
      replace HDL := Lib.hid (HDL.out.below hb5)
      clear hs5 hd5 hb5
      go_wp2_with (fail)
      refine (Met_any a5 a2 c5 cap2 (lessL L id) cs _ ⟨by have := less_len L id; have := HN.out; have := HLL.out; omega, HV.out.n2⟩ (fun d hd => by have := HV.out.eds d (HSub.out.subset (less_sub hd)); omega) HD5.out (HC.out.below HB.out)).mono ?_
      rintro e w3 ⟨ok, rfl, hok, hb5⟩
      have HOK := Lib.hid (show metB cs (lessL L id) = ok by rw [Bool.eq_iff_iff, metB_iff, hok])
      replace HB := Lib.hid (HB.out.trans (hb5.mono HB.out.size))
      replace HDL := Lib.hid (HDL.out.below hb5)
      replace HD5 := Lib.hid (HD5.out.below hb5)
      clear hok hb5
      cases ok
      · go_wp2_with (fail)
        refine (Rbelow_any a cap ds id _ (by have := HN.out; omega) (HM.out.below HB.out)).mono ?_
        rintro e w4 ⟨rfl, rfl⟩
        rw [HSK.out]
        go_wp2
        go_roundg (S.length - (k + 1))
        case measure => have := HGH.out; omega
        case rel => exact ⟨k + 1, by omega, rfl, rfl, by rw [HRN.out, refu1, HOK.out]; exact ⟨a5, c5, rfl, HS5.out.weak, HD5.out⟩, HB.out⟩
      · go_wp2_with (fail)
        refine (Rbelow_any a cap ds id _ (by have := HN.out; omega) (HM.out.below HB.out)).mono ?_
        rintro e w4 ⟨rfl, rfl⟩
        rw [HSK.out]
        go_wp2
        go_roundg (S.length - (k + 1))
        case measure => have := HGH.out; omega
        case rel => exact ⟨k + 1, by omega, rfl, rfl, by rw [HRN.out, refu1, HOK.out]; exact ⟨al, cl, rfl, HSL.out, HDL.out⟩, HB.out⟩
    · have hke : k = S.length := by omega
      have hgd : S.getD k 0 = 0 := by rw [List.getD_eq_getElem?_getD, List.getElem?_eq_none (by omega)]; rfl
      rw [hgd]
      clear hgd
      have HL := Lib.hid (show refuL cs (S.take k) ds = leftL cs ds by rw [hke, List.take_length, HSE.out]; rfl)
      rw [HL.out] at HSL HDL
      have HVL := Lib.hid (show Vd (leftL cs ds) cs from ⟨Nat.le_trans (left_subl cs ds).length_le HV.out.n1, HV.out.n2, fun d hd => HV.out.eds d ((left_subl cs ds).subset hd), fun d hd => HV.out.ids d ((left_subl cs ds).subset hd), ((left_subl cs ds).map De.id).nodup HV.out.nd⟩)
      have HAN := Lib.hid (show answerL cs ds = (downL ((leftL cs ds).map De.id)).reverse from rfl)
      rw [HL.out]
      clear HL hke
      generalize leftL cs ds = L at *
      obtain ⟨T, hT⟩ : ∃ T, T = downL (L.map De.id) := ⟨_, rfl⟩
      have HF2 := Lib.hid (show belowL (L.map De.id) 1000001 = T.getD 0 0 by rw [hT]; exact below_first HVL.out.nd HVL.out.pos HVL.out.top)
      have HA2 := Lib.hid (show ∀ k (hk : k < T.length), belowL (L.map De.id) T[k] = T.getD (k + 1) 0 by subst hT; exact fun k hk => below_after HVL.out.nd HVL.out.pos hk)
      have HP2 := Lib.hid (show ∀ k (hk : k < T.length), 0 < T[k] by subst hT; exact fun k hk => HVL.out.pos _ (down_mem.1 (List.getElem_mem _)))
      have HTL := Lib.hid (show T.length ≤ 200 by rw [hT, down_len, List.length_map]; exact HVL.out.n1)
      have HTE := Lib.hid (show answerL cs ds = T.reverse by rw [HAN.out, ← hT])
      clear hT
      go_wp2_with (fail)
      refine (Rbelow_any al cl L 1000001 _ (by have := HVL.out.n1; omega) HDL.out).mono ?_
      rintro e w4 ⟨rfl, rfl⟩
      rw [HF2.out]
      go_wp2
      clear HGH
      go_loopg [9, 10] T.length (fun g v i W => ∃ k : Nat, k ≤ T.length ∧ g = T.length - k ∧ i = .int .i64 (T.getD k 0) ∧ IsSl W v (T.take k).reverse ∧ Below wo.heap.size wo W)
      case atStart => exact ⟨0, Nat.zero_le _, rfl, rfl, ⟨none, 0, rfl, SlOk.nil, SlAt.nil _ _ _⟩, Below.refl _ _⟩
      case round =>
        obtain ⟨m, hm, hgm, rfl, ⟨a9, c9, rfl, hs9, hi9⟩, hb9⟩ := hrel
        have HGM := Lib.hid hgm; have HS9 := Lib.hid hs9; have HI9 := Lib.hid hi9; have HB9 := Lib.hid hb9
        clear hgm hs9 hi9 hb9
        by_cases hlt2 : m < T.length
        · have hgd : T.getD m 0 = T[m] := by simp [List.getD, hlt2]
          rw [hgd]
          clear hgd
          have HSK2 := Lib.hid (HA2.out m hlt2)
          have HRT := Lib.hid (rev_take hlt2)
          have hpos : decide (T[m] > 0) = true := by have := HP2.out m hlt2; simp; omega
          have HLR := Lib.hid (show (T.take m).reverse.length ≤ 200 by have := HTL.out; simp; omega)
          generalize (T.take m).reverse = R at *
          generalize T[m] = id at *
          go_wp2_with (at_builtin; go_must (refine appE eltInt rfl (.tmp 36) (.tmp 37) rfl wo.heap.size _ [id] rfl (ownR_one _ _ _ _ HB9.out.size) _ _ _ R rfl rfl HS9.out.none (HI9.out.below ((Below.refl _ _).alloc (Nat.le_refl _) _)) (by have := HLR.out; simp; omega) (by have := HB9.out.size; simp; omega) ?_); intro v5 w5 ho5 hg5; have HO5 := Lib.hid ho5; have HB5 := Lib.hid (below_grown (HB9.out.alloc HB9.out.size _) (ownR_one _ wo.heap.size 3 id HB9.out.size) (by have := HB9.out.size; simp; omega) hg5); clear ho5 hg5)
          refine (Rbelow_any al cl L id _ (by have := HVL.out.n1; omega) (HDL.out.below HB5.out)).mono ?_
          rintro e w4 ⟨rfl, rfl⟩
          rw [HSK2.out]
          go_wp2
          go_roundg (T.length - (m + 1))
          case measure => have := HGM.out; omega
          case rel => exact ⟨m + 1, by omega, rfl, rfl, by rw [HRT.out]; exact HO5.out.isSl, HB5.out⟩
        · have hme : m = T.length := by omega
          have hgd : T.getD m 0 = 0 := by rw [List.getD_eq_getElem?_getD, List.getElem?_eq_none (by omega)]; rfl
          rw [hgd]
          clear hgd
          have HTT := Lib.hid (show T.take m = T by rw [hme, List.take_length])
          rw [HTT.out] at HS9 HI9
          rw [HTT.out]
          go_wp2
          go_ret
          refine ?_
          rw [IntsPost, HTE.out]
          exact ⟨a9, c9, rfl, HS9.out, HI9.out, HB.out.trans (HB9.out.mono HB.out.size)⟩
end Go.Proofs.YtehdhbnbajfanaaGreat
