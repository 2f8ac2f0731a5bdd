/- Texts of this seat, laid together: PlanCosts, PlanRef34, PlanRef34b, QTail1, PlanRCosts. -/
import Derived.Test.YtehdhbnbajfanaaGreatGB
import Derived.Test.YtehdhbnbajfanaaGreatGH
import Derived.Test.YtehdhbnbajfanaaGreatGA

/- holdings.Costs: walked; for not too many demands, editions, copies. -/
namespace Go.Proofs.YtehdhbnbajfanaaGreat
set_option linter.unusedSimpArgs false
set_option linter.unusedVariables false
open Go.RowKit Go.Sort

instance : Inhabited Co := ⟨⟨0, 0, 0, 0⟩⟩
def costF (ds : List De) (cs : List Co) (hall : Int) (j y : Nat) : Int := costI (ds.getD j default) (cs.getD y default) hall
theorem costF_at {ds : List De} {cs : List Co} {hall : Int} {j y : Nat} (hj : j < ds.length) (hy : y < cs.length) : costF ds cs hall j y = costI ds[j] cs[y] hall := by simp [costF, List.getD, hj, hy]
theorem costM_tab (ds : List De) (cs : List Co) (hall : Int) : costM ds cs hall = tabC ds.length cs.length (costF ds cs hall) := by
  refine List.ext_getElem (by simp [costM, tab_len]) fun j h1 h2 => ?_
  rw [costM_len] at h1
  rw [tab_row h1]
  simp only [costM, List.getElem_map]
  refine List.ext_getElem (by simp) fun y h3 h4 => ?_
  simp only [List.length_map] at h3
  simp only [List.getElem_map, List.getElem_range]
  exact (costF_at h1 h3).symm
theorem costM_row {ds : List De} {cs : List Co} {hall : Int} {j y : Nat} (hj : j < ds.length) (hy : y < cs.length) : cc (costM ds cs hall) j y = costI ds[j] cs[y] hall := by
  rw [costM_tab, tab_cc hj hy, costF_at hj hy]
theorem costM_wide {ds : List De} {cs : List Co} {hall : Int} (h : 0 < ds.length) : wideL (costM ds cs hall) = cs.length := by
  rw [costM_tab, tab_wide h]
theorem costM_form {ds : List De} {cs : List Co} {hall : Int} (h1 : ds.length ≤ 200) (h2 : cs.length ≤ 200) (h3 : ∀ d ∈ ds, d.eds.length ≤ 100) : formE (costM ds cs hall) = 0 := by
  rw [costM_tab]
  refine tab_form h1 h2 fun j x hj hx => ?_
  rw [costF_at hj hx]
  have := costI_bd (c := cs[x]) (hall := hall) (h3 ds[j] (List.getElem_mem _))
  omega
/-- Rows below k done. -/
def fillF (F : Nat → Int) (k y : Nat) : Int := if y < k then F y else 0
theorem fill_zero (F : Nat → Int) : fillF F 0 = fun _ => 0 := by funext y; simp [fillF]
theorem fill_put (F : Nat → Int) (k y : Nat) : upd (fillF F k) k (F k) y = fillF F (k + 1) y := by
  unfold fillF
  by_cases e : y = k
  · subst e; rw [upd_same, if_pos (by omega)]
  · rw [upd_ne _ _ e]
    by_cases h : y < k
    · rw [if_pos h, if_pos (by omega)]
    · rw [if_neg h, if_neg (by omega)]
theorem set_blk {w : World} {b c k : Nat} {o : Obj} {v : Value} (hx : w.heap[b]? = some o) (hne : b ≠ c) : (w.setCell ⟨c, k, none⟩ v).heap[b]? = some o :=
  (heap_setCell_other _ _ _ _ (show _ ≠ _ by simpa using hne)).trans hx
theorem RowAt.rowC {w : World} {b n : Nat} {z : Int} (r : RowAt w b n 3 (fun _ => .int .i64 z)) : RowC w b n (fun _ => z) := by
  obtain ⟨arr, h1, h2, h3⟩ := r.at_
  exact ⟨arr, h1, by omega, h3⟩
def CostsPost (ds : List De) (cs : List Co) (hall : Int) (w : World) (e : Ending) (w' : World) : Prop :=
  ∃ (a : Option Addr) (cap : Nat), Below w.heap.size w w' ∧ (((validB ds cs && inR 0 99 hall) = true ∧ e = .returned (.tuple #[.slice a ds.length cap, .int .i64 0]) ∧ SlOk a ds.length cap ∧ MatAt w' a (costM ds cs hall)) ∨
    ((validB ds cs && inR 0 99 hall) = false ∧ e = .returned (.tuple #[.slice none 0 0, .int .i64 1])))
set_option maxRecDepth 100000 in
set_option maxHeartbeats 4000000 in
theorem Costs_any (a a2 : Option Addr) (cap cap2 : Nat) (ds : List De) (cs : List Co) (hall : Int) (w : World) (hl : ds.length ≤ 1000) (hl2 : cs.length ≤ 1000) (he : ∀ d ∈ ds, d.eds.length ≤ 1000) (hm : DeAt w a ds) (hc : CoAt w a2 cs) :
    Calls Tryz.prog 19 #[.slice a ds.length cap, .slice a2 cs.length cap2, .int .i64 hall] w (CostsPost ds cs hall w) := by
  have hmk := fun w => run_make_row' (P := Tryz.prog) 24 3 (.int .i64 0) 8 Tryz.underlying24 (by kernel_rfl) rfl .i64 .i64 cs.length (by omega) (by omega) w
  have HM := Lib.hid hm; have HC := Lib.hid hc; have HE := Lib.hid he; have HMK := Lib.hid hmk
  clear hm hc he hmk
  go_enter Tryz.func19, Tryz.ntmps19
  go_wp2_with (fail)
  refine (Valid_any a a2 cap cap2 ds cs w hl hl2 HE.out HM.out HC.out).mono ?_
  rintro e w1 ⟨rfl, hb⟩
  have HB := Lib.hid hb; clear hb
  generalize hV : validB ds cs = V at *
  have HV := Lib.hid hV; clear hV
  cases V
  · go_wp2
    go_ret2
    exact ⟨none, 0, HB.out, .inr ⟨by rw [HV.out]; rfl, rfl⟩⟩
  go_wp2_with (fail)
  refine (within_any 0 99 _ _ [hall] _ (by simp) (inAt_new w1 [hall] _ rfl)).mono ?_
  rintro e w2 ⟨rfl, hb⟩
  replace HB := Lib.hid (HB.out.trans ((allocB hb).mono HB.out.size)); clear hb
  have hR : [hall].all (inR 0 99) = inR 0 99 hall := by simp
  rw [hR]
  clear hR
  generalize hR : inR 0 99 hall = R at *
  have HR := Lib.hid hR; clear hR
  cases R
  · go_wp2
    go_ret2
    exact ⟨none, 0, HB.out, .inr ⟨by rw [HV.out, HR.out]; rfl, rfl⟩⟩
  go_wp2
  go_loopw [8, 26] (fun s8 s26 wr => ∃ (m : Nat) (g cp : Nat → Nat), m ≤ ds.length ∧ s26 = .int .i64 m ∧ OnlyI wr w.heap.size cs.length m (costF ds cs hall) s8 g cp ∧ Below w.heap.size w wr) (fun _ i _ => ds.length - (intOf i).toNat)
  case atStart => exact ⟨0, fun _ => 0, fun _ => 0, Nat.zero_le _, rfl, ⟨OwnR.nil _ _ _ _, fun i hi => by omega⟩, HB.out⟩
  case round =>
    clear HB
    obtain ⟨m, g, cp, hmc, rfl, hI, hb⟩ := hrel
    obtain ⟨wo, rfl⟩ : ∃ wo, wo = wr := ⟨_, rfl⟩
    have HI := Lib.hid hI; have HB := Lib.hid hb
    clear hI hb
    by_cases hlt : m < ds.length
    · obtain ⟨b, off, rfl, c0, c1, c2, c3⟩ := HM.out.get m hlt
      have g0 := keepE c0 HB.out; have g1 := keepE c1 HB.out; have g2 := keepE c2 HB.out; have g3 := keepE c3 HB.out
      have HD := Lib.hid (HM.out.ok ds[m] (List.getElem_mem _))
      have hed := HE.out ds[m] (List.getElem_mem _)
      have HF := Lib.hid (fun y (hy : y < cs.length) => costF_at (hall := hall) hlt hy)
      generalize ds[m] = d at *
      have hmk := HMK.out
      clear c0 c1 c2 c3
      have HXB := Lib.hid (up_alloc (heap_alloc_new wo (.cells #[.int .i64 d.id, .int .i64 d.part, .int .i64 d.stand, .slice d.ea d.eds.length d.ecap] 46)) (.cells (madeCells #[.int .i64 0] cs.length) 3))
      have hrow := (RowAt.made (wo.alloc (.cells #[.int .i64 d.id, .int .i64 d.part, .int .i64 d.stand, .slice d.ea d.eds.length d.ecap] 46)) cs.length 3 (.int .i64 0)).rowC
      rw [show (wo.alloc (.cells #[.int .i64 d.id, .int .i64 d.part, .int .i64 d.stand, .slice d.ea d.eds.length d.ecap] 46)).heap.size = wo.heap.size + 1 by simp, ← fill_zero (costF ds cs hall m)] at hrow
      have HRW := Lib.hid hrow
      have HBr := Lib.hid (((Below.refl wo.heap.size wo).alloc (Nat.le_refl _) (.cells #[.int .i64 d.id, .int .i64 d.part, .int .i64 d.stand, .slice d.ea d.eds.length d.ecap] 46)).alloc (by simp) (.cells (madeCells #[.int .i64 0] cs.length) 3))
      clear hrow
      go_wp2
      clear hmk g0 g1 g2 g3
      generalize (wo.alloc (.cells #[.int .i64 d.id, .int .i64 d.part, .int .i64 d.stand, .slice d.ea d.eds.length d.ecap] 46)).alloc (.cells (madeCells #[.int .i64 0] cs.length) 3) = W2 at *
      go_loopw [35] (fun s35 W => ∃ y : Nat, y ≤ cs.length ∧ s35 = .int .i64 y ∧ RowC W (wo.heap.size + 1) cs.length (fillF (costF ds cs hall m) y) ∧ W.heap[wo.heap.size]? = some (.cells #[.int .i64 d.id, .int .i64 d.part, .int .i64 d.stand, .slice d.ea d.eds.length d.ecap] 46 (0, 0)) ∧ Below wo.heap.size wo W) (fun i _ => cs.length - (intOf i).toNat)
      case atStart => exact ⟨0, Nat.zero_le _, rfl, HRW.out, HXB.out, HBr.out⟩
      case round =>
        clear HXB HRW HBr
        obtain ⟨y, hy, rfl, hrw, hxb, hb⟩ := hrel
        have HRW := Lib.hid hrw; have HXB := Lib.hid hxb; have HBr := Lib.hid hb
        clear hrw hxb hb
        by_cases hly : y < cs.length
        · obtain ⟨b2, o2, rfl, c0, c1, c2, c3⟩ := HC.out.get y hly
          have HBB := Lib.hid (HB.out.trans (HBr.out.mono HB.out.size))
          have g0 := keepE c0 HBB.out; have g1 := keepE c1 HBB.out; have g2 := keepE c2 HBB.out; have g3 := keepE c3 HBB.out
          have HF2 := Lib.hid (HF.out y hly)
          have d0 := fun o => box_cells (up_alloc HXB.out o)
          have hxlt := lt_blk HXB.out
          have hrl := HRW.out.lt
          have HCell := Lib.hid (HRW.out)
          generalize cs[y] = c at *
          go_wp2_with (fail)
          refine (hcost_any d c hall _ hed (HD.out.below (HBB.out.alloc HBB.out.size _))).mono ?_
          rintro e w3 ⟨rfl, hb⟩
          rw [← HF2.out]
          have hb2 := allocB hb
          replace HBr := Lib.hid (HBr.out.trans (hb2.mono HBr.out.size))
          replace HRW := Lib.hid (HRW.out.below hb2)
          replace HXB := Lib.hid (blk_keep HXB.out hb2)
          clear hb hb2 g0 g1 g2 g3 d0 hxlt hrl HCell HBB
          have s1 := HRW.out.cell hly
          have s2 := HRW.out.free y
          go_wp2
          go_roundw
          case rel => exact ⟨y + 1, by omega, by go_num, (HRW.out.set hly _).congr fun y' _ => fill_put _ _ y', set_blk HXB.out (by omega), below_set HBr.out (by simp) _⟩
          case measure => simp [intOf]; omega
        · have hye : y = cs.length := by omega
          have HR2 := Lib.hid (HRW.out.congr (g := costF ds cs hall m) fun y' hy' => by unfold fillF; rw [if_pos (by omega)])
          clear hye HRW
          go_wp2_with (at_builtin; refine appE eltHd rfl (.tmp 48) (.tmp 50) rfl w.heap.size _ ((List.range m).map (oH g cp cs.length)) rfl (HI.out.ow.below (HBr.out.alloc HBr.out.size _)) _ _ _ [((some ⟨wo.heap.size + 1, 0, none⟩, cs.length, cs.length) : Hd)] rfl rfl (fun e => by cases e) (eltHd.new _ _ _ _ rfl) (by simp; omega) (by have := HBr.out.size; have := HB.out.size; simp; omega) ?_; intro v3 w7 ho3 hg3; have HI7 := Lib.hid (HI.out.next HBr.out HR2.out (by have := HB.out.size; omega) (Nat.le_refl _) ho3 hg3); have HB7 := Lib.hid (below_grown ((HB.out.trans (HBr.out.mono HB.out.size)).alloc (by have := HBr.out.size; have := HB.out.size; omega) _) (HI.out.ow.below (HBr.out.alloc HBr.out.size _)) (by have := HBr.out.size; have := HB.out.size; simp; omega) hg3); clear ho3 hg3)
          go_roundw
          case rel => exact ⟨m + 1, _, _, by omega, by go_num, HI7.out, HB7.out⟩
          case measure => simp [intOf]; omega
    · have hme : m = ds.length := by omega
      subst hme
      obtain ⟨a7, c7, rfl, hs7, hm7⟩ := HI.out.mat
      rw [← costM_tab] at hm7
      have HS7 := Lib.hid hs7; have HM7 := Lib.hid hm7
      clear hs7 hm7
      go_wp2
      go_ret2
      exact ⟨a7, c7, HB.out, .inl ⟨by rw [HV.out, HR.out]; rfl, rfl, HS7.out, HM7.out⟩⟩
end Go.Proofs.YtehdhbnbajfanaaGreat


/- The reference's functions over holdings: walked; for not too many demands, editions, copies. -/
namespace Go.Proofs.YtehdhbnbajfanaaGreat
set_option linter.unusedSimpArgs false
set_option linter.unusedVariables false
open Go.RowKit Go.Sort

theorem rinH_any (n lo hi : Int) (w : World) : Calls Tryz.prog 44 #[.int .i64 n, .int .i64 lo, .int .i64 hi] w fun e w' => e = .returned (.bool (inR lo hi n)) ∧ w = w' := by
  go_enter Tryz.func44, Tryz.ntmps44
  by_cases h : lo ≤ n
  · go_wp2
    go_ret
    exact ⟨by simp [inR, h], rfl⟩
  · have HR := Lib.hid (show inR lo hi n = false by simp [inR]; omega)
    go_wp2
    go_ret
    exact ⟨by rw [HR.out]; rfl, rfl⟩
theorem rin_lit {n lo hi : Int} {b : Bool} (h : inR lo hi n = b) (w : World) : Calls Tryz.prog 44 #[.int .i64 n, .int .i64 lo, .int .i64 hi] w fun e w' => e = .returned (.bool b) ∧ w = w' := by
  rw [← h]; exact rinH_any n lo hi w
set_option maxHeartbeats 1000000 in
theorem RIndex_any (a : Option Addr) (cap : Nat) (l : List Int) (n : Int) (w : World) (hl : l.length ≤ 1000) (hm : InAt w a l) :
    Calls Tryz.prog 20 #[.slice a l.length cap, .int .i64 n] w fun e w' => e = .returned (.int .i64 (idxL l n)) ∧ w = w' := by
  have HM := Lib.hid hm; clear hm
  go_enter Tryz.func20, Tryz.ntmps20
  go_wp2
  go_loop [5] (fun i => ∃ k : Nat, k ≤ l.length ∧ i = .int .i64 k ∧ ∀ j (hj : j < l.length), j < k → l[j] ≠ n) (fun i => l.length - (intOf i).toNat)
  case atStart => exact ⟨0, Nat.zero_le _, rfl, fun j hj hk => by omega⟩
  case round =>
    obtain ⟨k, hk, rfl, hall⟩ := hrel
    have HA := Lib.hid hall; clear hall
    by_cases hlt : k < l.length
    · obtain ⟨b, off, rfl, c0⟩ := HM.out.get k hlt
      have HX0 := Lib.hid (idxL_at hlt (HA.out))
      have HNX := Lib.hid (fun (hne : l[k] ≠ n) j (hj : j < l.length) (hjk : j < k + 1) => (show l[j] ≠ n from if e : j = k then by subst e; exact hne else HA.out j hj (by omega)))
      generalize l[k] = X at *
      by_cases he : X = n
      · have e1 : (X == n) = true := by simp [he]
        have HR := Lib.hid (HX0.out he)
        clear he
        go_wp2
        go_ret
        exact ⟨by rw [HR.out]; rfl, rfl⟩
      · have e1 : (X == n) = false := beq_eq_false_iff_ne.2 he
        have HR := Lib.hid (HNX.out he)
        clear he
        go_wp2
        go_round
        case rel => exact ⟨k + 1, by omega, by go_num, HR.out⟩
        case measure => simp [intOf]; omega
    · have HR := Lib.hid (idxL_no (l := l) (n := n) fun j hj => HA.out j hj (by omega))
      go_wp2
      go_ret
      exact ⟨by rw [HR.out]; rfl, rfl⟩
theorem RIndex_lit {a : Option Addr} {cap : Nat} {l : List Int} {n i : Int} (h : idxL l n = i) (w : World) (hl : l.length ≤ 1000) (hm : InAt w a l) :
    Calls Tryz.prog 20 #[.slice a l.length cap, .int .i64 n] w fun e w' => e = .returned (.int .i64 i) ∧ w = w' := by
  rw [← h]; exact RIndex_any a cap l n w hl hm
theorem idx_self {l : List Int} (hn : l.Nodup) {j : Nat} (hj : j < l.length) : idxL l l[j] = j :=
  idxL_at hj (fun i hi hij e => by have := (List.getElem_inj hn).1 e; omega) rfl
theorem idx_nodup {l : List Int} (h : ∀ j (hj : j < l.length), idxL l l[j] = j) : nodupB l = true := by
  unfold nodupB
  rw [decide_eq_true_iff, List.nodup_iff_pairwise_ne, List.pairwise_iff_getElem]
  intro i j hi hj hij e
  have h1 := h i hi
  have h2 := h j hj
  rw [e, h2] at h1
  omega
theorem idx_dup {l : List Int} {j : Nat} (hj : j < l.length) (h : idxL l l[j] ≠ j) : nodupB l = false := by
  unfold nodupB
  rw [decide_eq_false_iff_not]
  exact fun hn => h (idx_self hn hj)
set_option maxRecDepth 100000 in
set_option maxHeartbeats 4000000 in
theorem RDemand_any (d : De) (w : World) (hl : d.eds.length ≤ 1000) (hd : d.Ok w) :
    Calls Tryz.prog 77 #[.agg #[.int .i64 d.id, .int .i64 d.part, .int .i64 d.stand, .slice d.ea d.eds.length d.ecap]] w fun e w' => e = .returned (.bool (deOk d)) ∧ Below w.heap.size w w' := by
  have HD := Lib.hid hd; clear hd
  have HB := Lib.hid ((Below.refl w.heap.size w).alloc (Nat.le_refl _) (.cells #[.int .i64 d.id, .int .i64 d.part, .int .i64 d.stand, .slice d.ea d.eds.length d.ecap] 46))
  have HX := Lib.hid (heap_alloc_new w (.cells #[.int .i64 d.id, .int .i64 d.part, .int .i64 d.stand, .slice d.ea d.eds.length d.ecap] 46))
  have HDK := Lib.hid (show deOk d = (inR 1 1000000 d.id && inR 1 1000000 d.part && inR 1 1000000 d.stand && inR 1 12 d.eds.length && d.eds.all (inR 1 1000000) && nodupB d.eds) from rfl)
  cases h1 : inR 1 1000000 d.id
  · have H1 := Lib.hid h1
    go_enter Tryz.func77, Tryz.ntmps77
    go_wp2_with (fail); refine (rin_lit H1.out _).mono ?_; rintro e w' ⟨rfl, rfl⟩
    go_wp2
    go_ret
    exact ⟨by rw [HDK.out, h1]; rfl, HB.out⟩
  cases h2 : inR 1 1000000 d.part
  · have H1 := Lib.hid h1; have H2 := Lib.hid h2
    go_enter Tryz.func77, Tryz.ntmps77
    go_wp2_with (fail); refine (rin_lit H1.out _).mono ?_; rintro e w' ⟨rfl, rfl⟩
    go_wp2_with (fail); refine (rin_lit H2.out _).mono ?_; rintro e w' ⟨rfl, rfl⟩
    go_wp2
    go_ret
    exact ⟨by rw [HDK.out, h1, h2]; rfl, HB.out⟩
  cases h3 : inR 1 1000000 d.stand
  · have H1 := Lib.hid h1; have H2 := Lib.hid h2; have H3 := Lib.hid h3
    go_enter Tryz.func77, Tryz.ntmps77
    go_wp2_with (fail); refine (rin_lit H1.out _).mono ?_; rintro e w' ⟨rfl, rfl⟩
    go_wp2_with (fail); refine (rin_lit H2.out _).mono ?_; rintro e w' ⟨rfl, rfl⟩
    go_wp2_with (fail); refine (rin_lit H3.out _).mono ?_; rintro e w' ⟨rfl, rfl⟩
    go_wp2
    go_ret
    exact ⟨by rw [HDK.out, h1, h2, h3]; rfl, HB.out⟩
  cases h4 : inR 1 12 (d.eds.length : Int)
  · have H1 := Lib.hid h1; have H2 := Lib.hid h2; have H3 := Lib.hid h3; have H4 := Lib.hid h4
    go_enter Tryz.func77, Tryz.ntmps77
    go_wp2_with (fail); refine (rin_lit H1.out _).mono ?_; rintro e w' ⟨rfl, rfl⟩
    go_wp2_with (fail); refine (rin_lit H2.out _).mono ?_; rintro e w' ⟨rfl, rfl⟩
    go_wp2_with (fail); refine (rin_lit H3.out _).mono ?_; rintro e w' ⟨rfl, rfl⟩
    go_wp2_with (fail); refine (rin_lit H4.out _).mono ?_; rintro e w' ⟨rfl, rfl⟩
    go_wp2
    go_ret
    exact ⟨by rw [HDK.out, h1, h2, h3, h4]; rfl, HB.out⟩
  have H1 := Lib.hid h1; have H2 := Lib.hid h2; have H3 := Lib.hid h3; have H4 := Lib.hid h4
  have HDK2 := Lib.hid (show deOk d = (d.eds.all (inR 1 1000000) && nodupB d.eds) by rw [HDK.out, h1, h2, h3, h4]; rfl)
  clear h1 h2 h3 h4
  go_enter Tryz.func77, Tryz.ntmps77
  go_wp2_with (fail); refine (rin_lit H1.out _).mono ?_; rintro e w' ⟨rfl, rfl⟩
  go_wp2_with (fail); refine (rin_lit H2.out _).mono ?_; rintro e w' ⟨rfl, rfl⟩
  go_wp2_with (fail); refine (rin_lit H3.out _).mono ?_; rintro e w' ⟨rfl, rfl⟩
  go_wp2_with (fail); refine (rin_lit H4.out _).mono ?_; rintro e w' ⟨rfl, rfl⟩
  go_wp2
  generalize w.alloc (.cells #[.int .i64 d.id, .int .i64 d.part, .int .i64 d.stand, .slice d.ea d.eds.length d.ecap] 46) = w1 at *
  go_loopw [3] (fun i wr => ∃ k : Nat, k ≤ d.eds.length ∧ i = .int .i64 k ∧ (∀ j (hj : j < d.eds.length), j < k → inR 1 1000000 d.eds[j] = true ∧ idxL d.eds d.eds[j] = j) ∧ wr.heap[w.heap.size]? = some (.cells #[.int .i64 d.id, .int .i64 d.part, .int .i64 d.stand, .slice d.ea d.eds.length d.ecap] 46 (0, 0)) ∧ Below w.heap.size w wr) (fun i _ => d.eds.length - (intOf i).toNat)
  case atStart => exact ⟨0, Nat.zero_le _, rfl, fun j hj hk => by omega, HX.out, HB.out⟩
  case round =>
    clear HX HB
    obtain ⟨k, hk, rfl, hall, hx, hb⟩ := hrel
    have HA := Lib.hid hall; have HX := Lib.hid hx; have HB := Lib.hid hb
    clear hall hx hb
    have cx := box_cells HX.out
    by_cases hlt : k < d.eds.length
    · obtain ⟨be, oe, hea, c0⟩ := HD.out.ints.get k hlt
      have HEA := Lib.hid hea
      have hin := HD.out.ints.below HB.out
      have g0 := cell_regrown (keepE c0 HB.out)
      have g1 := cell_regrown (show wr.cell? ⟨w.heap.size, 3, none⟩ = some (.slice d.ea d.eds.length d.ecap) from cx 3)
      rw [hea] at g1 hin
      have HIN := Lib.hid hin
      clear hin
      clear hea c0
      have HN1 := Lib.hid (fun (p1 : inR 1 1000000 d.eds[k] = true) (p2 : idxL d.eds d.eds[k] = k) => (fun j (hj : j < d.eds.length) (hjk : j < k + 1) => (show inR 1 1000000 d.eds[j] = true ∧ idxL d.eds d.eds[j] = j from if e : j = k then by subst e; exact ⟨p1, p2⟩ else HA.out j hj (by omega))))
      have HBad1 := Lib.hid (fun (p1 : inR 1 1000000 d.eds[k] = false) => not_all (p := inR 1 1000000) hlt p1)
      have HBad2 := Lib.hid (fun (p2 : idxL d.eds d.eds[k] ≠ k) => idx_dup hlt p2)
      generalize d.eds[k] = X at *
      cases hi : inR 1 1000000 X
      · have HI := Lib.hid hi; clear hi
        have HR := Lib.hid (HBad1.out HI.out)
        go_wp2
        refine wp_quietB (by kernel_rfl) (by kernel_rfl) ?_
        (repeat (go_big_quiet_step (first | (go_at_call 44; exact Calls.regrown (rin_lit HI.out _)))))
        refine wpQuiet_nil ?_
        intro wq hq
        replace HB := Lib.hid (HB.out.trans (hq.mono HB.out.size))
        clear hq g0 g1 cx
        go_wp2
        go_ret
        exact ⟨by rw [HDK2.out, HR.out]; rfl, HB.out⟩
      · have HI := Lib.hid hi; clear hi
        have HIX := Lib.hid (show ∃ i, idxL d.eds X = i from ⟨_, rfl⟩)
        obtain ⟨i, hi⟩ := HIX.out
        have HII := Lib.hid hi
        rw [hi] at HN1 HBad2
        clear HIX hi
        by_cases hik : i = k
        · have e1 : (i != (k : Int)) = false := by simp [hik]
          have HN2 := Lib.hid (HN1.out HI.out hik)
          clear hik
          go_wp2
          refine wp_quietB (by kernel_rfl) (by kernel_rfl) ?_
          (repeat (go_big_quiet_step (first | (go_at_call 44; exact Calls.regrown (rin_lit HI.out _)) | (go_at_call 20; exact Calls.regrown (RIndex_lit HII.out _ hl (SlAt.below HIN.out (below_regrown _ _ _)))))))
          refine wpQuiet_nil ?_
          intro wq hq
          replace HB := Lib.hid (HB.out.trans (hq.mono HB.out.size)); replace HX := Lib.hid (blk_keep HX.out hq)
          clear hq g0 g1 cx
          go_wp2
          go_roundw
          case rel => exact ⟨k + 1, by omega, by go_num, HN2.out, HX.out, HB.out⟩
          case measure => simp [intOf]; omega
        · have e1 : (i != (k : Int)) = true := by simpa using hik
          have HR := Lib.hid (HBad2.out hik)
          clear hik
          go_wp2
          refine wp_quietB (by kernel_rfl) (by kernel_rfl) ?_
          (repeat (go_big_quiet_step (first | (go_at_call 44; exact Calls.regrown (rin_lit HI.out _)) | (go_at_call 20; exact Calls.regrown (RIndex_lit HII.out _ hl (SlAt.below HIN.out (below_regrown _ _ _)))))))
          refine wpQuiet_nil ?_
          intro wq hq
          replace HB := Lib.hid (HB.out.trans (hq.mono HB.out.size))
          clear hq g0 g1 cx
          go_wp2
          go_ret
          exact ⟨by rw [HDK2.out, HR.out]; simp, HB.out⟩
    · have HA1 := Lib.hid (all_of (p := inR 1 1000000) fun j hj => (HA.out j hj (by omega)).1)
      have HA2 := Lib.hid (idx_nodup fun j hj => (HA.out j hj (by omega)).2)
      clear HA
      go_wp2
      go_ret
      exact ⟨by rw [HDK2.out, HA1.out, HA2.out]; rfl, HB.out⟩
end Go.Proofs.YtehdhbnbajfanaaGreat


/- The reference's functions over lists of demands and copies: walked; for not too many demands, editions, copies. -/
namespace Go.Proofs.YtehdhbnbajfanaaGreat
set_option linter.unusedSimpArgs false
set_option linter.unusedVariables false
open Go.RowKit Go.Sort

theorem dif_next {l : List Int} {k : Nat} (hk : k < l.length) (hn : (l.take k).Nodup) (h : ∀ m (hm : m < l.length), m < k → l[m] ≠ l[k]) : (l.take (k + 1)).Nodup := by
  rw [List.take_succ_eq_append_getElem hk, List.nodup_append]
  refine ⟨hn, by simp, fun a ha b hb e => ?_⟩
  simp only [List.mem_singleton] at hb
  subst hb; subst e
  obtain ⟨m, hm, e⟩ := List.mem_iff_getElem.1 ha
  rw [List.length_take] at hm
  rw [List.getElem_take] at e
  exact h m (by omega) (by omega) e
theorem dif_dup {l : List Int} {m k : Nat} (hk : k < l.length) (hm : m < k) (h : l[m] = l[k]) : nodupB l = false := by
  unfold nodupB
  rw [decide_eq_false_iff_not]
  exact fun hn => by have := (List.getElem_inj hn).1 h; omega
theorem dif_end {l : List Int} {k : Nat} (hk : l.length ≤ k) (h : (l.take k).Nodup) : nodupB l = true := by
  unfold nodupB
  rw [decide_eq_true_iff]
  rwa [List.take_of_length_le hk] at h
def demB (ds : List De) : Bool := decide (ds.length ≤ 200) && ds.all deOk && nodupB (ds.map De.id)
def copB (cs : List Co) : Bool := decide (cs.length ≤ 200) && cs.all coOk && nodupB (cs.map Co.id)
theorem valid_two (ds : List De) (cs : List Co) : validB ds cs = (demB ds && copB cs) := by
  unfold validB demB copB
  cases decide (ds.length ≤ 200) <;> cases decide (cs.length ≤ 200) <;> cases ds.all deOk <;> cases cs.all coOk <;> cases nodupB (ds.map De.id) <;> cases nodupB (cs.map Co.id) <;> rfl
set_option maxRecDepth 100000 in
set_option maxHeartbeats 4000000 in
theorem RDemands_any (a : Option Addr) (cap : Nat) (ds : List De) (w : World) (hl : ds.length ≤ 1000) (he : ∀ d ∈ ds, d.eds.length ≤ 1000) (hm : DeAt w a ds) :
    Calls Tryz.prog 61 #[.slice a ds.length cap] w fun e w' => e = .returned (.bool (demB ds)) ∧ Below w.heap.size w w' := by
  have HM := Lib.hid hm; have HE := Lib.hid he; clear hm he
  by_cases h1 : ds.length ≤ 200
  case neg =>
    have HR := Lib.hid (show demB ds = false by simp [demB, h1])
    go_enter Tryz.func61, Tryz.ntmps61
    go_wp2
    go_ret
    exact ⟨by rw [HR.out]; rfl, Below.refl _ _⟩
  have HV := Lib.hid (show demB ds = (ds.all deOk && nodupB (ds.map De.id)) by simp [demB, h1])
  have HLI := Lib.hid (show (ds.map De.id).length = ds.length by simp)
  go_enter Tryz.func61, Tryz.ntmps61
  go_wp2
  go_loopw [3] (fun i wr => ∃ k : Nat, k ≤ ds.length ∧ i = .int .i64 k ∧ (∀ j (hj : j < ds.length), j < k → deOk ds[j] = true) ∧ ((ds.map De.id).take k).Nodup ∧ Below w.heap.size w wr) (fun i _ => ds.length - (intOf i).toNat)
  case atStart => exact ⟨0, Nat.zero_le _, rfl, fun j hj hk => by omega, by simp, Below.refl _ _⟩
  case round =>
    obtain ⟨k, hk, rfl, hall, hnd, hb⟩ := hrel
    have HA := Lib.hid hall; have HND := Lib.hid hnd; have HB := Lib.hid hb
    clear hall hnd hb
    by_cases hlt : k < ds.length
    · obtain ⟨b, off, rfl, c0, c1, c2, c3⟩ := HM.out.get k hlt
      have g0 := keepE c0 HB.out; have g1 := keepE c1 HB.out; have g2 := keepE c2 HB.out; have g3 := keepE c3 HB.out
      have HD := Lib.hid (HM.out.ok ds[k] (List.getElem_mem _))
      have hed := HE.out ds[k] (List.getElem_mem _)
      have HN := Lib.hid (all_take_next (p := deOk) hlt HA.out); have HNA := Lib.hid (not_all (p := deOk) hlt)
      have hlt' : k < (ds.map De.id).length := by simpa using hlt
      have HId := Lib.hid (show (ds.map De.id)[k]'hlt' = ds[k].id by simp)
      have HC0 := Lib.hid c0
      clear c0 c1 c2 c3
      generalize hdk : ds[k] = d at *
      have HDK := Lib.hid hdk; clear hdk
      go_wp2_with (fail)
      refine (RDemand_any d _ hed (HD.out.below HB.out)).mono ?_
      rintro e w2 ⟨rfl, hb⟩
      have HB2 := Lib.hid (HB.out.trans (hb.mono HB.out.size))
      clear hb g0 g1 g2 g3
      generalize deOk d = R at *
      cases R
      · have HNB := Lib.hid (HNA.out (by first | rfl | trivial))
        go_wp2
        go_ret
        exact ⟨by rw [HV.out, HNB.out]; rfl, HB2.out⟩
      · have HN2 := Lib.hid (HN.out (by first | rfl | trivial))
        clear HN HNA
        go_wp2
        go_loopw [5] (fun i wr => ∃ m : Nat, m ≤ k ∧ i = .int .i64 m ∧ (∀ j (hj : j < (ds.map De.id).length), j < m → (ds.map De.id)[j] ≠ (ds.map De.id)[k]'hlt') ∧ Below w.heap.size w wr) (fun i _ => k - (intOf i).toNat)
        case atStart => exact ⟨0, Nat.zero_le _, rfl, fun j hj hk => by omega, HB2.out⟩
        case round =>
          clear HB2
          obtain ⟨m, hmk, rfl, hne, hb⟩ := hrel
          have HNE := Lib.hid hne; have HB2 := Lib.hid hb
          clear hne hb
          by_cases hlm : m < k
          · obtain ⟨b', off', eb, e0, _⟩ := HM.out.get m (by omega)
            cases eb
            have HIm := Lib.hid (show (ds.map De.id)[m]'(by simp; omega) = (ds[m]'(by omega)).id by simp)
            have g0 := cell_regrown (keepE e0 HB2.out); have g1 := cell_regrown (keepE HC0.out HB2.out)
            generalize (ds[m]'(by omega)).id = X at *
            generalize hY : d.id = Y at *
            have HY := Lib.hid hY; clear hY e0
            by_cases he : X = Y
            · have e1 : (X == Y) = true := by simp [he]
              have HR := Lib.hid (dif_dup hlt' hlm (by rw [HIm.out, HId.out, he]))
              clear he
              go_wp2
              refine wp_quietB (by kernel_rfl) (by kernel_rfl) ?_
              (repeat (go_big_quiet_step (fail)))
              refine wpQuiet_nil ?_
              intro wq hq
              replace HB2 := Lib.hid (HB2.out.trans (hq.mono HB2.out.size))
              clear hq g0 g1
              go_wp2
              go_ret
              exact ⟨by rw [HV.out, HR.out]; simp, HB2.out⟩
            · have e1 : (X == Y) = false := beq_eq_false_iff_ne.2 he
              have HNE2 := Lib.hid (fun j (hj : j < (ds.map De.id).length) (hjm : j < m + 1) => (show (ds.map De.id)[j] ≠ (ds.map De.id)[k]'hlt' from if e : j = m then by subst e; rw [HIm.out, HId.out]; exact he else HNE.out j hj (by omega)))
              clear he
              go_wp2
              refine wp_quietB (by kernel_rfl) (by kernel_rfl) ?_
              (repeat (go_big_quiet_step (fail)))
              refine wpQuiet_nil ?_
              intro wq hq
              replace HB2 := Lib.hid (HB2.out.trans (hq.mono HB2.out.size))
              clear hq g0 g1
              go_wp2
              go_roundw
              case rel => exact ⟨m + 1, by omega, by go_num, HNE2.out, HB2.out⟩
              case measure => simp [intOf]; omega
          · have HND2 := Lib.hid (dif_next hlt' HND.out fun j hj hjk => HNE.out j hj (by omega))
            go_wp2
            go_roundw
            case rel => exact ⟨k + 1, by omega, by go_num, HN2.out, HND2.out, HB2.out⟩
            case measure => simp [intOf]; omega
    · have HAll := Lib.hid (all_of (p := deOk) fun j hj => HA.out j hj (by omega))
      have HEnd := Lib.hid (dif_end (by rw [HLI.out]; omega) HND.out)
      clear HA
      go_wp2
      go_ret
      exact ⟨by rw [HV.out, HAll.out, HEnd.out]; rfl, HB.out⟩
set_option maxRecDepth 100000 in
set_option maxHeartbeats 4000000 in
theorem RCopies_any (a : Option Addr) (cap : Nat) (cs : List Co) (w : World) (hl : cs.length ≤ 1000) (hm : CoAt w a cs) :
    Calls Tryz.prog 62 #[.slice a cs.length cap] w fun e w' => e = .returned (.bool (copB cs)) ∧ Below w.heap.size w w' := by
  have HM := Lib.hid hm; clear hm
  by_cases h1 : cs.length ≤ 200
  case neg =>
    have HR := Lib.hid (show copB cs = false by simp [copB, h1])
    go_enter Tryz.func62, Tryz.ntmps62
    go_wp2
    go_ret
    exact ⟨by rw [HR.out]; rfl, Below.refl _ _⟩
  have HV := Lib.hid (show copB cs = (cs.all coOk && nodupB (cs.map Co.id)) by simp [copB, h1])
  have HLI := Lib.hid (show (cs.map Co.id).length = cs.length by simp)
  go_enter Tryz.func62, Tryz.ntmps62
  go_wp2
  go_loopw [3] (fun i wr => ∃ k : Nat, k ≤ cs.length ∧ i = .int .i64 k ∧ (∀ j (hj : j < cs.length), j < k → coOk cs[j] = true) ∧ ((cs.map Co.id).take k).Nodup ∧ Below w.heap.size w wr) (fun i _ => cs.length - (intOf i).toNat)
  case atStart => exact ⟨0, Nat.zero_le _, rfl, fun j hj hk => by omega, by simp, Below.refl _ _⟩
  case round =>
    obtain ⟨k, hk, rfl, hall, hnd, hb⟩ := hrel
    have HA := Lib.hid hall; have HND := Lib.hid hnd; have HB := Lib.hid hb
    clear hall hnd hb
    by_cases hlt : k < cs.length
    · obtain ⟨b, off, rfl, c0, c1, c2, c3⟩ := HM.out.get k hlt
      have g0 := keepE c0 HB.out; have g1 := keepE c1 HB.out; have g2 := keepE c2 HB.out; have g3 := keepE c3 HB.out
      have HN := Lib.hid (all_take_next (p := coOk) hlt HA.out); have HNA := Lib.hid (not_all (p := coOk) hlt)
      have hlt' : k < (cs.map Co.id).length := by simpa using hlt
      have HId := Lib.hid (show (cs.map Co.id)[k]'hlt' = cs[k].id by simp)
      have HC0 := Lib.hid c0
      clear c0 c1 c2 c3
      generalize hdk : cs[k] = c at *
      have HDK := Lib.hid hdk; clear hdk
      have HCK := Lib.hid (show coOk c = (inR 1 1000000 c.id && inR 1 1000000 c.part && inR 1 1000000 c.ed && inR 0 99 c.hall) from rfl)
      have HB2 := HB
      cases h1 : inR 1 1000000 c.id
      · have H1 := Lib.hid h1
        have HNB := Lib.hid (HNA.out (by rw [HCK.out, h1]; rfl))
        clear h1
        go_wp2_with (fail); refine (rin_lit H1.out _).mono ?_; rintro e w' ⟨rfl, rfl⟩
        go_wp2
        go_ret
        exact ⟨by rw [HV.out, HNB.out]; rfl, HB.out⟩
      cases h2 : inR 1 1000000 c.part
      · have H1 := Lib.hid h1; have H2 := Lib.hid h2
        have HNB := Lib.hid (HNA.out (by rw [HCK.out, h1, h2]; rfl))
        clear h1 h2
        go_wp2_with (fail); refine (rin_lit H1.out _).mono ?_; rintro e w' ⟨rfl, rfl⟩
        go_wp2_with (fail); refine (rin_lit H2.out _).mono ?_; rintro e w' ⟨rfl, rfl⟩
        go_wp2
        go_ret
        exact ⟨by rw [HV.out, HNB.out]; rfl, HB.out⟩
      cases h3 : inR 1 1000000 c.ed
      · have H1 := Lib.hid h1; have H2 := Lib.hid h2; have H3 := Lib.hid h3
        have HNB := Lib.hid (HNA.out (by rw [HCK.out, h1, h2, h3]; rfl))
        clear h1 h2 h3
        go_wp2_with (fail); refine (rin_lit H1.out _).mono ?_; rintro e w' ⟨rfl, rfl⟩
        go_wp2_with (fail); refine (rin_lit H2.out _).mono ?_; rintro e w' ⟨rfl, rfl⟩
        go_wp2_with (fail); refine (rin_lit H3.out _).mono ?_; rintro e w' ⟨rfl, rfl⟩
        go_wp2
        go_ret
        exact ⟨by rw [HV.out, HNB.out]; rfl, HB.out⟩
      cases h4 : inR 0 99 c.hall
      · have H1 := Lib.hid h1; have H2 := Lib.hid h2; have H3 := Lib.hid h3; have H4 := Lib.hid h4
        have HNB := Lib.hid (HNA.out (by rw [HCK.out, h1, h2, h3, h4]; rfl))
        clear h1 h2 h3 h4
        go_wp2_with (fail); refine (rin_lit H1.out _).mono ?_; rintro e w' ⟨rfl, rfl⟩
        go_wp2_with (fail); refine (rin_lit H2.out _).mono ?_; rintro e w' ⟨rfl, rfl⟩
        go_wp2_with (fail); refine (rin_lit H3.out _).mono ?_; rintro e w' ⟨rfl, rfl⟩
        go_wp2_with (fail); refine (rin_lit H4.out _).mono ?_; rintro e w' ⟨rfl, rfl⟩
        go_wp2
        go_ret
        exact ⟨by rw [HV.out, HNB.out]; rfl, HB.out⟩
      · have HN2 := Lib.hid (HN.out (by rw [HCK.out, h1, h2, h3, h4]; rfl))
        have H1 := Lib.hid h1; have H2 := Lib.hid h2; have H3 := Lib.hid h3; have H4 := Lib.hid h4
        clear HN HNA h1 h2 h3 h4
        go_wp2_with (fail); refine (rin_lit H1.out _).mono ?_; rintro e w' ⟨rfl, rfl⟩
        go_wp2_with (fail); refine (rin_lit H2.out _).mono ?_; rintro e w' ⟨rfl, rfl⟩
        go_wp2_with (fail); refine (rin_lit H3.out _).mono ?_; rintro e w' ⟨rfl, rfl⟩
        go_wp2_with (fail); refine (rin_lit H4.out _).mono ?_; rintro e w' ⟨rfl, rfl⟩
        go_wp2
        clear g0 g1 g2 g3
        go_loopw [4] (fun i wr => ∃ m : Nat, m ≤ k ∧ i = .int .i64 m ∧ (∀ j (hj : j < (cs.map Co.id).length), j < m → (cs.map Co.id)[j] ≠ (cs.map Co.id)[k]'hlt') ∧ Below w.heap.size w wr) (fun i _ => k - (intOf i).toNat)
        case atStart => exact ⟨0, Nat.zero_le _, rfl, fun j hj hk => by omega, HB2.out⟩
        case round =>
          clear HB2
          obtain ⟨m, hmk, rfl, hne, hb⟩ := hrel
          have HNE := Lib.hid hne; have HB2 := Lib.hid hb
          clear hne hb
          by_cases hlm : m < k
          · obtain ⟨b', off', eb, e0, _⟩ := HM.out.get m (by omega)
            cases eb
            have HIm := Lib.hid (show (cs.map Co.id)[m]'(by simp; omega) = (cs[m]'(by omega)).id by simp)
            have g0 := cell_regrown (keepE e0 HB2.out); have g1 := cell_regrown (keepE HC0.out HB2.out)
            generalize (cs[m]'(by omega)).id = X at *
            generalize hY : c.id = Y at *
            have HY := Lib.hid hY; clear hY e0
            by_cases he : X = Y
            · have e1 : (X == Y) = true := by simp [he]
              have HR := Lib.hid (dif_dup hlt' hlm (by rw [HIm.out, HId.out, he]))
              clear he
              go_wp2
              refine wp_quietB (by kernel_rfl) (by kernel_rfl) ?_
              (repeat (go_big_quiet_step (fail)))
              refine wpQuiet_nil ?_
              intro wq hq
              replace HB2 := Lib.hid (HB2.out.trans (hq.mono HB2.out.size))
              clear hq g0 g1
              go_wp2
              go_ret
              exact ⟨by rw [HV.out, HR.out]; simp, HB2.out⟩
            · have e1 : (X == Y) = false := beq_eq_false_iff_ne.2 he
              have HNE2 := Lib.hid (fun j (hj : j < (cs.map Co.id).length) (hjm : j < m + 1) => (show (cs.map Co.id)[j] ≠ (cs.map Co.id)[k]'hlt' from if e : j = m then by subst e; rw [HIm.out, HId.out]; exact he else HNE.out j hj (by omega)))
              clear he
              go_wp2
              refine wp_quietB (by kernel_rfl) (by kernel_rfl) ?_
              (repeat (go_big_quiet_step (fail)))
              refine wpQuiet_nil ?_
              intro wq hq
              replace HB2 := Lib.hid (HB2.out.trans (hq.mono HB2.out.size))
              clear hq g0 g1
              go_wp2
              go_roundw
              case rel => exact ⟨m + 1, by omega, by go_num, HNE2.out, HB2.out⟩
              case measure => simp [intOf]; omega
          · have HND2 := Lib.hid (dif_next hlt' HND.out fun j hj hjk => HNE.out j hj (by omega))
            go_wp2
            go_roundw
            case rel => exact ⟨k + 1, by omega, by go_num, HN2.out, HND2.out, HB2.out⟩
            case measure => simp [intOf]; omega
    · have HAll := Lib.hid (all_of (p := coOk) fun j hj => HA.out j hj (by omega))
      have HEnd := Lib.hid (dif_end (by rw [HLI.out]; omega) HND.out)
      clear HA
      go_wp2
      go_ret
      exact ⟨by rw [HV.out, HAll.out, HEnd.out]; rfl, HB.out⟩
theorem RValidH_any (a a2 : Option Addr) (cap cap2 : Nat) (ds : List De) (cs : List Co) (w : World) (hl : ds.length ≤ 1000) (hl2 : cs.length ≤ 1000) (he : ∀ d ∈ ds, d.eds.length ≤ 1000) (hm : DeAt w a ds) (hc : CoAt w a2 cs) :
    Calls Tryz.prog 38 #[.slice a ds.length cap, .slice a2 cs.length cap2] w fun e w' => e = .returned (.bool (validB ds cs)) ∧ Below w.heap.size w w' := by
  have HM := Lib.hid hm; have HE := Lib.hid he; have HC := Lib.hid hc; clear hm he hc
  have HV := Lib.hid (valid_two ds cs)
  go_enter Tryz.func38, Tryz.ntmps38
  go_wp2_with (fail)
  refine (RDemands_any a cap ds w hl HE.out HM.out).mono ?_
  rintro e w1 ⟨rfl, hb⟩
  have HB := Lib.hid hb; clear hb
  go_wp2_with (fail)
  refine (RCopies_any a2 cap2 cs _ hl2 (HC.out.below HB.out)).mono ?_
  rintro e w2 ⟨rfl, hb⟩
  replace HB := Lib.hid (HB.out.trans (hb.mono HB.out.size)); clear hb
  generalize demB ds = R at *
  cases R
  · go_wp2
    go_ret
    exact ⟨by rw [HV.out]; rfl, HB.out⟩
  · go_wp2
    go_ret
    exact ⟨by rw [HV.out]; simp, HB.out⟩
set_option maxHeartbeats 2000000 in
theorem RCost_any (d : De) (c : Co) (hall : Int) (w : World) (hl : d.eds.length ≤ 1000) (hd : d.Ok w) :
    Calls Tryz.prog 45 #[.agg #[.int .i64 d.id, .int .i64 d.part, .int .i64 d.stand, .slice d.ea d.eds.length d.ecap], .agg #[.int .i64 c.id, .int .i64 c.part, .int .i64 c.ed, .int .i64 c.hall], .int .i64 hall] w fun e w' => e = .returned (.int .i64 (costI d c hall)) ∧ Below w.heap.size w w' := by
  have HD := Lib.hid hd; clear hd
  have HB := Lib.hid (((Below.refl w.heap.size w).alloc (Nat.le_refl _) (.cells #[.int .i64 d.id, .int .i64 d.part, .int .i64 d.stand, .slice d.ea d.eds.length d.ecap] 46)).alloc (by simp) (.cells #[.int .i64 c.id, .int .i64 c.part, .int .i64 c.ed, .int .i64 c.hall] 44))
  have hge := idxL_ge d.eds c.ed
  have hle : idxL d.eds c.ed ≤ 1000 := by
    rcases idxL_lt d.eds c.ed with h | h
    · omega
    · rw [h]; simp [idxL]
  have HC := Lib.hid (show ∀ i, idxL d.eds c.ed = i → costI d c hall = if d.part ≠ c.part ∨ i < 0 then -1 else if c.hall = hall then 10 * i else 10 * i + 5 from fun i e => by subst e; rfl)
  have HIX := Lib.hid (RIndex_any d.ea d.ecap d.eds c.ed _ hl (HD.out.ints.below HB.out))
  generalize hi : idxL d.eds c.ed = i at *
  replace HC := Lib.hid (HC.out i rfl)
  generalize costI d c hall = R at *
  clear hi
  go_enter Tryz.func45, Tryz.ntmps45
  go_wp2_with (fail)
  refine HIX.out.mono ?_
  rintro e w2 ⟨rfl, rfl⟩
  clear HIX
  by_cases hp : d.part = c.part
  · have e1 : (d.part != c.part) = false := by simp [hp]
    by_cases hn : i < 0
    · have HR := Lib.hid (show R = -1 by rw [HC.out, if_pos (.inr hn)])
      clear hp
      go_wp2
      go_ret
      exact ⟨by rw [HR.out]; rfl, HB.out⟩
    · by_cases hh : c.hall = hall
      · have e2 : (c.hall != hall) = false := by simp [hh]
        have HR := Lib.hid (show R = 10 * i by rw [HC.out, if_neg (by omega), if_pos hh])
        clear hp hh
        go_wp2
        go_ret
        exact ⟨by rw [HR.out]; rfl, HB.out⟩
      · have e2 : (c.hall != hall) = true := by simpa using hh
        have HR := Lib.hid (show R = 10 * i + 5 by rw [HC.out, if_neg (by omega), if_neg hh])
        clear hp hh
        go_wp2
        go_ret
        exact ⟨by rw [HR.out]; rfl, HB.out⟩
  · have e1 : (d.part != c.part) = true := by simpa using hp
    have HR := Lib.hid (show R = -1 by rw [HC.out, if_pos (.inl hp)])
    clear hp
    go_wp2
    go_ret
    exact ⟨by rw [HR.out]; rfl, HB.out⟩
end Go.Proofs.YtehdhbnbajfanaaGreat


/- A drawn region as in QTail, whose first operation is a move that the tail alone uses: it is taken first; no condition. -/
namespace Go.Proofs.YtehdhbnbajfanaaGreat
set_option linter.unusedSimpArgs false
set_option linter.unusedVariables false
open Go.RowKit Go.Sort

section
variable {P : Program} {ops : Array Oper} {md : Region.Mode} {C : World → Prop}
def sink1B (md : Region.Mode) (ops : Array Oper) (n : Nat) : Bool :=
  (List.range n).all fun i => decide (i = 0) || (List.range (n + 1)).any fun j => decide (i < j) && Region.waitsFor md ops j i
theorem tail_waits1 {n : Nat} {listed : Array Bool} (hs : sink1B md ops n = true) (hc : Region.chainB md ops n = true) (hn : n < ops.size) (inv : HeadInv md ops n listed) (h0 : listed.getD 0 false = true) :
    ∀ (d i : Nat), n - i = d → i < n → listed.getD i true = false → ∀ t, n ≤ t → t ∉ Region.ready md ops listed := by
  intro d
  induction d using Nat.strongRecOn with
  | _ d ih =>
    intro i hd hi hun t ht hr
    have hi0 : i ≠ 0 := by
      rintro rfl
      rw [getD_both hun] at h0; cases h0
    obtain ⟨_, ot, hot, hall⟩ := mem_ready.1 hr
    have htlt : t < ops.size := (Array.getElem?_eq_some_iff.1 hot).1
    by_cases htn : t = n
    · subst htn
      have h1 := List.all_eq_true.1 hs i (List.mem_range.2 hi)
      simp only [Bool.or_eq_true, decide_eq_true_eq] at h1
      rcases h1 with h1 | h1
      · exact absurd h1 hi0
      obtain ⟨j, hj, hj2⟩ := List.any_eq_true.1 h1
      simp only [Bool.and_eq_true, decide_eq_true_eq] at hj2
      obtain ⟨oj, hoj, e, he, hb, hon⟩ := Region.waitsFor_spec hj2.2
      have hjle : j ≤ t := by have := List.mem_range.1 hj; omega
      by_cases hjt : j = t
      · subst hjt
        have : oj = ot := Option.some.inj (hoj.symm.trans hot)
        subst this
        have h2 := hall e he hb
        rw [hon, getD_both hun] at h2
        cases h2
      · cases hl : listed.getD j false with
        | true =>
          have h2 := inv.closed j oj hoj hl e he hb
          rw [hon, getD_both hun] at h2
          cases h2
        | false =>
          have hjs : j < listed.size := by rw [inv.size]; omega
          exact ih (t - j) (by omega) j rfl (by omega) (getD_in hjs hl) t (Nat.le_refl _) hr
    · have h1 := List.all_eq_true.1 hc t (List.mem_range.2 htlt)
      simp only [Bool.or_eq_true, decide_eq_true_eq] at h1
      rcases h1 with h1 | h1
      · omega
      · obtain ⟨o', ho', e, he, hb, hon⟩ := Region.waitsFor_spec h1
        have : o' = ot := Option.some.inj (ho'.symm.trans hot)
        subst this
        have h2 := hall e he hb
        rw [hon] at h2
        have h3 := inv.tail (t - 1) (by omega) (by omega)
        rw [getD_both h3] at h2
        cases h2
theorem wpAnyLQ1_first {n i : Nat} {oi : Oper} {v : Value} {L : Array Bool → Act → Prop} (hi : ops[i]? = some oi) (hsel : ∀ (j : Nat) (o : Oper) cs b, ops[j]? = some o → o.op ≠ .select cs b)
    (hs : sink1B md ops n = true) (hc : Region.chainB md ops n = true) (hn : n < ops.size) (hin : i < n)
    (hdone : ∀ listed a, L listed a → ∀ j ∈ Region.ready md ops listed, n ≤ j) :
    ∀ (f : Nat) (listed : Array Bool) (a : Act), HeadInv md ops n listed → listed.getD 0 false = true →
      (∀ j oj, ops[j]? = some oj → j ≠ i → listed.getD j true = false → (∀ e ∈ oj.after, Region.binds md e = true → e.on ≠ i) → oi.apart ops oj = true) →
      i ∈ Region.ready md ops listed → YieldsIn P ops C oi v a →
      wpAnyLQ P md ops C n L f (listed.setIfInBounds i true) (a.put oi.dst v) → wpAnyLQ P md ops C n L (f + 1) listed a := by
  intro f
  induction f with
  | zero =>
    intro listed a inv h0 _ hr hy H
    have hun := (mem_ready.1 hr).1
    refine ⟨fun h => (by rw [h] at hr; cases hr), fun j hj => ?_⟩
    have hjn : j < n := by
      rcases Nat.lt_or_ge j n with h | h
      · exact h
      · exact absurd hj (tail_waits1 hs hc hn inv h0 _ i rfl hin hun j h)
    refine ⟨hjn, ?_⟩
    by_cases hji : j = i
    · subst hji; exact hy.qOp hi H
    · have := hdone _ _ H j (ready_mono hj hji)
      omega
  | succ f ih =>
    intro listed a inv h0 hfree hr hy H
    have hun := (mem_ready.1 hr).1
    refine ⟨fun h => (by rw [h] at hr; cases hr), fun j hj => ?_⟩
    have hjn : j < n := by
      rcases Nat.lt_or_ge j n with h | h
      · exact h
      · exact absurd hj (tail_waits1 hs hc hn inv h0 _ i rfl hin hun j h)
    refine ⟨hjn, ?_⟩
    by_cases hji : j = i
    · subst hji; exact hy.qOp hi H
    · have h1 := (H.2 j (ready_mono hj hji)).2
      obtain ⟨hjun, oj, hoj, hall⟩ := mem_ready.1 hj
      have hnot : ∀ e ∈ oj.after, Region.binds md e = true → e.on ≠ i := fun e he hb heq => by
        have h1 := hall e he hb
        rw [heq, getD_both hun] at h1
        cases h1
      have h2 := qOp_put hoj (hfree j oj hoj hji hjun hnot) (fun cs b => hsel i oi cs b hi) (fun cs b => hsel j oj cs b hoj) hy h1
      have hfree' : ∀ k ok, ops[k]? = some ok → k ≠ i → (listed.setIfInBounds j true).getD k true = false →
          (∀ e ∈ ok.after, Region.binds md e = true → e.on ≠ i) → oi.apart ops ok = true := fun k ok hk hki hun hno => by
        refine hfree k ok hk hki ?_ hno
        by_cases hjk : j = k
        · subst hjk; exact hjun
        · rw [getD_set_ne true hjk] at hun; exact hun
      refine qOp_mono (fun a' h3 => ih (listed.setIfInBounds j true) a' (inv.set hj hjn) (getD_set_true h0) hfree' (ready_mono hr (Ne.symm hji)) h3.1 ?_) h2
      rw [Array.setIfInBounds_comm _ _ hji]
      exact h3.2
theorem wpAnyLQ1_lex {n g : Nat} {Lq : Act → Prop} (hsel : Region.noSelect ops = true) (hs : sink1B md ops n = true) (hc : Region.chainB md ops n = true) (hn : n < ops.size) :
    ∀ (l : List Oper) (k : Nat) (listed : Array Bool) (a : Act), (∀ j, j < l.length → l[j]? = ops[k + j]?) → k + l.length = n → HeadInv md ops n listed → listed.getD 0 false = true →
    Region.lexHead md ops g l.length k listed = true → wpQuiet P ops C Lq l a →
    wpAnyLQ P md ops C n (fun listed' a' => Region.seqB md ops g n listed' = true ∧ Lq a') l.length listed a
  | [], k, listed, a, _, hk, _, _, hB, h => by
    have : k = n := by simpa using hk
    subst this
    exact ⟨by simpa [Region.lexHead] using hB, h⟩
  | o :: l, k, listed, a, hl, hk, inv, hz, hB, h => by
    have h0 : ops[k]? = some o := by simpa using (hl 0 (by simp)).symm
    simp only [List.length_cons, Region.lexHead, Bool.and_eq_true] at hB
    obtain ⟨⟨hr, hf⟩, hB'⟩ := hB
    have hkn : k < n := by simp only [List.length_cons] at hk; omega
    have hr' : k ∈ Region.ready md ops listed := by simpa using hr
    have hst : qOp P ops C k (wpQuiet P ops C Lq l) a := by unfold qOp; simp only [h0]; exact h
    obtain ⟨v, hy, hK⟩ := yieldsIn_of_qOp h0 hst
    exact wpAnyLQ1_first h0 (Region.noSelect_spec hsel) hs hc hn hkn (fun listed' a' hL => seqB_ready hL.1) l.length listed a inv hz (Region.free_spec h0 hf) hr' hy
      (wpAnyLQ1_lex hsel hs hc hn l (k + 1) _ _ (fun j hj => by have := hl (j + 1) (by simp; omega); simpa [Nat.add_assoc, Nat.add_comm 1 j] using this) (by simp only [List.length_cons] at hk; omega) (inv.set hr' hkn) (getD_set_true hz) hB' hK)
def lexTail1B (md : Region.Mode) (ops : Array Oper) (n : Nat) : Bool :=
  Region.noSelect ops && decide (n < ops.size) && sink1B md ops n && Region.chainB md ops n && (Region.ready md ops (Array.replicate ops.size false)).contains 0 && Region.free md ops (Array.replicate ops.size false) 0 && Region.lexHead md ops (ops.size - n) (n - 1) 1 ((Array.replicate ops.size false).setIfInBounds 0 true)
/-- The first operation is a move of a slot; the next ones only read, and their callees may lay new memory; those from n on follow one behind the other. -/
theorem wp_tailB1 {id : Nat} {Q : Exit → Act → World → Prop} {a : Act} {w : World} {l : List Oper} (n : Nat) (o : Oper) (v : Value) (hn0 : 0 < n) (hm : P.follows .mixedOrders = true) (hB : lexTail1B .any l.toArray n = true) (h0 : l[0]? = some o)
    (hQ : ∀ c a w, Q (.panic c) (a.put o.dst v) w → Q (.panic c) a w) (hy : Yields P l.toArray o v a)
    (h : wpQuiet P l.toArray (fun w' => ∃ p : Regrown, w' = grow (redrawn w p.d) p.os) (fun a' => ∀ w', Below w.heap.size w w' → wpList P l.toArray Q (l.drop n) a' w') ((l.take n).drop 1) (a.put o.dst v)) : (Code.region id l.toArray true).wp P Q a w := by
  simp only [lexTail1B, Bool.and_eq_true, decide_eq_true_eq] at hB
  obtain ⟨⟨⟨⟨⟨⟨hsel, hn⟩, hs⟩, hc⟩, hr⟩, hf⟩, hlex⟩ := hB
  have hn' : n < l.length := by simpa using hn
  have htl : ((l.take n).drop 1).length = n - 1 := by simp; omega
  have hdl : (l.drop n).length = l.toArray.size - n := by simp
  have inv0 : HeadInv .any l.toArray n (Array.replicate l.toArray.size false) :=
    ⟨by simp, fun j oj _ hl => (by rw [getD_replicate_false] at hl; cases hl), fun t _ ht => getD_in (by simpa using ht) (getD_replicate_false _ _)⟩
  have hr0 : 0 ∈ Region.ready .any l.toArray (Array.replicate l.toArray.size false) := by simpa using hr
  have inv1 := inv0.set hr0 hn0
  have hz : ((Array.replicate l.toArray.size false).setIfInBounds 0 true).getD 0 false = true := by
    have : 0 < l.length := by omega
    simp [this]
  refine wp_region_any hm ?_
  have e1 : l.toArray.size = (l.toArray.size - 1) + 1 := by simp; omega
  rw [e1]
  refine wpAny_take (oi := o) (v := v) (i := 0) (by simpa using h0) hsel (by rw [← e1]; exact hf) (by rw [← e1]; exact hr) hQ hy ?_
  rw [← e1]
  have H := wpAnyLQ1_lex (md := .any) (g := l.toArray.size - n) (Lq := fun a' => ∀ w', (∃ p : Regrown, w' = grow (redrawn w p.d) p.os) → wpList P l.toArray Q (l.drop n) a' w') hsel hs hc hn ((l.take n).drop 1) 1 _ (a.put o.dst v) (fun j hj => by
    rw [htl] at hj
    rw [List.getElem?_drop, List.getElem?_take, if_pos (by omega)]
    simp) (by rw [htl]; omega) inv1 hz (by rw [htl]; exact hlex) (by
      have e : (fun a' => ∀ w', (∃ p : Regrown, w' = grow (redrawn w p.d) p.os) → wpList P l.toArray Q (l.drop n) a' w') = fun a' => ∀ w', Below w.heap.size w w' → wpList P l.toArray Q (l.drop n) a' w' := by
        funext a'
        refine propext ⟨fun h w' hb => h w' (regrown_of_below hb), fun h w' ⟨p, hp⟩ => h w' (hp ▸ below_regrown w p.d p.os)⟩
      rw [e]
      exact h)
  have := wpAny_of_headQ (Q' := Q) (g := l.toArray.size - n) (fun listed a' w' hw' hL => by
    have := wpAny_of_seq (md := .any) (Q' := Q) (l.drop n) n listed a' w' (fun j => by simp [List.getElem?_drop]) (by rw [hdl]; exact hL.1) (hL.2 w' hw')
    rwa [hdl] at this) _ _ _ { w with drawn := w.drawn + 1 } ⟨⟨w.drawn + 1, #[]⟩, by rw [grow_empty]; rfl⟩ H
  rw [htl, show n - 1 + (l.toArray.size - n) = l.toArray.size - 1 by simp; omega] at this
  exact this
end
end Go.Proofs.YtehdhbnbajfanaaGreat


/- The reference's Costs over demands and copies, and Few: walked; for not too many demands, editions, copies (Costs). -/
namespace Go.Proofs.YtehdhbnbajfanaaGreat
set_option linter.unusedSimpArgs false
set_option linter.unusedVariables false
open Go.RowKit Go.Sort

/-- Rows that have been made by append: m of them, each of n integers; there may be no column. -/
structure HdI (W : World) (B n m : Nat) (F : Nat → Nat → Int) (s : Value) (H : Nat → Hd) : Prop where
  ow : OwnR W B 24 1 s (((List.range m).map H).map hdr)
  rl : ∀ i, i < m → (H i).2.1 = n ∧ SlOk0 (H i).1 n (H i).2.2 ∧ (n ≠ 0 → ∃ g, (H i).1 = some ⟨g, 0, none⟩ ∧ RowC W g n (F i))
theorem HdI.below {W W' : World} {B n m : Nat} {F : Nat → Nat → Int} {s : Value} {H : Nat → Hd} (h : HdI W B n m F s H) (hb : Below W.heap.size W W') : HdI W' B n m F s H :=
  ⟨h.ow.below hb, fun i hi => ⟨(h.rl i hi).1, (h.rl i hi).2.1, fun h0 => by obtain ⟨g, e, r⟩ := (h.rl i hi).2.2 h0; exact ⟨g, e, r.below hb⟩⟩⟩
theorem range_H (H : Nat → Hd) (m : Nat) (x : Hd) : (List.range m).map (upd H m x) = (List.range m).map H :=
  List.map_congr_left fun i hi => by
    have : i < m := List.mem_range.1 hi
    rw [upd_ne _ _ (show i ≠ m by omega)]
theorem HdI.next {W W1 W3 : World} {B n m : Nat} {F : Nat → Nat → Int} {s s' : Value} {H : Nat → Hd} {x : Hd} {E : TypeId} (h : HdI W B n m F s H) (hb : Below W.heap.size W W1) (hx : x.2.1 = n ∧ SlOk0 x.1 n x.2.2 ∧ (n ≠ 0 → ∃ g, x.1 = some ⟨g, 0, none⟩ ∧ RowC W1 g n (F m)))
    (o : OwnR W3 B 24 1 s' (((List.range m).map H ++ [x]).map hdr)) (hg3 : (W1.alloc (.cells #[.slice x.1 x.2.1 x.2.2] E)).grownBy W3 s.ownBlock) :
    HdI W3 B n (m + 1) F s' (upd H m x) := by
  have hb2 : Below W.heap.size W (W1.alloc (.cells #[.slice x.1 x.2.1 x.2.2] E)) := hb.alloc hb.size _
  have h2 := h.below hb2
  have up : ∀ {k : Nat} {f : Nat → Int}, RowC W1 k n f → RowC (W1.alloc (.cells #[.slice x.1 x.2.1 x.2.2] E)) k n f := fun r => r.below ((Below.refl W1.heap.size W1).alloc (Nat.le_refl _) _)
  generalize W1.alloc (.cells #[.slice x.1 x.2.1 x.2.2] E) = W2 at *
  have keep : ∀ {k : Nat} {f : Nat → Int}, RowC W2 k n f → RowC W3 k n f := fun r => r.of_eq (hg3.block _ r.lt (Ne.symm (rowC_ne r h2.ow)))
  refine ⟨?_, fun i hi => ?_⟩
  · rw [List.range_succ, List.map_append, range_H]
    simpa [upd_same] using o
  · by_cases e : i = m
    · subst e
      rw [upd_same]
      exact ⟨hx.1, hx.2.1, fun h0 => by obtain ⟨g, e, r⟩ := hx.2.2 h0; exact ⟨g, e, keep (up r)⟩⟩
    · rw [upd_ne _ _ e]
      exact ⟨(h2.rl i (by omega)).1, (h2.rl i (by omega)).2.1, fun h0 => by obtain ⟨g, e, r⟩ := (h2.rl i (by omega)).2.2 h0; exact ⟨g, e, keep r⟩⟩
theorem HdI.mat {W : World} {B n m : Nat} {F : Nat → Nat → Int} {s : Value} {H : Nat → Hd} (h : HdI W B n m F s H) : ∃ a cap, s = .slice a m cap ∧ SlOk a m cap ∧ MatAt W a (tabC m n F) := by
  obtain ⟨a, cap, e, hs, hat⟩ := h.ow.slAt
  rw [List.length_map, List.length_map, List.length_range] at e hs
  refine ⟨a, cap, e, hs, ((List.range m).map H).map fun h => .slice h.1 h.2.1 h.2.2, ?_, by simp [tabC], fun i hi => ?_⟩
  · rw [List.map_map]; exact hat
  · rw [tab_len] at hi
    obtain ⟨h1, h2, h3⟩ := h.rl i hi
    have e1 : ((tabC m n F)[i]'(by rw [tab_len]; exact hi)) = (List.range n).map (F i) := tab_row hi
    refine ⟨(H i).1, (H i).2.2, ?_, ?_, ?_⟩
    · simp [hi, e1, h1]
    · rw [e1]; simpa using h2
    · rw [e1]
      by_cases h0 : n = 0
      · subst h0; exact SlAt.nil _ _ _
      · obtain ⟨g, e, r⟩ := h3 h0
        rw [e]; exact r.inAt
theorem rowF_succ (F : Nat → Int) (y : Nat) : ((List.range y).map F).map inRow ++ [inRow (F y)] = ((List.range (y + 1)).map F).map inRow := by simp [List.range_succ]
set_option maxRecDepth 100000 in
set_option maxHeartbeats 4000000 in
theorem RCostsH_any (a a2 : Option Addr) (cap cap2 : Nat) (ds : List De) (cs : List Co) (hall : Int) (w : World) (hl : ds.length ≤ 1000) (hl2 : cs.length ≤ 1000) (he : ∀ d ∈ ds, d.eds.length ≤ 1000) (hm : DeAt w a ds) (hc : CoAt w a2 cs) :
    Calls Tryz.prog 28 #[.slice a ds.length cap, .slice a2 cs.length cap2, .int .i64 hall] w (CostsPost ds cs hall w) := by
  have HM := Lib.hid hm; have HC := Lib.hid hc; have HE := Lib.hid he
  clear hm hc he
  go_enter Tryz.func28, Tryz.ntmps28
  go_wp2_with (fail)
  refine (RValidH_any a a2 cap cap2 ds cs w hl hl2 HE.out HM.out HC.out).mono ?_
  rintro e w1 ⟨rfl, hb⟩
  have HB := Lib.hid hb; clear hb
  generalize hV : validB ds cs = V at *
  have HV := Lib.hid hV; clear hV
  cases V
  · go_wp2
    go_ret2
    exact ⟨none, 0, HB.out, .inr ⟨by rw [HV.out]; rfl, rfl⟩⟩
  generalize hR : inR 0 99 hall = R at *
  have HR := Lib.hid hR; clear hR
  go_wp2_with (fail)
  refine (rin_lit HR.out _).mono ?_
  rintro e w2 ⟨rfl, rfl⟩
  cases R
  · go_wp2
    go_ret2
    exact ⟨none, 0, HB.out, .inr ⟨by rw [HV.out, HR.out]; rfl, rfl⟩⟩
  go_wp2
  go_loopw [9, 10] (fun s9 s10 wr => ∃ (m : Nat) (H : Nat → Hd), m ≤ ds.length ∧ s10 = .int .i64 m ∧ HdI wr w.heap.size cs.length m (costF ds cs hall) s9 H ∧ Below w.heap.size w wr) (fun _ i _ => ds.length - (intOf i).toNat)
  case atStart => exact ⟨0, fun _ => (none, 0, 0), Nat.zero_le _, rfl, ⟨OwnR.nil _ _ _ _, fun i hi => by omega⟩, HB.out⟩
  case round =>
    clear HB
    obtain ⟨m, H, hmc, rfl, hI, hb⟩ := hrel
    obtain ⟨wo, rfl⟩ : ∃ wo, wo = wr := ⟨_, rfl⟩
    have HI := Lib.hid hI; have HB := Lib.hid hb
    clear hI hb
    by_cases hlt : m < ds.length
    · obtain ⟨b, off, rfl, c0, c1, c2, c3⟩ := HM.out.get m hlt
      have HC0 := Lib.hid c0; have HC1 := Lib.hid c1; have HC2 := Lib.hid c2; have HC3 := Lib.hid c3
      have HD := Lib.hid (HM.out.ok ds[m] (List.getElem_mem _))
      have hed := HE.out ds[m] (List.getElem_mem _)
      have HF := Lib.hid (fun y (hy : y < cs.length) => costF_at (hall := hall) hlt hy)
      generalize ds[m] = d at *
      clear c0 c1 c2 c3
      go_wp2
      go_loopw [11, 12] (fun s11 s12 W => ∃ y : Nat, y ≤ cs.length ∧ s12 = .int .i64 y ∧ OwnR W wo.heap.size 3 1 s11 (((List.range y).map (costF ds cs hall m)).map inRow) ∧ Below wo.heap.size wo W) (fun _ i _ => cs.length - (intOf i).toNat)
      case atStart => exact ⟨0, Nat.zero_le _, rfl, OwnR.nil _ _ _ _, Below.refl _ _⟩
      case round =>
        obtain ⟨y, hy, rfl, hrw, hb⟩ := hrel
        have HRW := Lib.hid hrw; have HBr := Lib.hid hb
        clear hrw hb
        by_cases hly : y < cs.length
        · obtain ⟨b2, o2, rfl, c0, c1, c2, c3⟩ := HC.out.get y hly
          have HBB := Lib.hid (HB.out.trans (HBr.out.mono HB.out.size))
          have g0 := cell_regrown (keepE c0 HBB.out); have g1 := cell_regrown (keepE c1 HBB.out); have g2 := cell_regrown (keepE c2 HBB.out); have g3 := cell_regrown (keepE c3 HBB.out)
          have g4 := cell_regrown (keepE HC0.out HBB.out); have g5 := cell_regrown (keepE HC1.out HBB.out); have g6 := cell_regrown (keepE HC2.out HBB.out); have g7 := cell_regrown (keepE HC3.out HBB.out)
          have HF2 := Lib.hid (HF.out y hly)
          clear c0 c1 c2 c3
          generalize cs[y] = c at *
          go_wp2
          refine wp_tailB1 11 _ u11 (by decide) (by kernel_rfl) (by kernel_rfl) rfl (fun _ _ _ h => h) (.inl ⟨by kernel_rfl, fun wq => by go_simp⟩) ?_
          simp only [Act.put, List.setIfInBounds_toArray, List.set_cons_zero, List.set_cons_succ, List.take_succ_cons, List.take_zero, List.drop_succ_cons, List.drop_zero]
          (repeat (go_big_quiet_step (first | (go_at_call 45; exact Calls.regrown_of (RCost_any d c hall _ hed (HD.out.below (HBB.out.trans ((below_regrown _ _ _).mono HBB.out.size))))))))
          refine wpQuiet_nil ?_
          intro wq hq
          replace HBr := Lib.hid (HBr.out.trans (hq.mono HBr.out.size))
          replace HRW := Lib.hid (HRW.out.below hq)
          clear hq g0 g1 g2 g3 g4 g5 g6 g7 HBB
          rw [← HF2.out]
          go_wp2_with (at_builtin; refine appE eltInt rfl (.tmp 35) (.tmp 46) rfl wo.heap.size _ ((List.range y).map (costF ds cs hall m)) rfl (HRW.out.below ((Below.refl _ _).alloc (Nat.le_refl _) _)) _ _ _ [costF ds cs hall m y] rfl rfl (fun e => by cases e) (eltInt.new _ _ _ _ rfl) (by simp; omega) (by have := HBr.out.size; simp; omega) ?_; intro v1 w3 ho1 hg1; have HRW1 := Lib.hid ho1; have HBr1 := Lib.hid (below_grown (HBr.out.alloc HBr.out.size _) (HRW.out.below ((Below.refl _ _).alloc (Nat.le_refl _) _)) (by have := HBr.out.size; simp; omega) hg1); clear ho1 hg1)
          go_roundw
          case rel => exact ⟨y + 1, by omega, by go_num, by
            have := HRW1.out
            rw [List.map_append, show List.map inRow [costF ds cs hall m y] = [inRow (costF ds cs hall m y)] from rfl, rowF_succ] at this
            exact this, HBr1.out⟩
          case measure => simp [intOf]; omega
        · have hye : y = cs.length := by omega
          subst hye
          have hx : ∃ x : Hd, u11 = .slice x.1 x.2.1 x.2.2 ∧ x.2.1 = cs.length ∧ SlOk0 x.1 cs.length x.2.2 ∧ (cs.length ≠ 0 → ∃ g, x.1 = some ⟨g, 0, none⟩ ∧ RowC wr g cs.length (costF ds cs hall m)) := by
            by_cases h0 : cs.length = 0
            · obtain ⟨ar, cr, e, hs, _⟩ := HRW.out.slAt
              have hz : (((List.range cs.length).map (costF ds cs hall m)).map inRow).length = cs.length := by simp
              rw [hz] at e hs
              exact ⟨(ar, cs.length, cr), e, rfl, hs.weak, fun h => absurd h0 h⟩
            · obtain ⟨g, cg, e, _, hc, hr⟩ := RowC.of_own HRW.out h0
              exact ⟨(some ⟨g, 0, none⟩, cs.length, cg), e, rfl, ⟨hc, fun e => by cases e⟩, fun _ => ⟨g, rfl, hr⟩⟩
          obtain ⟨x, rfl, hx1, hx2, hx3⟩ := hx
          have HXX := Lib.hid (And.intro hx1 (And.intro hx2 hx3))
          clear hx1 hx2 hx3
          go_wp2_with (at_builtin; refine appE eltHd rfl (.tmp 48) (.tmp 50) rfl w.heap.size _ ((List.range m).map H) rfl (HI.out.ow.below (HBr.out.alloc HBr.out.size _)) _ _ _ [x] rfl rfl (fun e => by cases e) (eltHd.new _ _ _ _ rfl) (by simp; omega) (by have := HBr.out.size; have := HB.out.size; simp; omega) ?_; intro v3 w7 ho3 hg3; have HI7 := Lib.hid (HI.out.next HBr.out HXX.out ho3 hg3); have HB7 := Lib.hid (below_grown ((HB.out.trans (HBr.out.mono HB.out.size)).alloc (by have := HBr.out.size; have := HB.out.size; omega) _) (HI.out.ow.below (HBr.out.alloc HBr.out.size _)) (by have := HBr.out.size; have := HB.out.size; simp; omega) hg3); clear ho3 hg3)
          go_roundw
          case rel => exact ⟨m + 1, _, by omega, by go_num, HI7.out, HB7.out⟩
          case measure => simp [intOf]; omega
    · have hme : m = ds.length := by omega
      subst hme
      obtain ⟨a7, c7, rfl, hs7, hm7⟩ := HI.out.mat
      rw [← costM_tab] at hm7
      have HS7 := Lib.hid hs7; have HM7 := Lib.hid hm7
      clear hs7 hm7
      go_wp2
      go_ret2
      exact ⟨a7, c7, HB.out, .inl ⟨by rw [HV.out, HR.out]; rfl, rfl, HS7.out, HM7.out⟩⟩
/-- Few, over holdings. -/
def fewH (ds : List De) (cs : List Co) : Bool := (ds.take 210).all (fun d => decide (d.eds.length ≤ 20)) && decide (ds.length ≤ 210) && decide (cs.length ≤ 210)
set_option maxRecDepth 100000 in
set_option maxHeartbeats 2000000 in
theorem RFewH_any (a a2 : Option Addr) (cap cap2 : Nat) (ds : List De) (cs : List Co) (w : World) (hl : ds.length ≤ 9223372036854775807) (hl2 : cs.length ≤ 9223372036854775807) (hm : DeAt w a ds) (hb : ∀ d ∈ ds, d.eds.length ≤ 9223372036854775807) :
    Calls Tryz.prog 25 #[.slice a ds.length cap, .slice a2 cs.length cap2] w fun e w' => e = .returned (.bool (fewH ds cs)) ∧ w = w' := by
  have HM := Lib.hid hm; have HE := Lib.hid hb; clear hm hb
  go_enter Tryz.func25, Tryz.ntmps25
  go_wp2
  go_loop [5] (fun i => ∃ k : Nat, k ≤ ds.length ∧ k ≤ 210 ∧ i = .int .i64 k ∧ (∀ j (hj : j < ds.length), j < k → ds[j].eds.length ≤ 20)) (fun i => 210 - (intOf i).toNat)
  case atStart => exact ⟨0, Nat.zero_le _, by omega, rfl, fun j hj hk => by omega⟩
  case round =>
    obtain ⟨k, hk, hk2, rfl, hall⟩ := hrel
    have HA := Lib.hid hall; clear hall
    by_cases hlt : k < ds.length
    · by_cases h210 : k < 210
      · obtain ⟨b, off, rfl, _, _, _, c3⟩ := HM.out.get k hlt
        have hed := HE.out ds[k] (List.getElem_mem _)
        have HN := Lib.hid (fun (h : ds[k].eds.length ≤ 20) j (hj : j < ds.length) (hjk : j < k + 1) => (show ds[j].eds.length ≤ 20 from if e : j = k then by subst e; exact h else HA.out j hj (by omega)))
        have HBad := Lib.hid (fun (h : ¬ ds[k].eds.length ≤ 20) => (show fewH ds cs = false by
          have : ((ds.take 210).all fun d => decide (d.eds.length ≤ 20)) = false := not_all (k := k) (by rw [List.length_take]; omega) (by rw [List.getElem_take]; simpa using h)
          simp [fewH, this]))
        generalize ds[k] = d at *
        by_cases h20 : d.eds.length ≤ 20
        · have HN2 := Lib.hid (HN.out h20)
          go_wp2
          go_round
          case rel => exact ⟨k + 1, by omega, by omega, by go_num, HN2.out⟩
          case measure => simp [intOf]; omega
        · have HB2 := Lib.hid (HBad.out h20)
          go_wp2
          go_ret
          exact ⟨by rw [HB2.out]; rfl, rfl⟩
      · have HR := Lib.hid (show fewH ds cs = (decide (ds.length ≤ 210) && decide (cs.length ≤ 210)) by
          have : ((ds.take 210).all fun d => decide (d.eds.length ≤ 20)) = true := all_of fun j hj => by
            rw [List.length_take] at hj
            rw [List.getElem_take]
            exact decide_eq_true (HA.out j (by omega) (by omega))
          simp [fewH, this])
        have h1 : ¬ ds.length ≤ 210 := by omega
        go_wp2
        go_ret
        exact ⟨by rw [HR.out]; simp [h1], rfl⟩
    · have HR := Lib.hid (show fewH ds cs = (decide (ds.length ≤ 210) && decide (cs.length ≤ 210)) by
          have : ((ds.take 210).all fun d => decide (d.eds.length ≤ 20)) = true := all_of fun j hj => by
            rw [List.length_take] at hj
            rw [List.getElem_take]
            exact decide_eq_true (HA.out j (by omega) (by omega))
          simp [fewH, this])
      have h1 : ds.length ≤ 210 := by omega
      go_wp2
      go_ret
      exact ⟨by rw [HR.out]; simp [h1]; omega, rfl⟩
end Go.Proofs.YtehdhbnbajfanaaGreat
