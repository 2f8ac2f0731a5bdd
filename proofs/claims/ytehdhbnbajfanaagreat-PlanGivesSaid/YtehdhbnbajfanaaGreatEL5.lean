import Derived.Test.YtehdhbnbajfanaaGreatEL4

/- The law PlanGives, walked; plan.Refuses by its contract. -/
namespace Go.Proofs.YtehdhbnbajfanaaGreat
set_option linter.unusedSimpArgs false
set_option linter.unusedVariables false
open Go.RowKit Go.Sort Go.Shelf

/-- The IDs of the copies of a plan. -/
def givenL (cs : List Co) (l : List Nat) (n : Nat) : List Int := (List.range n).map fun i => (cs.getD (l.getD i 0) default).id
theorem givenL_len (cs : List Co) (l : List Nat) (n : Nat) : (givenL cs l n).length = n := by simp [givenL]
theorem givenL_get {cs : List Co} {l : List Nat} {n i : Nat} (h : i < (givenL cs l n).length) (hl : i < l.length) (hm : l[i] < cs.length) : (givenL cs l n)[i] = cs[l[i]].id := by
  simp only [givenL, List.getElem_map, List.getElem_range]
  simp [List.getD, hl, hm]
theorem givenL_nodup {ds : List De} {cs : List Co} {hall : Int} {l : List Nat} (hn : (cs.map Co.id).Nodup) (h : BTo (costM ds cs hall) l) : (givenL cs l ds.length).Nodup := by
  obtain ⟨h1, h2⟩ := h.mt
  rw [costM_len] at h1
  obtain ⟨t, h⟩ := h
  obtain ⟨u, v, _, b, _⟩ := best_has h rfl
  rw [List.Nodup, List.pairwise_iff_getElem]
  intro i j hi hj hij e
  rw [givenL_len] at hi hj
  have hli := h2 i (by omega); have hlj := h2 j (by omega)
  rw [costM_wide (by omega)] at hli hlj
  rw [givenL_get _ (by omega) hli, givenL_get _ (by omega) hlj] at e
  have := nodup_idx hn (i := l[i]) (j := l[j]) (by simpa using hli) (by simpa using hlj) (by simpa using e)
  have hb := b.tight.mt.inj i j (by rw [costM_len]; exact hi) (by rw [costM_len]; exact hj) (by simpa [List.getD, show i < l.length by omega, show j < l.length by omega] using this)
  omega
theorem not_yet {l : List Int} (h : l.Nodup) {k : Nat} (hk : k < l.length) : (l.take k).contains l[k] = false := by
  cases q : (l.take k).contains l[k]
  · rfl
  · have := List.contains_iff_mem.1 q
    obtain ⟨j, hj, e⟩ := List.mem_iff_getElem.1 this
    rw [List.length_take] at hj
    rw [List.getElem_take] at e
    have := nodup_idx h (i := j) (j := k) (by omega) hk e
    omega
/-- The place of the copy m, looked for among the first j. -/
def pk (m j : Nat) : Int := if m < j then m else -1
theorem pk_zero (m : Nat) : pk m 0 = -1 := by simp [pk]
theorem pk_ne {m j : Nat} (h : j ≠ m) : pk m (j + 1) = pk m j := by
  unfold pk
  by_cases e : m < j
  · rw [if_pos e, if_pos (by omega)]
  · rw [if_neg e, if_neg (by omega)]
theorem pk_eq {m j : Nat} (h : j = m) : pk m (j + 1) = j := by
  subst h; unfold pk; rw [if_pos (by omega)]
theorem pk_end {m n : Nat} (h : m < n) : pk m n = m := if_pos h
/-- Two steps that lay memory. -/
theorem below_two {w w1 w2 : World} {n : Nat} (hn : n ≤ w1.heap.size) (h : RowKit.Below n w w1) (h2 : RowKit.Below w1.heap.size w1 w2) : RowKit.Below n w w2 := h.trans (h2.mono hn)
/-- What stays as it is while the law goes through the plan. -/
structure GiveSt (w wr : World) (a5 a1 : Option Addr) (gl : List Gv) (M : List (List Int)) : Prop where
  g : GvAt wr a5 gl
  m : MatAt wr a1 M
  b : RowKit.Below w.heap.size w wr
theorem GiveSt.below {w wr W : World} {a5 a1 : Option Addr} {gl : List Gv} {M : List (List Int)} (h : GiveSt w wr a5 a1 gl M) (hb : RowKit.Below wr.heap.size wr W) : GiveSt w W a5 a1 gl M := ⟨h.g.below hb, h.m.below hb, h.b.trans (hb.mono h.b.size)⟩
theorem GiveSt.put {w wr W : World} {a5 a1 : Option Addr} {gl : List Gv} {M : List (List Int)} {r : Nat} {m : List (Int × Value)} (h : GiveSt w wr a5 a1 gl M) (hm : MapAt wr encJ r m) (hr : w.heap.size ≤ r) (hg : wr.grownBy W (some r)) : GiveSt w W a5 a1 gl M :=
  ⟨h.g.keptRow hg hm.notCells, h.m.keptRow hg hm.notCells, KeepB.below ((KeepB.of_below' (S := []) h.b).grown hg h.b.size (fun k e => by cases e; exact hr))⟩
set_option maxRecDepth 100000 in
set_option maxHeartbeats 8000000 in
theorem gives_law (HQ : RefusesC) (a a2 : Option Addr) (cap cap2 : Nat) (ds : List De) (cs : List Co) (hall : Int) (w : World) (hl : ds.length ≤ 9223372036854775807) (hl2 : cs.length ≤ 9223372036854775807) (he : ∀ d ∈ ds, d.eds.length ≤ 9223372036854775807)
    (hm : DeAt w a ds) (hc : CoAt w a2 cs) :
    Calls Tryz.prog 4 #[.slice a ds.length cap, .slice a2 cs.length cap2, .int .i64 hall] w fun e w' => e = .returned (.bool true) ∧ RowKit.Below w.heap.size w w' := by
  have hmm := @run_makeMap Tryz.prog
  have HM := Lib.hid hm; have HC := Lib.hid hc; have HE := Lib.hid he
  clear hm hc he
  go_enter Tryz.func4, Tryz.ntmps4
  go_wp2_with (fail); refine (phead_any HQ w).mono ?_; rintro e w1 ⟨rfl, hb⟩; have HB := Lib.hid hb; clear hb
  go_wp2_with (fail); refine (usable_any _ _ _ _ ds cs hall _ hl hl2 HE.out (HM.out.below HB.out) (HC.out.below HB.out)).mono ?_; rintro e w2 ⟨rfl, hb⟩; replace HB := Lib.hid (HB.out.trans (hb.mono HB.out.size)); clear hb
  cases hf : usableB ds cs hall
  · go_wp2; go_ret; exact ⟨rfl, HB.out⟩
  obtain ⟨f7, f8, f20, hv, hvv⟩ := usable_iff hf
  have HE20 := Lib.hid f20; have HV := Lib.hid hv; have HVV := Lib.hid hvv
  clear hf f20 hv hvv
  go_wp2_with (fail)
  refine (Plan_any _ _ _ _ ds cs hall _ (by omega) (by omega) HE20.out (HM.out.below HB.out) (HC.out.below HB.out)).mono ?_
  intro e w3 hp
  obtain ⟨a5, a6, c5, c6, gl, rl, ok, err, rfl, hsay, _, hg5, _, _, hb⟩ := hp.res
  obtain ⟨rfl, hsaid⟩ := says_said hsay HVV.out
  have HG := Lib.hid hg5
  replace HB := Lib.hid (HB.out.trans (hb.mono HB.out.size)); clear hb
  clear hp hsay hg5
  go_wp2_with (fail)
  refine (Costs_any _ _ _ _ ds cs hall _ (by omega) (by omega) HE20.out (HM.out.below HB.out) (HC.out.below HB.out)).mono ?_
  rintro e w4 ⟨a1, c1, hb, ⟨_, rfl, _, hm1⟩ | ⟨hv2, _⟩⟩
  case inr => exact absurd hv2 (by rw [HVV.out]; simp)
  have HM1 := Lib.hid hm1
  replace HG := Lib.hid (HG.out.below hb)
  replace HB := Lib.hid (HB.out.trans (hb.mono HB.out.size)); clear hb
  clear hm1
  have HCL := Lib.hid (costM_len ds cs hall)
  have HED := Lib.hid (valid_eds HV.out)
  have HCN := Lib.hid (show (cs.map Co.id).Nodup by have h := HV.out; simp only [validB, Bool.and_eq_true] at h; simpa [nodupB] using h.2)
  rcases hsaid with ⟨hno, rfl, rfl, rfl⟩ | ⟨_, rfl, rfl, l, rfl, hbt⟩
  · have hpos := answer_pos hno
    have hle := answer_le (ds := ds) (cs := cs)
    have hcb : decide (((answerL cs ds).length : Int) > 0) = true := by simp; omega
    have HNO := Lib.hid hno
    clear hno
    go_wp2; go_ret; exact ⟨rfl, HB.out⟩
  have HND := Lib.hid (givenL_nodup HCN.out hbt)
  have HBT := Lib.hid hbt
  have HPL := Lib.hid (planL_len ds cs hall l)
  obtain ⟨hl1, hl2'⟩ := hbt.mt
  rw [costM_len] at hl1
  have HLT := Lib.hid (fun i (hi : i < l.length) => show l[i] < cs.length by have := hl2' i hi; rw [costM_wide (by omega)] at this; exact this)
  have HLN := Lib.hid hl1
  clear hbt hl2' hl1
  generalize hGL : planL ds cs hall l = GL at *
  have hglen : GL.length = ds.length := HPL.out
  have HGL := Lib.hid hGL; clear hGL
  go_wp2
  have hb0 := (RowKit.Below.refl w4.heap.size w4).alloc (Nat.le_refl _) (.map #[] 0)
  have hu0 : SeenAt (w4.alloc (.map #[] 0)) w4.heap.size (givenL cs l ds.length) 0 := ⟨[], MapAt.new w4 encJ, fun x => by simp [mget_nil]⟩
  have HST := Lib.hid (GiveSt.below (⟨HG.out, HM1.out, HB.out⟩ : GiveSt w w4 a5 a1 GL (costM ds cs hall)) hb0)
  have HU := Lib.hid hu0
  have HRW := Lib.hid HB.out.size
  clear hb0 hu0 HB HM1 HG
  generalize w4.alloc (.map #[] 0) = w5 at *
  generalize w4.heap.size = r at *
  clear w4
  go_loopw [84] (fun i wr => ∃ k : Nat, k ≤ ds.length ∧ i = .int .i64 k ∧ SeenAt wr r (givenL cs l ds.length) k ∧ GiveSt w wr a5 a1 GL (costM ds cs hall)) (fun i _ => ds.length - (intOf i).toNat)
  case atStart => exact ⟨0, Nat.zero_le _, rfl, HU.out, HST.out⟩
  case round =>
    clear HU HST
    obtain ⟨k, hk, rfl, hu, hst⟩ := hrel
    obtain ⟨wo, rfl⟩ : ∃ wo, wo = wr := ⟨_, rfl⟩
    have HU := Lib.hid hu; have HST := Lib.hid hst
    clear hu hst
    by_cases hlt : k < ds.length
    · obtain ⟨b, off, rfl, d0, d1, d2⟩ := HST.out.g.get k (by omega)
      have HB := Lib.hid HST.out.b
      have hkl : k < l.length := by rw [HLN.out]; exact hlt
      have hmc := HLT.out k hkl
      have hgk : GL[k] = (ds[k].id, cs[l[k]].id, costI ds[k] cs[l[k]] hall) := by
        have h := HGL.out; subst h
        simp only [planL, List.getElem_map, List.getElem_range]
        exact planF_at hlt hkl hmc
      rw [hgk] at d0 d1 d2
      have HKey := Lib.hid (givenL_get (cs := cs) (l := l) (n := ds.length) (i := k) (by rw [givenL_len]; exact hlt) hkl hmc)
      have HNY := Lib.hid (not_yet HND.out (k := k) (by rw [givenL_len]; exact hlt))
      rw [HKey.out] at HNY
      obtain ⟨mm, hmap, hspec⟩ := HU.out
      have HMap := Lib.hid hmap; have HSpec := Lib.hid (seen_put hspec (k := k) (by rw [givenL_len]; exact hlt))
      rw [HKey.out] at HSpec
      have HMine := Lib.hid (fun j (hj : j < cs.length) => show (cs[j].id = cs[l[k]].id ↔ j = l[k]) from ⟨fun e => nodup_idx HCN.out (i := j) (j := l[k]) (by simpa using hj) (by simpa using hmc) (by simpa using e), fun e => by subst e; rfl⟩)
      have hX0 : 0 ≤ costI ds[k] cs[l[k]] hall := by
        have := plan_bounds HED.out HBT.out (GL[k]) (by rw [HGL.out]; exact List.getElem_mem _)
        rw [hgk] at this; exact this.1
      obtain ⟨hpart, hed⟩ := (costI_may _ _ _).1 hX0
      have hidx := idxL_mem.2 hed
      have HLook := Lib.hid (fun (W : World) (hb : RowKit.Below wo.heap.size wo W) => (HU.out.below hb).look cs[l[k]].id)
      rw [HNY.out] at HLook
      clear hmap hspec hgk hed
      have hml : l[k] < cs.length := hmc
      generalize hmm' : l[k] = m at *
      have HMK := Lib.hid hmm'; clear hmm'
      obtain ⟨bc, oc, rfl, q0, q1, q2, q3⟩ := HC.out.get m hml
      obtain ⟨bd, od, rfl, r0, r1, r2, r3⟩ := HM.out.get k hlt
      have HDK := Lib.hid (HM.out.ok ds[k] (List.getElem_mem _))
      have hedl := HE20.out ds[k] (List.getElem_mem _)
      obtain ⟨b2, o2, a4, c4, rfl, e0, _, e2⟩ := HST.out.m.get k (by rw [HCL.out]; exact hlt)
      have hrow : (costM ds cs hall)[k]'(by rw [HCL.out]; exact hlt) = cs.map fun c => costI ds[k] c hall := by simp [costM]
      rw [hrow] at e0 e2
      obtain ⟨b3, o3, rfl, e3⟩ := e2.get m (by simpa using hml)
      simp only [List.getElem_map, List.length_map] at e0 e3
      have HQ0 := Lib.hid q0; have HQ1 := Lib.hid q1; have HQ2 := Lib.hid q2; have HR0 := Lib.hid r0; have HR1 := Lib.hid r1; have HR3 := Lib.hid r3; have HE0 := Lib.hid e0; have HE3 := Lib.hid e3
      clear q0 q1 q2 q3 r0 r1 r2 r3 e0 e3 e2 hrow
      generalize ds[k] = D at *
      generalize hcm : cs[m] = C at *
      have HCM := Lib.hid hcm; clear hcm
      generalize costI D C hall = X at *
      generalize hIX : idxL D.eds C.ed = IX at *
      have HIX := Lib.hid hIX; clear hIX
      have hbx := below_box (w := wo) (.cells #[.int .i64 D.id, .int .i64 C.id, .int .i64 X] 42)
      have hxx : (wo.alloc (.cells #[.int .i64 D.id, .int .i64 C.id, .int .i64 X] 42)).heap[wo.heap.size]? = some (.cells #[.int .i64 D.id, .int .i64 C.id, .int .i64 X] 42) := heap_alloc_new _ _
      have HBX := Lib.hid hbx; have HXX := Lib.hid hxx
      clear hbx hxx
      have HM0 := Lib.hid (show ¬ m < 0 by omega)
      go_wp2
      generalize (wo.alloc (.cells #[.int .i64 D.id, .int .i64 C.id, .int .i64 X] 42)) = wx at *
      generalize hbs : wo.heap.size = bx at *
      have HBS := Lib.hid hbs; clear hbs
      go_loopw [17, 91] (fun kk n W => ∃ j : Nat, j ≤ cs.length ∧ n = .int .i64 j ∧ kk = .int .i64 (pk m j) ∧ RowKit.Below wx.heap.size wx W) (fun _ i _ => cs.length - (intOf i).toNat)
      case atStart => exact ⟨0, Nat.zero_le _, rfl, by rw [pk_zero], RowKit.Below.refl _ _⟩
      case round =>
        obtain ⟨j, hj, rfl, rfl, hbw⟩ := hrel
        have HBW := Lib.hid hbw; clear hbw
        by_cases hjl : j < cs.length
        · obtain ⟨b7, o7, e7, q0, q1, q2, q3⟩ := HC.out.get j hjl
          cases e7
          have HMJ := Lib.hid (HMine.out j hjl)
          have B1 := HBX.out.trans (HBW.out.mono (Nat.le_of_lt (lt_blk HXX.out)))
          have BW := HB.out.trans (B1.mono (by rw [← HBS.out]; exact HB.out.size))
          have g0 := cell_regrown (keepE q0 BW); have g1 := cell_regrown (show wr.cell? ⟨bx, 1, none⟩ = some _ from box_cells (blk_keep HXX.out HBW.out) 1)
          clear B1 BW q0 q1 q2 q3
          generalize cs[j].id = Y at *
          cases hq : (Y == C.id)
          · have HNE := Lib.hid (show j ≠ m from fun e => by have := HMJ.out.2 e; simp [this] at hq)
            go_wp2
            refine wp_quietB (by kernel_rfl) (by kernel_rfl) ?_; (repeat (go_big_quiet_step (fail))); refine wpQuiet_nil ?_; intro wq hq2
            replace HBW := Lib.hid (HBW.out.trans (hq2.mono HBW.out.size)); clear hq2 g0 g1
            go_wp2
            go_roundw
            case rel => exact ⟨j + 1, by omega, by go_num, by rw [pk_ne HNE.out], HBW.out⟩
            case measure => simp [intOf]; omega
          · have HEQ := Lib.hid (show j = m from HMJ.out.1 (by simpa using hq))
            go_wp2
            refine wp_quietB (by kernel_rfl) (by kernel_rfl) ?_; (repeat (go_big_quiet_step (fail))); refine wpQuiet_nil ?_; intro wq hq2
            replace HBW := Lib.hid (HBW.out.trans (hq2.mono HBW.out.size)); clear hq2 g0 g1
            go_wp2
            go_roundw
            case rel => exact ⟨j + 1, by omega, by go_num, by rw [pk_eq HEQ.out], HBW.out⟩
            case measure => simp [intOf]; omega
        · have hje : j = cs.length := by omega
          subst hje
          rw [pk_end hml]
          have B1 := HBX.out.trans (HBW.out.mono (Nat.le_of_lt (lt_blk HXX.out)))
          have BW := HB.out.trans (B1.mono (by rw [← HBS.out]; exact HB.out.size))
          have HBB := Lib.hid BW
          have hx := box_cells (blk_keep HXX.out HBW.out)
          have g0 := cell_regrown (show wr.cell? ⟨bx, 0, none⟩ = some _ from hx 0); have g1 := cell_regrown (show wr.cell? ⟨bx, 1, none⟩ = some _ from hx 1); have g2 := cell_regrown (show wr.cell? ⟨bx, 2, none⟩ = some _ from hx 2)
          have g3 := cell_regrown (keepE HR0.out BW); have g4 := cell_regrown (keepE HR1.out BW); have g5 := cell_regrown (keepE HR3.out BW); have g6 := cell_regrown (keepE HQ1.out BW); have g7 := cell_regrown (keepE HQ2.out BW)
          have g8 := cell_regrown (keepE HE0.out (B1.mono (Nat.le_of_eq HBS.out))); have g9 := cell_regrown (keepE HE3.out (B1.mono (Nat.le_of_eq HBS.out)))
          have hlook := fun d os => HLook.out (grow (redrawn wr d) os) (B1.trans ((below_regrown _ _ _).mono (by have := lt_blk HXX.out; have := HBW.out.size; omega)))
          have hin : decide (IX < 0) = false := by simp; omega
          have hmf : decide ((m : Int) < 0) = false := by simp
          have hxf : decide (X < 0) = false := by simpa using hX0
          have hpf : (C.part != D.part) = false := by simp [hpart]
          clear hpart hidx hX0
          have hB1 := Lib.hid B1
          clear B1 BW hx
          go_wp2
          refine wp_quietB (by kernel_rfl) (by kernel_rfl) ?_
          (repeat (go_big_quiet_step (first | (go_at_call 20; exact Calls.regrown (RIndex_lit HIX.out _ hedl (HDK.out.ints.below (HBB.out.trans ((below_regrown _ _ _).mono HBB.out.size))))))))
          refine wpQuiet_nil ?_
          intro wq hq2
          have HQ5 := Lib.hid (hB1.out.trans (hq2.mono (by have := lt_blk HXX.out; have := HBW.out.size; omega)))
          have c1 := show wq.cell? ⟨bx, 1, none⟩ = some _ from box_cells (blk_keep (blk_keep HXX.out HBW.out) hq2) 1
          clear g0 g1 g2 g3 g4 g5 g6 g7 g8 g9 hlook hq2 hin hmf hxf hpf
          go_wp2_with (refine wpList_mapUpdate_at rfl (.tmp 166) (.tmp 168) _ 40 (.inl rfl) Tryz.underlying40 keyJ r mm rfl (HMap.out.below (HQ5.out.mono (Nat.le_of_eq HBS.out))) C.id rfl (.bool true) rfl ?_; go_must (intro w6 hm6 hg6; have HM6 := Lib.hid hm6; have HS6 := Lib.hid ((HST.out.below (HQ5.out.mono (Nat.le_of_eq HBS.out))).put (HMap.out.below (HQ5.out.mono (Nat.le_of_eq HBS.out))) HRW.out hg6); clear hm6 hg6 c1))
          go_roundw
          case rel => exact ⟨k + 1, by omega, by go_num, ⟨_, HM6.out, HSpec.out⟩, HS6.out⟩
          case measure => simp [intOf]; omega
    · have hke : k = ds.length := by omega
      have HBE := Lib.hid HST.out.b
      have HKE := Lib.hid hke
      clear hke
      go_wp2
      go_ret
      exact ⟨rfl, HBE.out⟩
end Go.Proofs.YtehdhbnbajfanaaGreat
