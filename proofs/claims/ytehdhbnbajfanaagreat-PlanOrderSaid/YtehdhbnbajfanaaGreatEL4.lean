import Derived.Test.YtehdhbnbajfanaaGreatGO
import Derived.Test.YtehdhbnbajfanaaGreatGQ

/- The law PlanLeast, walked; plan.Refuses by its contract. -/
namespace Go.Proofs.YtehdhbnbajfanaaGreat
set_option linter.unusedSimpArgs false
set_option linter.unusedVariables false
open Go.RowKit Go.Sort Go.Shelf

theorem cell_keptRow {A B : World} {row : Option Nat} {p : Addr} {v : Value} (h : A.cell? p = some v) (hp : p.spot = none) (hg : A.grownBy B row) (hr : ∀ r, row = some r → ∃ o : Obj, A.heap[r]? = some o ∧ o.isCells = false) : B.cell? p = some v := by
  obtain ⟨b, o, sp⟩ := p
  cases hp
  have := SlAt.keptRow (A := A) (B := B) (a := some ⟨b, o, none⟩) (sz := 1) (rows := [[v]]) (fun i r hi => by
    cases i with
    | zero =>
      cases hi
      exact ⟨b, o, rfl, World.block_lt_of_cell? _ _ h, rfl, fun j u hu => by
        cases j with
        | zero => cases hu; simpa using h
        | succ j => simp at hu⟩
    | succ i => simp at hi) hg hr
  obtain ⟨b', o', e, _, _, hc⟩ := this 0 [v] rfl
  cases e
  simpa using hc 0 v rfl
theorem MatAt.keptRow {A B : World} {row : Option Nat} {a : Option Addr} {c : List (List Int)} (h : MatAt A a c) (hg : A.grownBy B row) (hr : ∀ r, row = some r → ∃ o : Obj, A.heap[r]? = some o ∧ o.isCells = false) : MatAt B a c := by
  obtain ⟨vs, h1, h2, h3⟩ := h.at_
  refine ⟨vs, h1.keptRow hg hr, h2, fun i hi => ?_⟩
  obtain ⟨ai, cap, g1, g2, g3⟩ := h3 i hi
  exact ⟨ai, cap, g1, g2, g3.keptRow hg hr⟩
theorem MapAt.notCells {W : World} {r : Nat} {m : List (Int × Value)} (h : MapAt W encJ r m) : ∀ r', some r = some r' → ∃ o : Obj, W.heap[r']? = some o ∧ o.isCells = false := fun r' e => by
  cases e
  obtain ⟨⟨es, clock, h1, _⟩, _⟩ := h
  exact ⟨_, h1, rfl⟩
/-- The other way: the copy that a byte picks. -/
def pickK (os : List Nat) (n i : Nat) : Nat := os.getD i 0 % n
def pickL (os : List Nat) (n m : Nat) : List Int := (List.range m).map fun i => (pickK os n i : Int)
theorem pickL_len (os : List Nat) (n m : Nat) : (pickL os n m).length = m := by simp [pickL]
theorem pickL_get (os : List Nat) (n m i : Nat) (h : i < (pickL os n m).length) : (pickL os n m)[i] = (pickK os n i : Int) := by simp [pickL]
theorem pick_mt {ds : List De} {cs : List Co} {hall : Int} {os : List Nat} (h0 : 0 < cs.length) (hn : (pickL os cs.length ds.length).Nodup) (hc : ∀ j, j < ds.length → 0 ≤ cc (costM ds cs hall) j (pickK os cs.length j)) :
    Mt (may (cc (costM ds cs hall))) (fun i => i < ds.length) cs.length (pickK os cs.length) :=
  ⟨fun i _ => Nat.mod_lt _ h0, fun i hi => by rw [may_iff]; exact hc i hi, fun i j hi hj e => nodup_idx hn (i := i) (j := j) (by rw [pickL_len]; exact hi) (by rw [pickL_len]; exact hj) (by rw [pickL_get, pickL_get, e])⟩
theorem mt_met {ds : List De} {cs : List Co} {hall : Int} {f : Nat → Nat} (m : Mt (may (cc (costM ds cs hall))) (fun i => i < ds.length) cs.length f) : metB cs ds = true := by
  rw [metB_iff, met_hall hall]; exact ⟨f, m⟩
theorem plan_least {ds : List De} {cs : List Co} {hall : Int} {f : Nat → Nat} {l : List Nat} (hn : ds.Nodup) (hc : cs.Nodup) (h : BTo (costM ds cs hall) l) (m : Mt (may (cc (costM ds cs hall))) (fun i => i < ds.length) cs.length f) : totG (planL ds cs hall l) ≤ sumN (fun j => cc (costM ds cs hall) j (f j)) ds.length := by
  obtain ⟨g, hg, e⟩ := way_of hn hc m
  have h1 := (plan_way hn hc h).2 g hg
  rw [e] at h1
  exact h1
theorem plan_bounds {ds : List De} {cs : List Co} {hall : Int} {l : List Nat} (he : ∀ d ∈ ds, d.eds.length ≤ 100) (h : BTo (costM ds cs hall) l) : ∀ g ∈ planL ds cs hall l, 0 ≤ g.2.2 ∧ g.2.2 ≤ 1000000 := fun g hg => by
  obtain ⟨h1, h2⟩ := h.mt
  rw [costM_len] at h1
  obtain ⟨i, hi, rfl⟩ := List.mem_map.1 hg
  have hi : i < ds.length := List.mem_range.1 hi
  have hl := h2 i (by omega)
  rw [costM_wide (by omega)] at hl
  rw [planF_at hi (by omega) hl]
  have hb := costI_bd (c := cs[l[i]]) (hall := hall) (he ds[i] (List.getElem_mem _))
  refine ⟨?_, by show costI ds[i] cs[l[i]] hall ≤ 1000000; omega⟩
  obtain ⟨t, h⟩ := h
  obtain ⟨u, v, _, b, _⟩ := best_has h rfl
  have := (may_iff _ _ _).1 (b.tight.mt.can i (by rw [costM_len]; exact hi))
  have e : l.getD i 0 = l[i] := by simp [List.getD, show i < l.length by omega]
  rw [e, costM_row hi hl] at this
  exact this
theorem valid_eds {ds : List De} {cs : List Co} (h : validB ds cs = true) : ∀ d ∈ ds, d.eds.length ≤ 100 := fun d hd => by have := (vd_of h).eds d hd; omega
set_option maxRecDepth 100000 in
set_option maxHeartbeats 8000000 in
theorem pleast_law (HQ : RefusesC) (a a2 a3 : Option Addr) (cap cap2 cap3 : Nat) (ds : List De) (cs : List Co) (hall : Int) (os : List Nat) (w : World) (hl : ds.length ≤ 9223372036854775807) (hl2 : cs.length ≤ 9223372036854775807) (hl3 : os.length ≤ 9223372036854775807) (he : ∀ d ∈ ds, d.eds.length ≤ 9223372036854775807)
    (hm : DeAt w a ds) (hc : CoAt w a2 cs) (hi : U8At w a3 os) (hos : ∀ n ∈ os, n ≤ 255) :
    Calls Tryz.prog 5 #[.slice a ds.length cap, .slice a2 cs.length cap2, .int .i64 hall, .slice a3 os.length cap3] w fun e w' => e = .returned (.bool true) ∧ RowKit.Below w.heap.size w w' := by
  have hmm := @run_makeMap Tryz.prog
  have HM := Lib.hid hm; have HC := Lib.hid hc; have HE := Lib.hid he; have HI := Lib.hid hi; have HOS := Lib.hid hos
  clear hm hc he hi hos
  go_enter Tryz.func5, Tryz.ntmps5
  go_wp2_with (fail); refine (phead_any HQ w).mono ?_; rintro e w1 ⟨rfl, hb⟩; have HB := Lib.hid hb; clear hb
  go_wp2_with (fail); refine (usable_any _ _ _ _ ds cs hall _ hl hl2 HE.out (HM.out.below HB.out) (HC.out.below HB.out)).mono ?_; rintro e w2 ⟨rfl, hb⟩; replace HB := Lib.hid (HB.out.trans (hb.mono HB.out.size)); clear hb
  cases hf : usableB ds cs hall
  · go_wp2; go_ret; exact ⟨rfl, HB.out⟩
  obtain ⟨f7, f8, f20, hv, hvv⟩ := usable_iff hf
  have HE20 := Lib.hid f20; have HV := Lib.hid hv; have HVV := Lib.hid hvv
  clear hf f20 hv hvv
  by_cases m1 : os.length < ds.length
  · go_wp2; go_ret; exact ⟨rfl, HB.out⟩
  by_cases m2 : cs.length = 0
  · have hb2 : ((cs.length : Int) == 0) = true := by simp [m2]
    have HM2 := Lib.hid m2; clear m2
    go_wp2; go_ret; exact ⟨rfl, HB.out⟩
  have hb2 : ((cs.length : Int) == 0) = false := by simp; intro e; simp [e] at m2
  have hpos : 0 < cs.length := by omega
  clear m2
  go_wp2_with (fail)
  refine (Costs_any _ _ _ _ ds cs hall _ (by omega) (by omega) HE20.out (HM.out.below HB.out) (HC.out.below HB.out)).mono ?_
  rintro e w3 ⟨a1, c1, hb, ⟨_, rfl, _, hm1⟩ | ⟨hv2, _⟩⟩
  case inr => exact absurd hv2 (by rw [HVV.out]; simp)
  have HM1 := Lib.hid hm1
  replace HB := Lib.hid (HB.out.trans (hb.mono HB.out.size)); clear hb
  clear hm1
  have HCL := Lib.hid (costM_len ds cs hall)
  have HN := Lib.hid (valid_nodup HV.out)
  have HED := Lib.hid (valid_eds HV.out)
  go_wp2
  have hb0 := (RowKit.Below.refl w3.heap.size w3).alloc (Nat.le_refl _) (.map #[] 0)
  have hu0 : SeenAt (w3.alloc (.map #[] 0)) w3.heap.size (pickL os cs.length ds.length) 0 := ⟨[], MapAt.new w3 encJ, fun x => by simp [mget_nil]⟩
  replace HM1 := Lib.hid (HM1.out.below hb0)
  have HB1 := Lib.hid (HB.out.trans (hb0.mono HB.out.size)); have HU := Lib.hid hu0
  have HRW := Lib.hid HB.out.size
  clear hb0 hu0 HB
  generalize w3.alloc (.map #[] 0) = w4 at *
  generalize w3.heap.size = r at *
  clear w3
  go_loopw [12, 58] (fun s i wr => ∃ k : Nat, k ≤ ds.length ∧ i = .int .i64 k ∧ s = .int .i64 (sumN (fun j => cc (costM ds cs hall) j (pickK os cs.length j)) k) ∧ SeenAt wr r (pickL os cs.length ds.length) k ∧ ((pickL os cs.length ds.length).take k).Nodup ∧ (∀ j, j < k → 0 ≤ cc (costM ds cs hall) j (pickK os cs.length j)) ∧ 0 ≤ sumN (fun j => cc (costM ds cs hall) j (pickK os cs.length j)) k ∧ sumN (fun j => cc (costM ds cs hall) j (pickK os cs.length j)) k ≤ 1005 * k ∧ MatAt wr a1 (costM ds cs hall) ∧ RowKit.Below w.heap.size w wr) (fun _ i _ => ds.length - (intOf i).toNat)
  case atStart => exact ⟨0, Nat.zero_le _, rfl, rfl, HU.out, by simp, fun j hj => by omega, by simp [sumN], by simp [sumN], HM1.out, HB1.out⟩
  case round =>
    clear HU HM1 HB1
    obtain ⟨k, hk, rfl, rfl, hu, hnd, hcan, hs0, hs1, hm1, hb⟩ := hrel
    have HU := Lib.hid hu; have HND := Lib.hid hnd; have HCAN := Lib.hid hcan; have HM1 := Lib.hid hm1; have HB := Lib.hid hb
    clear hu hnd hcan hm1 hb
    by_cases hlt : k < ds.length
    · obtain ⟨b, off, rfl, d0⟩ := HI.out.get k (by omega)
      have g0 := keepE d0 HB.out
      have hK : pickK os cs.length k < cs.length := Nat.mod_lt _ hpos
      have hrem : ((os[k]'(by omega) : Nat) : Int) % (cs.length : Int) = (pickK os cs.length k : Int) := by
        rw [pickK, show os.getD k 0 = os[k]'(by omega) by simp [List.getD, show k < os.length by omega]]; simp
      obtain ⟨b2, o2, a4, c4, rfl, e0, _, e2⟩ := HM1.out.get k (by rw [HCL.out]; exact hlt)
      have hrow : (costM ds cs hall)[k]'(by rw [HCL.out]; exact hlt) = cs.map fun c => costI ds[k] c hall := by simp [costM]
      rw [hrow] at e0 e2
      obtain ⟨b3, o3, rfl, e3⟩ := e2.get (pickK os cs.length k) (by simpa using hK)
      simp only [List.getElem_map, List.length_map] at e0 e3
      have hcost : cc (costM ds cs hall) k (pickK os cs.length k) = costI ds[k] cs[pickK os cs.length k] hall := costM_row hlt hK
      have hcb := costI_bd (c := cs[pickK os cs.length k]) (hall := hall) (HED.out ds[k] (List.getElem_mem _))
      have HPG := Lib.hid (pickL_get os cs.length ds.length k (by rw [pickL_len]; exact hlt))
      have hlook := HU.out.look (pickK os cs.length k : Int)
      have HD1 := Lib.hid (nodup_take (k := k) (l := pickL os cs.length ds.length) (by rw [pickL_len]; exact hlt) HND.out)
      rw [HPG.out] at HD1
      obtain ⟨mm, hmap, hspec⟩ := HU.out
      have HMap := Lib.hid hmap; have HSpec := Lib.hid (seen_put hspec (k := k) (by rw [pickL_len]; exact hlt))
      rw [HPG.out] at HSpec
      have HSum := Lib.hid (show sumN (fun j => cc (costM ds cs hall) j (pickK os cs.length j)) (k + 1) = sumN (fun j => cc (costM ds cs hall) j (pickK os cs.length j)) k + cc (costM ds cs hall) k (pickK os cs.length k) from rfl)
      have HCost := Lib.hid hcost
      rw [hcost] at HSum
      clear hmap hspec HU hcost hrow e2 d0
      have hO := HOS.out (os[k]'(by omega)) (List.getElem_mem _)
      generalize os[k]'(by omega) = O at *
      generalize hX : costI ds[k] cs[pickK os cs.length k] hall = X at *
      generalize hKK : pickK os cs.length k = K at *
      generalize sumN (fun j => cc (costM ds cs hall) j (pickK os cs.length j)) k = S at *
      generalize hUU : ((pickL os cs.length ds.length).take k).contains (K : Int) = U at *
      have HX := Lib.hid hX; have HKK := Lib.hid hKK; have HUU := Lib.hid hUU
      clear hX hKK hUU
      cases U
      · have HD2 := Lib.hid (HD1.out rfl)
        clear HD1
        by_cases hneg : X < 0
        · go_wp2
          go_ret
          exact ⟨rfl, HB.out⟩
        · go_wp2_with (refine wpList_mapUpdate_at rfl (.tmp 93) (.tmp 94) _ 40 (.inl rfl) Tryz.underlying40 keyJ r mm rfl HMap.out ((O : Int) % (cs.length : Int)) rfl (.bool true) rfl ?_; go_must (intro w5 hm5 hg5; rw [hrem] at hm5; have HM5 := Lib.hid hm5; have HB5 := Lib.hid (KeepB.below ((KeepB.of_below' (S := []) HB.out).grown hg5 HB.out.size (fun k e => by cases e; exact HRW.out))); have HMA := Lib.hid (HM1.out.keptRow hg5 HMap.out.notCells); have j0 := cell_keptRow e0 rfl hg5 HMap.out.notCells; have j1 := cell_keptRow e3 rfl hg5 HMap.out.notCells; clear hm5 hg5 e0 e3 hlook))
          go_roundw
          case rel => exact ⟨k + 1, by omega, by go_num, by rw [HSum.out], ⟨_, HM5.out, HSpec.out⟩, HD2.out, fun j hj => by
            by_cases e : j = k
            · subst e; rw [HKK.out, HCost.out]; omega
            · exact HCAN.out j (by omega), by rw [HSum.out]; omega, by rw [HSum.out]; omega, HMA.out, HB5.out⟩
          case measure => simp [intOf]; omega
      · go_wp2
        go_ret
        exact ⟨rfl, HB.out⟩
    · have hke : k = ds.length := by omega
      subst hke
      have HMT := Lib.hid (pick_mt (hall := hall) hpos (by have := HND.out; rwa [List.take_of_length_le (by rw [pickL_len]; exact Nat.le_refl _)] at this) HCAN.out)
      have HSUM := Lib.hid (fun l (h : BTo (costM ds cs hall) l) => plan_least HN.out.1 HN.out.2 h HMT.out)
      generalize sumN (fun j => cc (costM ds cs hall) j (pickK os cs.length j)) ds.length = S at *
      go_wp2_with (fail)
      refine (Plan_any _ _ _ _ ds cs hall _ (by omega) (by omega) HE20.out (HM.out.below HB.out) (HC.out.below HB.out)).mono ?_
      intro e w5 hp
      obtain ⟨a5, a6, c5, c6, gl, rl, ok, err, rfl, hsay, hs5, hg5, _, _, hb⟩ := hp.res
      obtain ⟨rfl, hsaid⟩ := says_said hsay HVV.out
      have HG := Lib.hid hg5
      replace HB := Lib.hid (HB.out.trans (hb.mono HB.out.size)); clear hb
      clear hp hsay hs5 hg5
      rcases hsaid with ⟨hno, _⟩ | ⟨_, rfl, rfl, l, rfl, hl3⟩
      case inl => exact absurd hno (by rw [mt_met HMT.out]; simp)
      have HPB := Lib.hid (plan_bounds HED.out hl3)
      have hle := HSUM.out l hl3
      clear hl3
      go_wp2_with (fail)
      refine (total_any _ _ _ (planL ds cs hall l) _ rfl (by rw [planL_len]; omega) HPB.out HG.out).mono ?_
      rintro e w6 ⟨rfl, hb⟩
      replace HB := Lib.hid (HB.out.trans (hb.mono HB.out.size)); clear hb
      generalize totG (planL ds cs hall l) = TT at *
      go_wp2; go_ret; exact ⟨rfl, HB.out⟩
end Go.Proofs.YtehdhbnbajfanaaGreat
