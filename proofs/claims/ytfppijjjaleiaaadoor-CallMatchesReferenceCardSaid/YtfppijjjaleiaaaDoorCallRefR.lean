
/- The reference's read. -/
import Derived.Test.YtfppijjjaleiaaaDoorCallRefN
import Derived.Test.YtfppijjjaleiaaaDoorCallRd
import Derived.Test.YtfppijjjaleiaaaDoorCallLaw3
namespace Go.Proofs.YtfppijjjaleiaaaDoor
set_option linter.unusedSimpArgs false
set_option linter.unusedVariables false
open Go.RowKit Go.Sort

/-- The result's block, the call's block behind it. -/
structure RrAt (w : World) (c : Cl) (V : World) : Prop where
  res : V.heap[w.heap.size]? = some (.cells #[.string ⟨#[]⟩, .int .i64 0, .int .i64 0, .int .i64 0, .int .i64 0, .int .i64 0] 25 (0, 0))
  box : V.heap[w.heap.size + 1]? = some (.cells #[.string (mkS c.letter), .int .i64 c.number, .int .i64 c.bars, .int .i64 c.n, .int .i64 c.d, .int .i64 c.pass] 25 (0, 0))
  lo : Below w.heap.size w V
theorem RrAt.below {w : World} {c : Cl} {V V' : World} (h : RrAt w c V) (hb : Below V.heap.size V V') : RrAt w c V' := ⟨blk_keep h.res hb, blk_keep h.box hb, h.lo.trans (hb.mono h.lo.size)⟩
theorem RrAt.letter {w : World} {c : Cl} {V : World} (h : RrAt w c V) (x : Bs) : RrAt w { c with letter := x } (V.setCell ⟨w.heap.size + 1, 0, none⟩ (.string (mkS x))) := ⟨(heap_setCell_other _ _ _ _ (show _ ≠ _ by simp <;> omega)).trans h.res, heap_setCell_same _ _ _ _ _ _ h.box, h.lo.setCell (by simp <;> omega) _⟩
theorem RrAt.number {w : World} {c : Cl} {V : World} (h : RrAt w c V) (x : Int) : RrAt w { c with number := x } (V.setCell ⟨w.heap.size + 1, 1, none⟩ (.int .i64 x)) := ⟨(heap_setCell_other _ _ _ _ (show _ ≠ _ by simp <;> omega)).trans h.res, heap_setCell_same _ _ _ _ _ _ h.box, h.lo.setCell (by simp <;> omega) _⟩
theorem RrAt.bars {w : World} {c : Cl} {V : World} (h : RrAt w c V) (x : Int) : RrAt w { c with bars := x } (V.setCell ⟨w.heap.size + 1, 2, none⟩ (.int .i64 x)) := ⟨(heap_setCell_other _ _ _ _ (show _ ≠ _ by simp <;> omega)).trans h.res, heap_setCell_same _ _ _ _ _ _ h.box, h.lo.setCell (by simp <;> omega) _⟩
theorem RrAt.n {w : World} {c : Cl} {V : World} (h : RrAt w c V) (x : Int) : RrAt w { c with n := x } (V.setCell ⟨w.heap.size + 1, 3, none⟩ (.int .i64 x)) := ⟨(heap_setCell_other _ _ _ _ (show _ ≠ _ by simp <;> omega)).trans h.res, heap_setCell_same _ _ _ _ _ _ h.box, h.lo.setCell (by simp <;> omega) _⟩
theorem RrAt.d {w : World} {c : Cl} {V : World} (h : RrAt w c V) (x : Int) : RrAt w { c with d := x } (V.setCell ⟨w.heap.size + 1, 4, none⟩ (.int .i64 x)) := ⟨(heap_setCell_other _ _ _ _ (show _ ≠ _ by simp <;> omega)).trans h.res, heap_setCell_same _ _ _ _ _ _ h.box, h.lo.setCell (by simp <;> omega) _⟩
theorem RrAt.pass {w : World} {c : Cl} {V : World} (h : RrAt w c V) (x : Int) : RrAt w { c with pass := x } (V.setCell ⟨w.heap.size + 1, 5, none⟩ (.int .i64 x)) := ⟨(heap_setCell_other _ _ _ _ (show _ ≠ _ by simp <;> omega)).trans h.res, heap_setCell_same _ _ _ _ _ _ h.box, h.lo.setCell (by simp <;> omega) _⟩
theorem RrAt.start (w : World) : RrAt w ⟨[], 0, 0, 0, 1, 0⟩ ((w.alloc (.cells #[.string ⟨#[]⟩, .int .i64 0, .int .i64 0, .int .i64 0, .int .i64 0, .int .i64 0] 25)).alloc (.cells #[.string ⟨#[]⟩, .int .i64 0, .int .i64 0, .int .i64 0, .int .i64 1, .int .i64 0] 25)) := by
  refine ⟨up_alloc (heap_alloc_new w _) _, ?_, ((Below.refl _ w).alloc (Nat.le_refl _) _).alloc (by simp) _⟩
  have := heap_alloc_new (w.alloc (.cells #[.string ⟨#[]⟩, .int .i64 0, .int .i64 0, .int .i64 0, .int .i64 0, .int .i64 0] 25)) (.cells #[.string ⟨#[]⟩, .int .i64 0, .int .i64 0, .int .i64 0, .int .i64 1, .int .i64 0] 25)
  have e : (w.alloc (.cells #[.string ⟨#[]⟩, .int .i64 0, .int .i64 0, .int .i64 0, .int .i64 0, .int .i64 0] 25)).heap.size = w.heap.size + 1 := by simp
  rw [e] at this
  exact this
theorem at_some {w : World} {p : Option Addr} {ws : List Bs} (h : StrAt w p ws) (k : Nat) (hk : k < ws.length) : ∃ b off, p = some ⟨b, off, none⟩ := by
  obtain ⟨b, off, e, _⟩ := h k [.string (mkS ws[k])] (by simp [List.getElem?_eq_getElem hk])
  exact ⟨b, off, e⟩
theorem bars_cases (ws : List Bs) : (∃ x y z r, ws = x :: y :: z :: r ∧ y = aftW ∧ barsR ws = (numR x, z :: r)) ∨ (∃ x y z r, ws = x :: y :: z :: r ∧ y ≠ aftW ∧ y = befW ∧ barsR ws = (-numR x, z :: r)) ∨ (∃ x y z r, ws = x :: y :: z :: r ∧ y ≠ aftW ∧ y ≠ befW ∧ barsR ws = (0, ws)) ∨ (ws.length ≤ 2 ∧ barsR ws = (0, ws)) := by
  rcases ws with _ | ⟨x, _ | ⟨y, _ | ⟨z, r⟩⟩⟩
  · exact .inr (.inr (.inr ⟨by simp, rfl⟩))
  · exact .inr (.inr (.inr ⟨by simp, rfl⟩))
  · exact .inr (.inr (.inr ⟨by simp, rfl⟩))
  · by_cases h1 : y = aftW
    · exact .inl ⟨x, y, z, r, rfl, h1, by simp [barsR, h1]⟩
    · by_cases h2 : y = befW
      · exact .inr (.inl ⟨x, y, z, r, rfl, h1, h2, by rw [barsR, if_neg h1, if_pos h2]⟩)
      · exact .inr (.inr (.inl ⟨x, y, z, r, rfl, h1, h2, by rw [barsR, if_neg h1, if_neg h2]⟩))
theorem eq_litB {x k : Bs} (h : x = k) : ((mkS x).toList == k) = true := by rw [mk_list, h]; simp
set_option maxRecDepth 100000 in
theorem slice_two (pb off n cap : Nat) (hn : 3 ≤ n) (hc : n ≤ cap) (w : World) : (Instr.slice 35 (.slice (some ⟨pb, off, none⟩) n cap) (some (.int .i64 2)) none none).run Tryd.prog w = .ok (.slice (some ⟨pb, off + 2, none⟩) (n - 2) (cap - 2)) w := by
  rw [run_slice_l w 35 _ _ _ Tryd.underlying35 _ _ (by omega) (by first | omega | (simp; omega) | decide)]
  have : ((sizeOf (Tryd.prog.elem 35)).run Tryd.prog w) = .ok 1 w := by kernel_rfl
  rw [this]
  have h2 : ¬ cap = 2 := by omega
  simp [Result.andThen, sliced, h2, Addr.add]
/-- What the bars leave. -/
def BarsP (w : World) (ws2 : List Bs) (k : Int) (s0 : Value) (V : World) : Prop := ∃ p2 cap2, s0 = .slice p2 ws2.length cap2 ∧ StrAt w p2 ws2 ∧ RrAt w ⟨[], 0, k, 0, 1, 0⟩ V
set_option maxRecDepth 100000 in
set_option maxHeartbeats 8000000 in
theorem Rread_any (ws : List Bs) (p : Option Addr) (cap : Nat) (w : World) (hT : StrAt w p ws) (hcap : ws.length ≤ cap) (hlen : ws.length ≤ 1000) (hsh : ∀ x ∈ ws, x.length ≤ 1000) :
    Calls Tryd.prog 29 #[.slice p ws.length cap] w fun e w' => e = .returned (.agg #[.string (mkS (readR ws).letter), .int .i64 (readR ws).number, .int .i64 (readR ws).bars, .int .i64 (readR ws).n, .int .i64 (readR ws).d, .int .i64 (readR ws).pass]) ∧ Below w.heap.size w w' := by
  have HT := Lib.hid hT; have HSh := Lib.hid hsh
  have HFin := Lib.hid (show readR ws = loopR (placeR ⟨[], 0, (barsR ws).1, 0, 1, 0⟩ (barsR ws).2) ((barsR ws).2.drop 1) from rfl)
  clear hT hsh
  generalize readR ws = RES at *
  have HR := Lib.hid (RrAt.start w)
  go_enter Tryd.func29, Tryd.ntmps29
  go_upto_region 2 with (fail)
  generalize ((w.alloc (.cells #[.string ⟨#[]⟩, .int .i64 0, .int .i64 0, .int .i64 0, .int .i64 0, .int .i64 0] 25)).alloc (.cells #[.string ⟨#[]⟩, .int .i64 0, .int .i64 0, .int .i64 0, .int .i64 1, .int .i64 0] 25)) = W0 at *
  obtain ⟨bk, bws, hbr⟩ : ∃ k l, barsR ws = (k, l) := ⟨_, _, rfl⟩
  have HBr := Lib.hid hbr
  rw [hbr] at HFin
  dsimp only at HFin
  have hlb : bws.length ≤ 1000 ∧ ∀ x ∈ bws, x.length ≤ 1000 := by
    have h := hbr
    unfold barsR at h
    split at h
    · rename_i x y z r
      have hsub : ∀ a ∈ z :: r, a ∈ x :: y :: z :: r := fun a ha => List.mem_cons_of_mem _ (List.mem_cons_of_mem _ ha)
      simp only [List.length_cons] at hlen
      split at h
      · obtain ⟨_, rfl⟩ := Prod.mk.inj h
        exact ⟨by simp; omega, fun a ha => HSh.out a (hsub a ha)⟩
      · split at h
        · obtain ⟨_, rfl⟩ := Prod.mk.inj h
          exact ⟨by simp; omega, fun a ha => HSh.out a (hsub a ha)⟩
        · obtain ⟨_, rfl⟩ := Prod.mk.inj h
          exact ⟨by simp; omega, HSh.out⟩
    · obtain ⟨_, rfl⟩ := Prod.mk.inj h
      exact ⟨hlen, HSh.out⟩
  obtain ⟨hlb1, hlb2⟩ := hlb
  have HLb := Lib.hid hlb2
  clear hbr hlb2
  obtain ⟨TB, hTB⟩ : ∃ TB : Bool, TB = decide (2 < ws.length ∧ (ws[1]? = some aftW ∨ ws[1]? = some befW)) := ⟨_, rfl⟩
  have HTB := Lib.hid hTB
  clear hTB
  go_cut [22] from 8 to 21 (fun s V => s = .bool TB ∧ V = W0)
  case first =>
    by_cases h2 : (2 : Int) < (ws.length : Int)
    · obtain ⟨pb, off, rfl⟩ := at_some HT.out 1 (by omega)
      have hcell := ((HT.out.below HR.out.lo).get 1 (by omega)).2
      have e1 : ws[1]? = some ws[1] := List.getElem?_eq_getElem (by omega)
      rw [e1] at HTB
      generalize ws[1] = y at *
      by_cases hy : y = aftW
      · have hv := eq_litB hy
        have HF := Lib.hid (show TB = true by rw [HTB.out, hy]; simp; omega)
        clear hy
        simp only [aftW] at hv
        go_wp2
        go_meet
        case rel => exact ⟨by rw [HF.out], rfl⟩
      · have hv := ne_lit hy
        simp only [aftW] at hv
        by_cases hy2 : y = befW
        · have hv2 := eq_litB hy2
          have HF := Lib.hid (show TB = true by rw [HTB.out, hy2]; simp; omega)
          clear hy hy2
          simp only [befW] at hv2
          go_wp2
          go_meet
          case rel => exact ⟨by rw [HF.out], rfl⟩
        · have hv2 := ne_lit hy2
          have HF := Lib.hid (show TB = false by rw [HTB.out]; simp [hy, hy2])
          clear hy hy2
          simp only [befW] at hv2
          go_wp2
          go_meet
          case rel => exact ⟨by rw [HF.out], rfl⟩
    · have HF := Lib.hid (show TB = false by rw [HTB.out]; simp; omega)
      go_wp2
      go_meet
      case rel => exact ⟨by rw [HF.out], rfl⟩
  case rest =>
  obtain ⟨rfl, rfl⟩ := hcut
  go_upto_if 22 with (fail)
  go_cut [0] from 8 (fun s0 V => BarsP w bws bk s0 V)
  case first =>
    rcases bars_cases ws with ⟨x, y, z, r, hws, hy, hb⟩ | ⟨x, y, z, r, hws, hy, hy2, hb⟩ | ⟨x, y, z, r, hws, hy, hy2, hb⟩ | ⟨hl, hb⟩
    · have hTBt : TB = true := by rw [HTB.out, hws]; simp [hy]
      rw [HBr.out] at hb
      obtain ⟨rfl, hbw⟩ := Prod.mk.inj hb
      have hln : bws.length = ws.length - 2 := by rw [hbw, hws]; simp
      have hl3 : 3 ≤ ws.length := by rw [hws]; simp
      obtain ⟨pb, off, rfl⟩ := at_some HT.out 1 (by omega)
      have hcell0 := ((HT.out.below HR.out.lo).get 0 (by omega)).2
      have hcell1 := ((HT.out.below HR.out.lo).get 1 (by omega)).2
      rw [Nat.add_zero] at hcell0
      have e0 : ws[0]'(by omega) = x := by simp [hws]
      have e1 : ws[1]'(by omega) = y := by simp [hws]
      rw [e0] at hcell0; rw [e1] at hcell1
      have hsl := slice_two pb off ws.length cap (by omega) (by omega)
      rw [← hln] at hsl
      have HD := Lib.hid (show StrAt w (some ⟨pb, off + 2, none⟩) bws by
        have := SlAt.drop HT.out 2
        have e : ws.drop 2 = bws := by rw [hbw, hws]; rfl
        simpa [StrAt, ← List.map_drop, e] using this)
      have hv : ((mkS y).toList == befW) = false := ne_lit (by rw [hy]; decide)
      simp only [befW] at hv
      have HC1 := Lib.hid ((HT.out.get 1 (by omega)).2)
      have hpl := (HT.out.get 1 (by omega)).1
      rw [e1] at HC1
      clear e0 e1 hws hy hbw hb
      have hf := box_free HR.out.box; have hc := box_cells HR.out.box
      subst hTBt
      go_upto_region 4 with ((go_at_call 46; refine (Rnum_any _ _).mono ?_; rintro e w' ⟨rfl, rfl⟩))
      replace HR := Lib.hid (HR.out.bars (numR x))
      clear hc hf hcell0 hcell1
      generalize (World.setCell _ ⟨w.heap.size + 1, 2, none⟩ (.int .i64 (numR x))) = W1 at *
      have hcell1 := (HR.out.lo.cell (p := ⟨pb, off + 1, none⟩) hpl).trans HC1.out
      go_wp2
      go_meet
      case rel => exact ⟨_, _, by rw [hln], HD.out, HR.out⟩
    · have hTBt : TB = true := by rw [HTB.out, hws]; simp [hy2]
      rw [HBr.out] at hb
      obtain ⟨rfl, hbw⟩ := Prod.mk.inj hb
      have hln : bws.length = ws.length - 2 := by rw [hbw, hws]; simp
      have hl3 : 3 ≤ ws.length := by rw [hws]; simp
      obtain ⟨pb, off, rfl⟩ := at_some HT.out 1 (by omega)
      have hcell0 := ((HT.out.below HR.out.lo).get 0 (by omega)).2
      have hcell1 := ((HT.out.below HR.out.lo).get 1 (by omega)).2
      rw [Nat.add_zero] at hcell0
      have e0 : ws[0]'(by omega) = x := by simp [hws]
      have e1 : ws[1]'(by omega) = y := by simp [hws]
      rw [e0] at hcell0; rw [e1] at hcell1
      have hsl := slice_two pb off ws.length cap (by omega) (by omega)
      rw [← hln] at hsl
      have HD := Lib.hid (show StrAt w (some ⟨pb, off + 2, none⟩) bws by
        have := SlAt.drop HT.out 2
        have e : ws.drop 2 = bws := by rw [hbw, hws]; rfl
        simpa [StrAt, ← List.map_drop, e] using this)
      have hv : ((mkS y).toList == befW) = true := eq_litB hy2
      simp only [befW] at hv
      have HC1 := Lib.hid ((HT.out.get 1 (by omega)).2)
      have hpl := (HT.out.get 1 (by omega)).1
      rw [e1] at HC1
      clear e0 e1 hws hy hy2 hbw hb
      have hf := box_free HR.out.box; have hc := box_cells HR.out.box
      subst hTBt
      go_upto_region 4 with ((go_at_call 46; refine (Rnum_any _ _).mono ?_; rintro e w' ⟨rfl, rfl⟩))
      replace HR := Lib.hid (HR.out.bars (numR x))
      clear hc hf hcell0 hcell1
      generalize (World.setCell _ ⟨w.heap.size + 1, 2, none⟩ (.int .i64 (numR x))) = W1 at *
      have hcell1 := (HR.out.lo.cell (p := ⟨pb, off + 1, none⟩) hpl).trans HC1.out
      have hf := box_free HR.out.box; have hc := box_cells HR.out.box
      have hnb := numR_bd x
      generalize numR x = N at *
      have hwn : IntKind.i64.wrap (-N) = -N := IntWalk.i64_in _ (by omega)
      go_wp2
      go_meet
      case rel => exact ⟨_, _, by rw [hln], HD.out, HR.out.bars (-N)⟩
    · have hTBt : TB = false := by rw [HTB.out, hws]; simp [hy, hy2]
      rw [HBr.out] at hb
      obtain ⟨rfl, hbw⟩ := Prod.mk.inj hb
      subst hbw
      clear hws hy hy2 hb
      subst hTBt
      go_wp2
      go_meet
      case rel => exact ⟨_, _, rfl, HT.out, HR.out⟩
    · have hTBt : TB = false := by rw [HTB.out]; simp; omega
      rw [HBr.out] at hb
      obtain ⟨rfl, hbw⟩ := Prod.mk.inj hb
      subst hbw
      clear hb
      subst hTBt
      go_wp2
      go_meet
      case rel => exact ⟨_, _, rfl, HT.out, HR.out⟩
  case rest =>
  obtain ⟨p2, cap2, rfl, ht2, hr2⟩ := hcut
  replace HT := Lib.hid ht2; replace HR := Lib.hid hr2
  clear ht2 hr2 HBr HTB HSh hcap
  generalize (wc : World) = V1 at *
  obtain ⟨c1, hc1⟩ : ∃ c1, c1 = placeR ⟨[], 0, bk, 0, 1, 0⟩ bws := ⟨_, rfl⟩
  rw [← hc1] at HFin
  have HC1 := Lib.hid hc1
  clear hc1
  go_upto_if 40 with (fail)
  go_cut [4] from 5 (fun s4 V => RrAt w c1 V)
  case first =>
    by_cases hn : 0 < bws.length
    · obtain ⟨pb, off, rfl⟩ := at_some HT.out 0 hn
      have hcell := (HT.out.get 0 hn).2
      have hpl := (HT.out.get 0 hn).1
      rw [Nat.add_zero] at hcell
      have HQ : ∃ x, bws[0] = x ∧ placeR ⟨[], 0, bk, 0, 1, 0⟩ bws = if nameB x then { (⟨[], 0, bk, 0, 1, 0⟩ : Cl) with letter := x } else { (⟨[], 0, bk, 0, 1, 0⟩ : Cl) with number := numR x } := by
        cases bws with
        | nil => simp at hn
        | cons x r => exact ⟨x, rfl, rfl⟩
      obtain ⟨x, hx, hpx⟩ := HQ
      rw [hx] at hcell
      rw [← HC1.out] at hpx
      have hcellw := (HR.out.lo.cell (p := ⟨pb, off, none⟩) hpl).trans hcell
      clear hcell hx
      have hf := box_free HR.out.box; have hc := box_cells HR.out.box
      cases hnm : nameB x
      · rw [hnm] at hpx
        have HPx := Lib.hid hpx
        clear hpx
        go_wp2_with (first | (go_at_call 23; refine (RName_any _ _).mono ?_; rw [hnm]; rintro e w' ⟨rfl, rfl⟩) | (go_at_call 46; refine (Rnum_any _ _).mono ?_; rintro e w' ⟨rfl, rfl⟩))
        go_meet
        case rel => rw [HPx.out]; exact HR.out.number (numR x)
      · rw [hnm] at hpx
        have HPx := Lib.hid hpx
        clear hpx
        go_wp2_with (first | (go_at_call 23; refine (RName_any _ _).mono ?_; rw [hnm]; rintro e w' ⟨rfl, rfl⟩) | (go_at_call 46; refine (Rnum_any _ _).mono ?_; rintro e w' ⟨rfl, rfl⟩))
        go_meet
        case rel => rw [HPx.out]; exact HR.out.letter x
    · have HPx := Lib.hid (show c1 = ⟨[], 0, bk, 0, 1, 0⟩ by
        rw [HC1.out]
        cases bws with
        | nil => rfl
        | cons x r => simp at hn)
      go_wp2
      go_meet
      case rel => rw [HPx.out]; exact HR.out
  case rest =>
  replace HR := Lib.hid hcut
  clear hcut HC1
  generalize (wc : World) = V2 at *
  go_wp2
  go_loopw [5] (fun s5 wr => ∃ (i : Nat) (cc : Cl), 1 ≤ i ∧ i ≤ bws.length + 3 ∧ s5 = .int .i64 i ∧ Hid (loopR cc (bws.drop i) = RES) ∧ RrAt w cc wr) (fun s5 _ => bws.length + 3 - (intOf s5).toNat)
  case atStart => exact ⟨1, c1, by omega, by omega, rfl, Lib.hid HFin.out.symm, HR.out⟩
  case round =>
    obtain ⟨i, cc, hi1, hi2, rfl, HL, hr⟩ := hrel
    replace HR := Lib.hid hr
    clear hr
    by_cases hlt : (i : Int) + 2 < (bws.length : Int)
    · obtain ⟨pb, off, rfl⟩ := at_some HT.out 0 (by omega)
      have hi3 : i + 1 < bws.length := by omega
      have hi4 : i + 2 < bws.length := by omega
      have hcy := (HT.out.get (i + 1) hi3).2
      have hcz := (HT.out.get (i + 2) hi4).2
      have hpl := (HT.out.get (i + 1) hi3).1
      have hLn : loopR cc (bws.drop i) = loopR (stepR cc bws[i + 1] bws[i + 2]) (bws.drop (i + 3)) := by
        rw [List.drop_eq_getElem_cons (show i < bws.length by omega), List.drop_eq_getElem_cons hi3, List.drop_eq_getElem_cons hi4, loopR]
      rw [HL.out] at hLn
      have hzl := HLb.out _ (List.getElem_mem hi4)
      generalize bws[i + 1] = y at *
      generalize bws[i + 2] = z at *
      have HLn := Lib.hid hLn
      clear hLn HL
      have HCY := Lib.hid hcy; have HCZ := Lib.hid hcz
      clear hcy hcz
      obtain ⟨c2, hc2⟩ : ∃ c2, c2 = if y = beatW then { cc with n := (beatR z).1, d := (beatR z).2 } else cc := ⟨_, rfl⟩
      have HS := Lib.hid (show stepR cc y z = if y = timeW then { c2 with pass := numR z } else c2 by unfold stepR; rw [hc2])
      have HC2 := Lib.hid hc2
      clear hc2
      have hcy := (HR.out.lo.cell (p := ⟨pb, off + (i + 1), none⟩) hpl).trans HCY.out
      have hcz := (HR.out.lo.cell (p := ⟨pb, off + (i + 2), none⟩) hpl).trans HCZ.out
      go_upto_if 67 with (fail)
      go_cut [67] from 68 to 74 (fun s4 V => RrAt w c2 V)
      case first =>
        have hf := box_free HR.out.box; have hc := box_cells HR.out.box
        by_cases hy : y = beatW
        · have hv := eq_litB hy
          simp only [beatW] at hv
          rw [hv]
          have HE2 := Lib.hid (show c2 = { cc with n := (beatR z).1, d := (beatR z).2 } by rw [HC2.out, if_pos hy])
          clear hy
          go_wp2_with (fail)
          refine (Rbeat_any _ _ (by omega)).mono ?_
          rintro e w' ⟨rfl, hb⟩
          replace HR := Lib.hid (HR.out.below hb)
          clear hb hc hf hcy hcz
          have hf := box_free HR.out.box
          have hc := box_cells HR.out.box
          go_wp2
          go_meet
          case rel => rw [HE2.out]; exact (HR.out.n (beatR z).1).d (beatR z).2
        · have hv := ne_lit hy
          simp only [beatW] at hv
          rw [hv]
          have HE2 := Lib.hid (show c2 = cc by rw [HC2.out, if_neg hy])
          clear hy
          go_wp2
          go_meet
          case rel => rw [HE2.out]; exact HR.out
      case rest =>
      replace HR := Lib.hid hcut
      clear hcut hcy hcz
      generalize (wc : World) = V3 at *
      have hcy := (HR.out.lo.cell (p := ⟨pb, off + (i + 1), none⟩) hpl).trans HCY.out
      have hcz := (HR.out.lo.cell (p := ⟨pb, off + (i + 2), none⟩) hpl).trans HCZ.out
      have hf := box_free HR.out.box; have hc := box_cells HR.out.box
      by_cases hy : y = timeW
      · have hv := eq_litB hy
        simp only [timeW] at hv
        have HE2 := Lib.hid (show stepR cc y z = { c2 with pass := numR z } by rw [HS.out, if_pos hy])
        clear hy
        go_wp2_with ((go_at_call 46; refine (Rnum_any _ _).mono ?_; rintro e w' ⟨rfl, rfl⟩))
        go_roundw
        case rel => exact ⟨i + 3, _, by omega, by omega, by go_num, Lib.hid HLn.out.symm, by rw [HE2.out]; exact HR.out.pass _⟩
        case measure => simp [intOf]; omega
      · have hv := ne_lit hy
        simp only [timeW] at hv
        have HE2 := Lib.hid (show stepR cc y z = c2 by rw [HS.out, if_neg hy])
        clear hy
        go_wp2
        go_roundw
        case rel => exact ⟨i + 3, _, by omega, by omega, by go_num, Lib.hid HLn.out.symm, by rw [HE2.out]; exact HR.out⟩
        case measure => simp [intOf]; omega
    · have HF := Lib.hid (show RES = cc by
        rw [← HL.out]
        have hd : (bws.drop i).length ≤ 2 := by rw [List.length_drop]; omega
        generalize bws.drop i = dd at *
        rcases dd with _ | ⟨a1, _ | ⟨a2, _ | ⟨a3, r⟩⟩⟩
        · rfl
        · rfl
        · rfl
        · simp at hd)
      have hc := box_cells HR.out.box
      have hf1 := box_free HR.out.res; have hc1 := box_cells HR.out.res
      go_wp2
      exact bodyPost_ret (v := .agg #[.string (mkS cc.letter), .int .i64 cc.number, .int .i64 cc.bars, .int .i64 cc.n, .int .i64 cc.d, .int .i64 cc.pass]) (by simp [results, Tryd.results29, go_sem, hc1, hf1]) rfl ⟨by rw [HF.out], (((((HR.out.lo.setCell (Nat.le_refl _) _).setCell (Nat.le_refl _) _).setCell (Nat.le_refl _) _).setCell (Nat.le_refl _) _).setCell (Nat.le_refl _) _).setCell (Nat.le_refl _) _⟩
end Go.Proofs.YtfppijjjaleiaaaDoor
