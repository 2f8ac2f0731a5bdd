import Derived.Test.YtcelciomhngajaaGreatDoorEL5

/- The law TurnSlower: walked. -/
namespace Go.Proofs.YtcelciomhngajaaGreatDoor
set_option linter.unusedSimpArgs false
set_option linter.unusedVariables false
open Go.RowKit Go.Sort

theorem eltTe : Elt Tryz.prog 27 70 3 24 Te.cells := ⟨Tryz.underlying27, ⟨.agg #[.int .i64 0, .int .i64 0, .int .i64 0], by kernel_rfl, rfl⟩, by decide, by decide, fun _ => rfl, fun x u hu => by simp [Te.cells] at hu; rcases hu with rfl | rfl | rfl <;> rfl⟩
theorem tempos_each {bars : List Ba} {l : List Te} (h : temposB bars l = true) : ∀ t ∈ l, tempoB t.q = true := by
  simp only [temposB, Bool.and_eq_true, decide_eq_true_eq] at h
  obtain ⟨⟨⟨⟨⟨h1, h2⟩, h3⟩, h4⟩, h5⟩, h6⟩ := h
  intro t ht
  have := List.all_eq_true.1 h5 t ht
  rw [Bool.and_eq_true] at this
  exact this.1
theorem slow_take {l : List Te} {i : Nat} (hi : i < l.length) {r : Rt} (hr : mulR2 l[i].q ⟨2, 1⟩ = (r, 0)) : slowT (l.take (i + 1)) = slowT (l.take i) ++ [⟨l[i].bar, r⟩] := by
  unfold slowT
  rw [List.take_succ_eq_append_getElem hi, List.map_append]
  simp [hr]
theorem slow_len (l : List Te) : (slowT l).length = l.length := by unfold slowT; simp
set_option maxRecDepth 100000 in
set_option maxHeartbeats 8000000 in
theorem TurnSlower_any (s : Sc) (q : Sp) (ta : Option Addr) (tcap : Nat) (l : List Te) (k j : Nat) (hk : k ≤ 255) (hj : j ≤ 255) (w : World) (hs : ScAt w s q) (ht : TeAt w ta l) (hE : Env w) :
    Calls Tryz.prog 7 #[.agg #[.int .i64 s.version, .slice q.ab s.bars.length q.cb, .slice q.ap s.parts.length q.cp, .slice q.an s.notes.length q.cn], .slice ta l.length tcap, .int .u8 k, .int .u8 j] w fun e w' => e = .returned (.bool true) ∧ Below w.heap.size w w' := by
  have HX1 := Lib.hid (heap_alloc_new w (.cells #[.int .i64 s.version, .slice q.ab s.bars.length q.cb, .slice q.ap s.parts.length q.cp, .slice q.an s.notes.length q.cn] 26))
  have HB := Lib.hid ((Below.refl w.heap.size w).alloc (Nat.le_refl _) (.cells #[.int .i64 s.version, .slice q.ab s.bars.length q.cb, .slice q.ap s.parts.length q.cp, .slice q.an s.notes.length q.cn] 26))
  have HHd := Lib.hid (fun W (hb : Below w.heap.size w W) => head25_any W (hE.below hb))
  have HTa := Lib.hid ht
  cases hu : useB s l
  · have HUn := Lib.hid (fun W (hb : Below w.heap.size w W) => usable_no s q ta tcap l k W (hs.below hb) (ht.below hb) hu)
    clear hs hE ht hu
    obtain ⟨ab, cb, ap, cp, an, cn⟩ := q
    try dsimp only at *
    go_enter Tryz.func7, Tryz.ntmps7
    go_upto_region 1 with (fail)
    generalize w.alloc (.cells #[.int .i64 s.version, .slice (⟨ab, cb, ap, cp, an, cn⟩ : Sp).ab s.bars.length (⟨ab, cb, ap, cp, an, cn⟩ : Sp).cb, .slice (⟨ab, cb, ap, cp, an, cn⟩ : Sp).ap s.parts.length (⟨ab, cb, ap, cp, an, cn⟩ : Sp).cp, .slice (⟨ab, cb, ap, cp, an, cn⟩ : Sp).an s.notes.length (⟨ab, cb, ap, cp, an, cn⟩ : Sp).cn] 26) = W at *
    (try have hc1 := box_cells HX1.out); (try have hc2 := box_cells HX2.out); (try have hc3 := box_cells HX3.out); (try have hc4 := box_cells HX4.out); (try have hc5 := box_cells HX5.out); (try have hc6 := box_cells HX6.out)
    go_wp2_with (first | (go_at_call 9; refine (HHd.out _ HB.out).mono ?_; rintro e w2 ⟨rfl, hb⟩; (try clear hc1); (try clear hc2); (try clear hc3); (try clear hc4); (try clear hc5); (try clear hc6); (try replace hb := drewB hb); (try replace HX1 := Lib.hid (blk_keep HX1.out hb)); (try replace HX2 := Lib.hid (blk_keep HX2.out hb)); (try replace HX3 := Lib.hid (blk_keep HX3.out hb)); (try replace HX4 := Lib.hid (blk_keep HX4.out hb)); (try replace HX5 := Lib.hid (blk_keep HX5.out hb)); (try replace HX6 := Lib.hid (blk_keep HX6.out hb)); (try replace HBl := Lib.hid (HBl.out.trans (hb.mono HBl.out.size))); (try replace HO := Lib.hid (HO.out.below hb)); (try replace HC := Lib.hid (HC.out.trans (hb.mono HC.out.size))); replace HB := Lib.hid (HB.out.trans (hb.mono HB.out.size)); clear hb; (try have hc1 := box_cells HX1.out); (try have hc2 := box_cells HX2.out); (try have hc3 := box_cells HX3.out); (try have hc4 := box_cells HX4.out); (try have hc5 := box_cells HX5.out); (try have hc6 := box_cells HX6.out)) | (go_at_call 16; refine (HUn.out _ HB.out).mono ?_; rintro e w3 ⟨rfl, hb⟩; (try clear hc1); (try clear hc2); (try clear hc3); (try clear hc4); (try clear hc5); (try clear hc6); (try replace hb := drewB hb); (try replace HX1 := Lib.hid (blk_keep HX1.out hb)); (try replace HX2 := Lib.hid (blk_keep HX2.out hb)); (try replace HX3 := Lib.hid (blk_keep HX3.out hb)); (try replace HX4 := Lib.hid (blk_keep HX4.out hb)); (try replace HX5 := Lib.hid (blk_keep HX5.out hb)); (try replace HX6 := Lib.hid (blk_keep HX6.out hb)); (try replace HBl := Lib.hid (HBl.out.trans (hb.mono HBl.out.size))); (try replace HO := Lib.hid (HO.out.below hb)); (try replace HC := Lib.hid (HC.out.trans (hb.mono HC.out.size))); replace HB := Lib.hid (HB.out.trans (hb.mono HB.out.size)); clear hb; (try have hc1 := box_cells HX1.out); (try have hc2 := box_cells HX2.out); (try have hc3 := box_cells HX3.out); (try have hc4 := box_cells HX4.out); (try have hc5 := box_cells HX5.out); (try have hc6 := box_cells HX6.out)))
    go_ret
    exact ⟨rfl, (HB.out.alloc (by have := HB.out.size; omega) _)⟩
  obtain ⟨hnp, hnb1, hnb2, htem⟩ := use_parts hu
  obtain ⟨ip, hip, _, _, hmod⟩ := modT_lt hnp k
  obtain ⟨p, hpe⟩ : ∃ p, s.parts[ip] = p := ⟨_, rfl⟩
  have HUs := Lib.hid (fun W (hb : Below w.heap.size w W) => usable_use s q ta tcap l k hk W (hs.below hb) (ht.below hb) (hE.below hb) hu ip hip hmod p hpe)
  have HRa := Lib.hid (fun n d V => rat25_any n d V)
  have hll : l.length ≤ 60 := by unfold useB at hu; simp only [Bool.and_eq_true, decide_eq_true_eq] at hu; exact hu.1.1.2
  clear hs hE ht hu hmod hpe hnp hip
  obtain ⟨jp, hjp, hrj0, hrj20, _⟩ := modT_lt (n := s.bars.length + 1) (by omega) j
  have hrj : (j : Int) % ((s.bars.length : Int) + 1) = (jp : Int) := by rw [← hrj0]; push_cast; rfl
  have hrj2 : (j : Int).tmod ((s.bars.length : Int) + 1) = (jp : Int) := by rw [← hrj20]; push_cast; rfl
  clear hrj0 hrj20
  have hwj : IntKind.i64.wrap (j : Int) = (j : Int) := IntWalk.i64_in _ (by omega)
  have hwn : IntKind.i64.wrap ((s.bars.length : Int) + 1) = (s.bars.length : Int) + 1 := IntWalk.i64_in _ (by omega)
  have hn0 : ((s.bars.length : Int) + 1 == 0) = false := by simp; omega
  have hz : ¬ ((s.bars.length : Int) + 1 = 0) := by omega
  have hjL : j < 256 := by omega
  have hEa := tempos_each htem
  obtain ⟨ab, cb, ap, cp, an, cn⟩ := q
  try dsimp only at *
  go_enter Tryz.func7, Tryz.ntmps7
  go_upto_region 1 with (fail)
  generalize w.alloc (.cells #[.int .i64 s.version, .slice (⟨ab, cb, ap, cp, an, cn⟩ : Sp).ab s.bars.length (⟨ab, cb, ap, cp, an, cn⟩ : Sp).cb, .slice (⟨ab, cb, ap, cp, an, cn⟩ : Sp).ap s.parts.length (⟨ab, cb, ap, cp, an, cn⟩ : Sp).cp, .slice (⟨ab, cb, ap, cp, an, cn⟩ : Sp).an s.notes.length (⟨ab, cb, ap, cp, an, cn⟩ : Sp).cn] 26) = W at *
  (try have hc1 := box_cells HX1.out); (try have hc2 := box_cells HX2.out); (try have hc3 := box_cells HX3.out); (try have hc4 := box_cells HX4.out); (try have hc5 := box_cells HX5.out); (try have hc6 := box_cells HX6.out)
  go_upto_region 3 with (first | (go_at_call 9; refine (HHd.out _ HB.out).mono ?_; rintro e w2 ⟨rfl, hb⟩; (try clear hc1); (try clear hc2); (try clear hc3); (try clear hc4); (try clear hc5); (try clear hc6); (try replace hb := drewB hb); (try replace HX1 := Lib.hid (blk_keep HX1.out hb)); (try replace HX2 := Lib.hid (blk_keep HX2.out hb)); (try replace HX3 := Lib.hid (blk_keep HX3.out hb)); (try replace HX4 := Lib.hid (blk_keep HX4.out hb)); (try replace HX5 := Lib.hid (blk_keep HX5.out hb)); (try replace HX6 := Lib.hid (blk_keep HX6.out hb)); (try replace HBl := Lib.hid (HBl.out.trans (hb.mono HBl.out.size))); (try replace HO := Lib.hid (HO.out.below hb)); (try replace HC := Lib.hid (HC.out.trans (hb.mono HC.out.size))); replace HB := Lib.hid (HB.out.trans (hb.mono HB.out.size)); clear hb; (try have hc1 := box_cells HX1.out); (try have hc2 := box_cells HX2.out); (try have hc3 := box_cells HX3.out); (try have hc4 := box_cells HX4.out); (try have hc5 := box_cells HX5.out); (try have hc6 := box_cells HX6.out)) | (go_at_call 16; refine (HUs.out _ HB.out).mono ?_; rintro e w3 ⟨a, cap, ms, rfl, huse, hb⟩; have HUw := Lib.hid huse; clear huse; (try clear hc1); (try clear hc2); (try clear hc3); (try clear hc4); (try clear hc5); (try clear hc6); (try replace hb := drewB hb); (try replace HX1 := Lib.hid (blk_keep HX1.out hb)); (try replace HX2 := Lib.hid (blk_keep HX2.out hb)); (try replace HX3 := Lib.hid (blk_keep HX3.out hb)); (try replace HX4 := Lib.hid (blk_keep HX4.out hb)); (try replace HX5 := Lib.hid (blk_keep HX5.out hb)); (try replace HX6 := Lib.hid (blk_keep HX6.out hb)); (try replace HBl := Lib.hid (HBl.out.trans (hb.mono HBl.out.size))); (try replace HO := Lib.hid (HO.out.below hb)); (try replace HC := Lib.hid (HC.out.trans (hb.mono HC.out.size))); replace HB := Lib.hid (HB.out.trans (hb.mono HB.out.size)); clear hb; (try have hc1 := box_cells HX1.out); (try have hc2 := box_cells HX2.out); (try have hc3 := box_cells HX3.out); (try have hc4 := box_cells HX4.out); (try have hc5 := box_cells HX5.out); (try have hc6 := box_cells HX6.out)))
  have hb := (Below.refl w3.heap.size w3).alloc (Nat.le_refl _) (.cells #[.int .i64 p.id, .slice a ms.length cap] 30 (0, 0))
  replace HUw := Lib.hid (HUw.out.below hb)
  clear hb
  have x4 := heap_alloc_new w3 (.cells #[.int .i64 p.id, .slice a ms.length cap] 30 (0, 0)); have hb := (Below.refl (w3).heap.size w3).alloc (Nat.le_refl _) (.cells #[.int .i64 p.id, .slice a ms.length cap] 30 (0, 0)); (try clear hc1); (try clear hc2); (try clear hc3); (try clear hc4); (try clear hc5); (try clear hc6); (try replace hb := drewB hb); (try replace HX1 := Lib.hid (blk_keep HX1.out hb)); (try replace HX2 := Lib.hid (blk_keep HX2.out hb)); (try replace HX3 := Lib.hid (blk_keep HX3.out hb)); (try replace HX4 := Lib.hid (blk_keep HX4.out hb)); (try replace HX5 := Lib.hid (blk_keep HX5.out hb)); (try replace HX6 := Lib.hid (blk_keep HX6.out hb)); (try replace HBl := Lib.hid (HBl.out.trans (hb.mono HBl.out.size))); (try replace HO := Lib.hid (HO.out.below hb)); (try replace HC := Lib.hid (HC.out.trans (hb.mono HC.out.size))); replace HB := Lib.hid (HB.out.trans (hb.mono HB.out.size)); clear hb; have HX4 := Lib.hid x4; clear x4; generalize World.alloc w3 (.cells #[.int .i64 p.id, .slice a ms.length cap] 30 (0, 0)) = W4 at *; generalize World.heap w3 = vh at *; (try have hc1 := box_cells HX1.out); (try have hc2 := box_cells HX2.out); (try have hc3 := box_cells HX3.out); (try have hc4 := box_cells HX4.out); (try have hc5 := box_cells HX5.out); (try have hc6 := box_cells HX6.out)
  have HC := Lib.hid (Below.refl W4.heap.size W4)
  go_upto_region 6 with (go_at_call 18; refine (HRa.out _ _ _).mono ?_; rintro e w5 ⟨rfl, hb⟩; (try clear hc1); (try clear hc2); (try clear hc3); (try clear hc4); (try clear hc5); (try clear hc6); (try replace hb := drewB hb); (try replace HX1 := Lib.hid (blk_keep HX1.out hb)); (try replace HX2 := Lib.hid (blk_keep HX2.out hb)); (try replace HX3 := Lib.hid (blk_keep HX3.out hb)); (try replace HX4 := Lib.hid (blk_keep HX4.out hb)); (try replace HX5 := Lib.hid (blk_keep HX5.out hb)); (try replace HX6 := Lib.hid (blk_keep HX6.out hb)); (try replace HBl := Lib.hid (HBl.out.trans (hb.mono HBl.out.size))); (try replace HO := Lib.hid (HO.out.below hb)); (try replace HC := Lib.hid (HC.out.trans (hb.mono HC.out.size))); replace HB := Lib.hid (HB.out.trans (hb.mono HB.out.size)); clear hb; (try have hc1 := box_cells HX1.out); (try have hc2 := box_cells HX2.out); (try have hc3 := box_cells HX3.out); (try have hc4 := box_cells HX4.out); (try have hc5 := box_cells HX5.out); (try have hc6 := box_cells HX6.out))
  have x4 := heap_alloc_new w5 (.cells #[.int .i64 2, .int .i64 1] 32 (0, 0)); have hb := (Below.refl (w5).heap.size w5).alloc (Nat.le_refl _) (.cells #[.int .i64 2, .int .i64 1] 32 (0, 0)); (try clear hc1); (try clear hc2); (try clear hc3); (try clear hc4); (try clear hc5); (try clear hc6); (try replace hb := drewB hb); (try replace HX1 := Lib.hid (blk_keep HX1.out hb)); (try replace HX2 := Lib.hid (blk_keep HX2.out hb)); (try replace HX3 := Lib.hid (blk_keep HX3.out hb)); (try replace HX4 := Lib.hid (blk_keep HX4.out hb)); (try replace HX5 := Lib.hid (blk_keep HX5.out hb)); (try replace HX6 := Lib.hid (blk_keep HX6.out hb)); (try replace HBl := Lib.hid (HBl.out.trans (hb.mono HBl.out.size))); (try replace HO := Lib.hid (HO.out.below hb)); (try replace HC := Lib.hid (HC.out.trans (hb.mono HC.out.size))); replace HB := Lib.hid (HB.out.trans (hb.mono HB.out.size)); clear hb; have HX2 := Lib.hid x4; clear x4; generalize World.alloc w5 (.cells #[.int .i64 2, .int .i64 1] 32 (0, 0)) = W5 at *; generalize World.heap w5 = t5 at *; (try have hc1 := box_cells HX1.out); (try have hc2 := box_cells HX2.out); (try have hc3 := box_cells HX3.out); (try have hc4 := box_cells HX4.out); (try have hc5 := box_cells HX5.out); (try have hc6 := box_cells HX6.out)
  go_wp2
  (try clear hc1); (try clear hc2); (try clear hc3); (try clear hc4); (try clear hc5); (try clear hc6)
  have HBl := Lib.hid (Below.refl W5.heap.size W5)
  go_loopw [13, 41] (fun s13 s41 wi => ∃ i : Nat, i ≤ l.length ∧ s41 = .int .i64 i ∧ OwnR wi W5.heap.size 70 3 s13 ((slowT (l.take i)).map Te.cells) ∧ Below W5.heap.size W5 wi) (fun _ s41 _ => l.length - (intOf s41).toNat)
  case atStart => exact ⟨0, Nat.zero_le _, rfl, by simpa [slowT] using OwnR.nil _ _ _ _, Below.refl _ _⟩
  case round =>
    clear HBl
    obtain ⟨i, hi, rfl, ho, hb⟩ := hrel
    have HO := Lib.hid ho
    have HBl := Lib.hid hb
    clear ho
    replace HX1 := Lib.hid (blk_keep HX1.out hb); replace HX4 := Lib.hid (blk_keep HX4.out hb); replace HX2 := Lib.hid (blk_keep HX2.out hb); replace HC := Lib.hid (HC.out.trans (hb.mono HC.out.size)); replace HB := Lib.hid (HB.out.trans (hb.mono HB.out.size)); clear hb
    by_cases hlt : i < l.length
    · obtain ⟨b, off, hta, _, t0, t1, t2⟩ := (HUw.out.below HC.out).tw.te.get i hlt
      obtain ⟨r, hr⟩ := tempo_twice (hEa _ (List.getElem_mem hlt))
      have HSk := Lib.hid (slow_take hlt hr)
      have HMu := Lib.hid (fun V => hr ▸ RatMul_any l[i].q ⟨2, 1⟩ V)
      have hSl : (slowT (l.take i)).length ≤ 1000 := by rw [slow_len, List.length_take]; omega
      subst hta
      generalize slowT (l.take i) = L at *
      generalize l[i] = T at *
      clear hr
      dsimp only at HMu
      (try have hc1 := box_cells HX1.out); (try have hc2 := box_cells HX2.out); (try have hc3 := box_cells HX3.out); (try have hc4 := box_cells HX4.out); (try have hc5 := box_cells HX5.out); (try have hc6 := box_cells HX6.out)
      go_upto_region 10 with (fail)
      clear t0 t1 t2
      have x4 := heap_alloc_new wr (.cells #[.int .i64 T.bar, .int .i64 T.q.n, .int .i64 T.q.d] 70 (0, 0)); have hb := (Below.refl (wr).heap.size wr).alloc (Nat.le_refl _) (.cells #[.int .i64 T.bar, .int .i64 T.q.n, .int .i64 T.q.d] 70 (0, 0)); (try clear hc1); (try clear hc2); (try clear hc3); (try clear hc4); (try clear hc5); (try clear hc6); (try replace hb := drewB hb); (try replace HX1 := Lib.hid (blk_keep HX1.out hb)); (try replace HX2 := Lib.hid (blk_keep HX2.out hb)); (try replace HX3 := Lib.hid (blk_keep HX3.out hb)); (try replace HX4 := Lib.hid (blk_keep HX4.out hb)); (try replace HX5 := Lib.hid (blk_keep HX5.out hb)); (try replace HX6 := Lib.hid (blk_keep HX6.out hb)); (try replace HBl := Lib.hid (HBl.out.trans (hb.mono HBl.out.size))); (try replace HO := Lib.hid (HO.out.below hb)); (try replace HC := Lib.hid (HC.out.trans (hb.mono HC.out.size))); replace HB := Lib.hid (HB.out.trans (hb.mono HB.out.size)); clear hb; have HX5 := Lib.hid x4; clear x4; generalize World.alloc wr (.cells #[.int .i64 T.bar, .int .i64 T.q.n, .int .i64 T.q.d] 70 (0, 0)) = W6 at *; generalize World.heap wr = x6 at *; (try have hc1 := box_cells HX1.out); (try have hc2 := box_cells HX2.out); (try have hc3 := box_cells HX3.out); (try have hc4 := box_cells HX4.out); (try have hc5 := box_cells HX5.out); (try have hc6 := box_cells HX6.out)
      go_upto_region 11 with (go_at_call 27; refine (HMu.out _).mono ?_; rintro e w6 ⟨rfl, hb⟩; (try clear hc1); (try clear hc2); (try clear hc3); (try clear hc4); (try clear hc5); (try clear hc6); (try replace hb := drewB hb); (try replace HX1 := Lib.hid (blk_keep HX1.out hb)); (try replace HX2 := Lib.hid (blk_keep HX2.out hb)); (try replace HX3 := Lib.hid (blk_keep HX3.out hb)); (try replace HX4 := Lib.hid (blk_keep HX4.out hb)); (try replace HX5 := Lib.hid (blk_keep HX5.out hb)); (try replace HX6 := Lib.hid (blk_keep HX6.out hb)); (try replace HBl := Lib.hid (HBl.out.trans (hb.mono HBl.out.size))); (try replace HO := Lib.hid (HO.out.below hb)); (try replace HC := Lib.hid (HC.out.trans (hb.mono HC.out.size))); replace HB := Lib.hid (HB.out.trans (hb.mono HB.out.size)); clear hb; (try have hc1 := box_cells HX1.out); (try have hc2 := box_cells HX2.out); (try have hc3 := box_cells HX3.out); (try have hc4 := box_cells HX4.out); (try have hc5 := box_cells HX5.out); (try have hc6 := box_cells HX6.out))
      have x4 := heap_alloc_new w6 (.cells #[.int .i64 (r).n, .int .i64 (r).d] 32 (0, 0)); have hb := (Below.refl (w6).heap.size w6).alloc (Nat.le_refl _) (.cells #[.int .i64 (r).n, .int .i64 (r).d] 32 (0, 0)); (try clear hc1); (try clear hc2); (try clear hc3); (try clear hc4); (try clear hc5); (try clear hc6); (try replace hb := drewB hb); (try replace HX1 := Lib.hid (blk_keep HX1.out hb)); (try replace HX2 := Lib.hid (blk_keep HX2.out hb)); (try replace HX3 := Lib.hid (blk_keep HX3.out hb)); (try replace HX4 := Lib.hid (blk_keep HX4.out hb)); (try replace HX5 := Lib.hid (blk_keep HX5.out hb)); (try replace HX6 := Lib.hid (blk_keep HX6.out hb)); (try replace HBl := Lib.hid (HBl.out.trans (hb.mono HBl.out.size))); (try replace HO := Lib.hid (HO.out.below hb)); (try replace HC := Lib.hid (HC.out.trans (hb.mono HC.out.size))); replace HB := Lib.hid (HB.out.trans (hb.mono HB.out.size)); clear hb; have HX6 := Lib.hid x4; clear x4; generalize World.alloc w6 (.cells #[.int .i64 (r).n, .int .i64 (r).d] 32 (0, 0)) = W7 at *; generalize World.heap w6 = x7 at *; (try have hc1 := box_cells HX1.out); (try have hc2 := box_cells HX2.out); (try have hc3 := box_cells HX3.out); (try have hc4 := box_cells HX4.out); (try have hc5 := box_cells HX5.out); (try have hc6 := box_cells HX6.out)
      go_wp2_with (at_builtin; go_must (refine appE eltTe rfl (.tmp 54) (.tmp 59) rfl W5.heap.size _ L rfl (HO.out.below ((Below.refl _ _).alloc (Nat.le_refl _) _)) _ _ _ [(⟨T.bar, r⟩ : Te)] rfl rfl (fun e => by cases e) (eltTe.new _ (⟨T.bar, r⟩ : Te) _ _ rfl) (by simp; omega) (by have := HBl.out.size; simp; omega) ?_); intro v2 w2 ho2 hg2)
      have hg2s := hg2.size
      have hs6 := HBl.out.size
      go_roundw
      case rel =>
        refine ⟨i + 1, by omega, by go_num, by rw [HSk.out]; exact ho2, ?_⟩
        exact (HBl.out.alloc HBl.out.size _).grown hg2 (by have := HBl.out.size; simp; omega) (fun r e => by have := (HO.out.lt r e).1; omega)
      case measure => simp [intOf]; omega
    · obtain rfl : i = l.length := by omega
      rw [List.take_length] at HO
      obtain ⟨sa, sc, rfl, _, hsl⟩ := HO.out.slAt
      have hslen : ((slowT l).map Te.cells).length = l.length := by rw [List.length_map, slow_len]
      rw [hslen]
      have HSl := Lib.hid (show TeAt wr sa (slowT l) from hsl)
      have HTv := Lib.hid (fun V (hV : Below wr.heap.size wr V) => show Calls Tryz.prog 28 #[.slice ab s.bars.length cb, .slice sa l.length sc] V (fun e w' => e = .returned (.bool (temposB s.bars (slowT l))) ∧ Below V.heap.size V w') from by
        have hT := (HUw.out.below HC.out).below hV
        have h := tTempos_any ab cb s.bars sa sc (slowT l) V (Nat.le_trans hT.tw.few.bars (by decide)) (by rw [slow_len]; omega) hT.tw.sc.bars (HSl.out.below hV)
        rwa [slow_len] at h)
      clear hsl hslen HO
      (try have hc1 := box_cells HX1.out); (try have hc2 := box_cells HX2.out); (try have hc3 := box_cells HX3.out); (try have hc4 := box_cells HX4.out); (try have hc5 := box_cells HX5.out); (try have hc6 := box_cells HX6.out)
      have HR := Lib.hid (Below.refl wr.heap.size wr)
      cases hts : temposB s.bars (slowT l)
      · rw [hts] at HTv
        go_wp2_with (go_at_call 28; refine (HTv.out _ HR.out).mono ?_; rintro e w8 ⟨rfl, hb⟩; (try clear hc1); (try clear hc2); (try clear hc3); (try clear hc4); (try clear hc5); (try clear hc6); (try replace hb := drewB hb); (try replace HX1 := Lib.hid (blk_keep HX1.out hb)); (try replace HX2 := Lib.hid (blk_keep HX2.out hb)); (try replace HX3 := Lib.hid (blk_keep HX3.out hb)); (try replace HX4 := Lib.hid (blk_keep HX4.out hb)); (try replace HX5 := Lib.hid (blk_keep HX5.out hb)); (try replace HX6 := Lib.hid (blk_keep HX6.out hb)); (try replace HBl := Lib.hid (HBl.out.trans (hb.mono HBl.out.size))); (try replace HO := Lib.hid (HO.out.below hb)); (try replace HC := Lib.hid (HC.out.trans (hb.mono HC.out.size))); replace HB := Lib.hid (HB.out.trans (hb.mono HB.out.size)); clear hb; (try have hc1 := box_cells HX1.out); (try have hc2 := box_cells HX2.out); (try have hc3 := box_cells HX3.out); (try have hc4 := box_cells HX4.out); (try have hc5 := box_cells HX5.out); (try have hc6 := box_cells HX6.out))
        go_ret
        exact ⟨rfl, HB.out⟩
      rw [hts] at HTv
      have HUs : ∀ V, Below wr.heap.size wr V → UseW V s ⟨ab, cb, ap, cp, an, cn⟩ sa (slowT l) a ms p := fun V hV => by
        have hT := (HUw.out.below HC.out).below hV
        exact ⟨⟨hT.tw.few, hT.tw.sc, hT.tw.env, hT.tw.ml, hT.tw.nl, hT.tw.me, HSl.out.below hV, by rw [slow_len]; omega⟩, by have := hT.ok; unfold okT at this ⊢; rw [Bool.and_eq_true] at this; rw [this.1, hts]; rfl, hT.sy⟩
      obtain ⟨FX, hFX⟩ : ∃ FX, freeR s.bars l (viewL s p) jp = FX := ⟨_, rfl⟩
      obtain ⟨FY, hFY⟩ : ∃ FY, freeR s.bars (slowT l) (viewL s p) jp = FY := ⟨_, rfl⟩
      have HF1 := Lib.hid (fun V (hV : Below wr.heap.size wr V) => free_use (cap := cap) (tcap := tcap) ((HUw.out.below HC.out).below hV) (k := jp) (by omega) hFX)
      have HF2 := Lib.hid (fun V (hV : Below wr.heap.size wr V) => show Calls Tryz.prog 11 #[.agg #[.int .i64 s.version, .slice (⟨ab, cb, ap, cp, an, cn⟩ : Sp).ab s.bars.length (⟨ab, cb, ap, cp, an, cn⟩ : Sp).cb, .slice (⟨ab, cb, ap, cp, an, cn⟩ : Sp).ap s.parts.length (⟨ab, cb, ap, cp, an, cn⟩ : Sp).cp, .slice (⟨ab, cb, ap, cp, an, cn⟩ : Sp).an s.notes.length (⟨ab, cb, ap, cp, an, cn⟩ : Sp).cn], .slice sa l.length sc, .agg #[.int .i64 p.id, .slice a ms.length cap], .int .i64 (jp : Int)] V (fun e w' => e = .returned (.tuple #[.agg #[.int .i64 (FY).1.1.n, .int .i64 (FY).1.1.d, .int .i64 (FY).1.2.n, .int .i64 (FY).1.2.d], .int .i64 (FY).2]) ∧ Below V.heap.size V w') from by have h := free_use (cap := cap) (tcap := sc) (HUs V hV) (k := jp) (by omega) hFY; rwa [slow_len] at h)
      have hx3 := free_err hFX
      have hy3 := free_err hFY
      have HTw := Lib.hid (fun (a b c d : Rt) (h1 : FX = ((a, b), 0)) (h2 : FY = ((c, d), 0)) => slow_twice htem hts HUw.out.vw (k := jp) (by omega) (hFX.trans h1) (hFY.trans h2))
      clear hFX hFY HUs hts htem hEa
      obtain ⟨⟨⟨n1, d1⟩, ⟨n2, d2⟩⟩, fx⟩ := FX
      obtain ⟨⟨⟨m1, e1⟩, ⟨m2, e2⟩⟩, fy⟩ := FY
      dsimp only at HF1 HF2 hx3 hy3
      go_upto_region 19 with (first | (go_at_call 28; refine (HTv.out _ HR.out).mono ?_; rintro e w8 ⟨rfl, hb⟩; replace HR := Lib.hid (HR.out.trans (hb.mono HR.out.size)); (try clear hc1); (try clear hc2); (try clear hc3); (try clear hc4); (try clear hc5); (try clear hc6); (try replace hb := drewB hb); (try replace HX1 := Lib.hid (blk_keep HX1.out hb)); (try replace HX2 := Lib.hid (blk_keep HX2.out hb)); (try replace HX3 := Lib.hid (blk_keep HX3.out hb)); (try replace HX4 := Lib.hid (blk_keep HX4.out hb)); (try replace HX5 := Lib.hid (blk_keep HX5.out hb)); (try replace HX6 := Lib.hid (blk_keep HX6.out hb)); (try replace HBl := Lib.hid (HBl.out.trans (hb.mono HBl.out.size))); (try replace HO := Lib.hid (HO.out.below hb)); (try replace HC := Lib.hid (HC.out.trans (hb.mono HC.out.size))); replace HB := Lib.hid (HB.out.trans (hb.mono HB.out.size)); clear hb; (try have hc1 := box_cells HX1.out); (try have hc2 := box_cells HX2.out); (try have hc3 := box_cells HX3.out); (try have hc4 := box_cells HX4.out); (try have hc5 := box_cells HX5.out); (try have hc6 := box_cells HX6.out)) | (go_at_call 11; refine (HF1.out _ HR.out).mono ?_; rintro e w9 ⟨rfl, hb⟩; replace HR := Lib.hid (HR.out.trans (hb.mono HR.out.size)); (try clear hc1); (try clear hc2); (try clear hc3); (try clear hc4); (try clear hc5); (try clear hc6); (try replace hb := drewB hb); (try replace HX1 := Lib.hid (blk_keep HX1.out hb)); (try replace HX2 := Lib.hid (blk_keep HX2.out hb)); (try replace HX3 := Lib.hid (blk_keep HX3.out hb)); (try replace HX4 := Lib.hid (blk_keep HX4.out hb)); (try replace HX5 := Lib.hid (blk_keep HX5.out hb)); (try replace HX6 := Lib.hid (blk_keep HX6.out hb)); (try replace HBl := Lib.hid (HBl.out.trans (hb.mono HBl.out.size))); (try replace HO := Lib.hid (HO.out.below hb)); (try replace HC := Lib.hid (HC.out.trans (hb.mono HC.out.size))); replace HB := Lib.hid (HB.out.trans (hb.mono HB.out.size)); clear hb; (try have hc1 := box_cells HX1.out); (try have hc2 := box_cells HX2.out); (try have hc3 := box_cells HX3.out); (try have hc4 := box_cells HX4.out); (try have hc5 := box_cells HX5.out); (try have hc6 := box_cells HX6.out)))
      have hb := (Below.refl w9.heap.size w9).alloc (Nat.le_refl _) (.cells #[.int .i64 n1, .int .i64 d1, .int .i64 n2, .int .i64 d2] 36 (0, 0))
      replace HR := Lib.hid (HR.out.trans (hb.mono HR.out.size))
      clear hb
      have x4 := heap_alloc_new w9 (.cells #[.int .i64 n1, .int .i64 d1, .int .i64 n2, .int .i64 d2] 36 (0, 0)); have hb := (Below.refl (w9).heap.size w9).alloc (Nat.le_refl _) (.cells #[.int .i64 n1, .int .i64 d1, .int .i64 n2, .int .i64 d2] 36 (0, 0)); (try clear hc1); (try clear hc2); (try clear hc3); (try clear hc4); (try clear hc5); (try clear hc6); (try replace hb := drewB hb); (try replace HX1 := Lib.hid (blk_keep HX1.out hb)); (try replace HX2 := Lib.hid (blk_keep HX2.out hb)); (try replace HX3 := Lib.hid (blk_keep HX3.out hb)); (try replace HX4 := Lib.hid (blk_keep HX4.out hb)); (try replace HX5 := Lib.hid (blk_keep HX5.out hb)); (try replace HX6 := Lib.hid (blk_keep HX6.out hb)); (try replace HBl := Lib.hid (HBl.out.trans (hb.mono HBl.out.size))); (try replace HO := Lib.hid (HO.out.below hb)); (try replace HC := Lib.hid (HC.out.trans (hb.mono HC.out.size))); replace HB := Lib.hid (HB.out.trans (hb.mono HB.out.size)); clear hb; have HX3 := Lib.hid x4; clear x4; generalize World.alloc w9 (.cells #[.int .i64 n1, .int .i64 d1, .int .i64 n2, .int .i64 d2] 36 (0, 0)) = W9 at *; generalize World.heap w9 = x9 at *; (try have hc1 := box_cells HX1.out); (try have hc2 := box_cells HX2.out); (try have hc3 := box_cells HX3.out); (try have hc4 := box_cells HX4.out); (try have hc5 := box_cells HX5.out); (try have hc6 := box_cells HX6.out)
      go_upto_region 20 with (go_at_call 11; refine (HF2.out _ HR.out).mono ?_; rintro e w10 ⟨rfl, hb⟩; (try clear hc1); (try clear hc2); (try clear hc3); (try clear hc4); (try clear hc5); (try clear hc6); (try replace hb := drewB hb); (try replace HX1 := Lib.hid (blk_keep HX1.out hb)); (try replace HX2 := Lib.hid (blk_keep HX2.out hb)); (try replace HX3 := Lib.hid (blk_keep HX3.out hb)); (try replace HX4 := Lib.hid (blk_keep HX4.out hb)); (try replace HX5 := Lib.hid (blk_keep HX5.out hb)); (try replace HX6 := Lib.hid (blk_keep HX6.out hb)); (try replace HBl := Lib.hid (HBl.out.trans (hb.mono HBl.out.size))); (try replace HO := Lib.hid (HO.out.below hb)); (try replace HC := Lib.hid (HC.out.trans (hb.mono HC.out.size))); replace HB := Lib.hid (HB.out.trans (hb.mono HB.out.size)); clear hb; (try have hc1 := box_cells HX1.out); (try have hc2 := box_cells HX2.out); (try have hc3 := box_cells HX3.out); (try have hc4 := box_cells HX4.out); (try have hc5 := box_cells HX5.out); (try have hc6 := box_cells HX6.out))
      have x4 := heap_alloc_new w10 (.cells #[.int .i64 m1, .int .i64 e1, .int .i64 m2, .int .i64 e2] 36 (0, 0)); have hb := (Below.refl (w10).heap.size w10).alloc (Nat.le_refl _) (.cells #[.int .i64 m1, .int .i64 e1, .int .i64 m2, .int .i64 e2] 36 (0, 0)); (try clear hc1); (try clear hc2); (try clear hc3); (try clear hc4); (try clear hc5); (try clear hc6); (try replace hb := drewB hb); (try replace HX1 := Lib.hid (blk_keep HX1.out hb)); (try replace HX2 := Lib.hid (blk_keep HX2.out hb)); (try replace HX3 := Lib.hid (blk_keep HX3.out hb)); (try replace HX4 := Lib.hid (blk_keep HX4.out hb)); (try replace HX5 := Lib.hid (blk_keep HX5.out hb)); (try replace HX6 := Lib.hid (blk_keep HX6.out hb)); (try replace HBl := Lib.hid (HBl.out.trans (hb.mono HBl.out.size))); (try replace HO := Lib.hid (HO.out.below hb)); (try replace HC := Lib.hid (HC.out.trans (hb.mono HC.out.size))); replace HB := Lib.hid (HB.out.trans (hb.mono HB.out.size)); clear hb; have HX5 := Lib.hid x4; clear x4; generalize World.alloc w10 (.cells #[.int .i64 m1, .int .i64 e1, .int .i64 m2, .int .i64 e2] 36 (0, 0)) = W10 at *; generalize World.heap w10 = x10 at *; (try have hc1 := box_cells HX1.out); (try have hc2 := box_cells HX2.out); (try have hc3 := box_cells HX3.out); (try have hc4 := box_cells HX4.out); (try have hc5 := box_cells HX5.out); (try have hc6 := box_cells HX6.out)
      clear HF1 HF2 HTv HR
      by_cases he1 : fx = 0
      · by_cases he2 : fy = 0
        · subst he1 he2
          obtain ⟨g1, g2⟩ := HTw.out ⟨n1, d1⟩ ⟨n2, d2⟩ ⟨m1, e1⟩ ⟨m2, e2⟩ rfl rfl
          have HM1 := Lib.hid (fun V => g1 ▸ RatMul_any ⟨n1, d1⟩ ⟨2, 1⟩ V)
          have HM2 := Lib.hid (fun V => g2 ▸ RatMul_any ⟨n2, d2⟩ ⟨2, 1⟩ V)
          clear g1 g2 HTw
          dsimp only at HM1 HM2
          have heq1 := fun W => show (binOp .eql 32 (.agg #[.int .i64 m1, .int .i64 e1]) (.agg #[.int .i64 m1, .int .i64 e1])).run Tryz.prog W = .ok (.bool true) W from by rw [eql_rt]; simp
          have heq2 := fun W => show (binOp .eql 32 (.agg #[.int .i64 m2, .int .i64 e2]) (.agg #[.int .i64 m2, .int .i64 e2])).run Tryz.prog W = .ok (.bool true) W from by rw [eql_rt]; simp
          go_upto_region 23 with (go_at_call 27; refine (HM1.out _).mono ?_; rintro e w11 ⟨rfl, hb⟩; (try clear hc1); (try clear hc2); (try clear hc3); (try clear hc4); (try clear hc5); (try clear hc6); (try replace hb := drewB hb); (try replace HX1 := Lib.hid (blk_keep HX1.out hb)); (try replace HX2 := Lib.hid (blk_keep HX2.out hb)); (try replace HX3 := Lib.hid (blk_keep HX3.out hb)); (try replace HX4 := Lib.hid (blk_keep HX4.out hb)); (try replace HX5 := Lib.hid (blk_keep HX5.out hb)); (try replace HX6 := Lib.hid (blk_keep HX6.out hb)); (try replace HBl := Lib.hid (HBl.out.trans (hb.mono HBl.out.size))); (try replace HO := Lib.hid (HO.out.below hb)); (try replace HC := Lib.hid (HC.out.trans (hb.mono HC.out.size))); replace HB := Lib.hid (HB.out.trans (hb.mono HB.out.size)); clear hb; (try have hc1 := box_cells HX1.out); (try have hc2 := box_cells HX2.out); (try have hc3 := box_cells HX3.out); (try have hc4 := box_cells HX4.out); (try have hc5 := box_cells HX5.out); (try have hc6 := box_cells HX6.out))
          have x4 := heap_alloc_new w11 (.cells #[.int .i64 m1, .int .i64 e1] 32 (0, 0)); have hb := (Below.refl (w11).heap.size w11).alloc (Nat.le_refl _) (.cells #[.int .i64 m1, .int .i64 e1] 32 (0, 0)); (try clear hc1); (try clear hc2); (try clear hc3); (try clear hc4); (try clear hc5); (try clear hc6); (try replace hb := drewB hb); (try replace HX1 := Lib.hid (blk_keep HX1.out hb)); (try replace HX2 := Lib.hid (blk_keep HX2.out hb)); (try replace HX3 := Lib.hid (blk_keep HX3.out hb)); (try replace HX4 := Lib.hid (blk_keep HX4.out hb)); (try replace HX5 := Lib.hid (blk_keep HX5.out hb)); (try replace HX6 := Lib.hid (blk_keep HX6.out hb)); (try replace HBl := Lib.hid (HBl.out.trans (hb.mono HBl.out.size))); (try replace HO := Lib.hid (HO.out.below hb)); (try replace HC := Lib.hid (HC.out.trans (hb.mono HC.out.size))); replace HB := Lib.hid (HB.out.trans (hb.mono HB.out.size)); clear hb; have HX6 := Lib.hid x4; clear x4; generalize World.alloc w11 (.cells #[.int .i64 m1, .int .i64 e1] 32 (0, 0)) = W11 at *; generalize World.heap w11 = x11 at *; (try have hc1 := box_cells HX1.out); (try have hc2 := box_cells HX2.out); (try have hc3 := box_cells HX3.out); (try have hc4 := box_cells HX4.out); (try have hc5 := box_cells HX5.out); (try have hc6 := box_cells HX6.out)
          go_upto_region 24 with (go_at_call 27; refine (HM2.out _).mono ?_; rintro e w12 ⟨rfl, hb⟩; (try clear hc1); (try clear hc2); (try clear hc3); (try clear hc4); (try clear hc5); (try clear hc6); (try replace hb := drewB hb); (try replace HX1 := Lib.hid (blk_keep HX1.out hb)); (try replace HX2 := Lib.hid (blk_keep HX2.out hb)); (try replace HX3 := Lib.hid (blk_keep HX3.out hb)); (try replace HX4 := Lib.hid (blk_keep HX4.out hb)); (try replace HX5 := Lib.hid (blk_keep HX5.out hb)); (try replace HX6 := Lib.hid (blk_keep HX6.out hb)); (try replace HBl := Lib.hid (HBl.out.trans (hb.mono HBl.out.size))); (try replace HO := Lib.hid (HO.out.below hb)); (try replace HC := Lib.hid (HC.out.trans (hb.mono HC.out.size))); replace HB := Lib.hid (HB.out.trans (hb.mono HB.out.size)); clear hb; (try have hc1 := box_cells HX1.out); (try have hc2 := box_cells HX2.out); (try have hc3 := box_cells HX3.out); (try have hc4 := box_cells HX4.out); (try have hc5 := box_cells HX5.out); (try have hc6 := box_cells HX6.out))
          have hb := (Below.refl w12.heap.size w12).alloc (Nat.le_refl _) (.cells #[.int .i64 m2, .int .i64 e2] 32 (0, 0))
          clear hb
          have x4 := heap_alloc_new w12 (.cells #[.int .i64 m2, .int .i64 e2] 32 (0, 0)); have hb := (Below.refl (w12).heap.size w12).alloc (Nat.le_refl _) (.cells #[.int .i64 m2, .int .i64 e2] 32 (0, 0)); (try clear hc1); (try clear hc2); (try clear hc3); (try clear hc4); (try clear hc5); (try clear hc6); (try replace hb := drewB hb); (try replace HX1 := Lib.hid (blk_keep HX1.out hb)); (try replace HX2 := Lib.hid (blk_keep HX2.out hb)); (try replace HX3 := Lib.hid (blk_keep HX3.out hb)); (try replace HX4 := Lib.hid (blk_keep HX4.out hb)); (try replace HX5 := Lib.hid (blk_keep HX5.out hb)); (try replace HX6 := Lib.hid (blk_keep HX6.out hb)); (try replace HBl := Lib.hid (HBl.out.trans (hb.mono HBl.out.size))); (try replace HO := Lib.hid (HO.out.below hb)); (try replace HC := Lib.hid (HC.out.trans (hb.mono HC.out.size))); replace HB := Lib.hid (HB.out.trans (hb.mono HB.out.size)); clear hb; have HX7 := Lib.hid x4; clear x4; generalize World.alloc w12 (.cells #[.int .i64 m2, .int .i64 e2] 32 (0, 0)) = W12 at *; generalize World.heap w12 = x12 at *; (try have hc1 := box_cells HX1.out); (try have hc2 := box_cells HX2.out); (try have hc3 := box_cells HX3.out); (try have hc4 := box_cells HX4.out); (try have hc5 := box_cells HX5.out); (try have hc6 := box_cells HX6.out)
          have hc7 := box_cells HX7.out
          go_wp2
          go_ret
          exact ⟨rfl, HB.out⟩
        · obtain rfl : fy = 3 := by omega
          subst he1
          go_wp2
          go_ret
          exact ⟨rfl, HB.out⟩
      · obtain rfl : fx = 3 := by omega
        rcases hy3 with rfl | rfl
        all_goals
          go_wp2
          go_ret
          exact ⟨rfl, HB.out⟩
end Go.Proofs.YtcelciomhngajaaGreatDoor

