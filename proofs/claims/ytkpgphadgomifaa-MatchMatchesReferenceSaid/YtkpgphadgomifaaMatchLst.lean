/- The reference's least cost (least): walked; -1 exactly if there is no matching. For costs that are well-formed. -/
import Derived.Test.YtkpgphadgomifaaMatchWays
import Derived.Test.YtkpgphadgomifaaMatchMatched
namespace Go.Proofs.Ytkpgphadgomifaa
set_option linter.unusedSimpArgs false
set_option linter.unusedVariables false
open Go.RowKit Go.Sort Go.Shelf

/-- The least cost of a matching, or -1. -/
def LeastSays (c : List (List Int)) (L : Int) : Prop :=
  (L = -1 ∧ ¬ Mtd (may (cc c)) (fun i => i < c.length) (wideL c)) ∨ (0 ≤ L ∧ (∃ f, Mt (may (cc c)) (fun i => i < c.length) (wideL c) f ∧ costOf (cc c) c.length f = L) ∧ ∀ g, Mt (may (cc c)) (fun i => i < c.length) (wideL c) g → L ≤ costOf (cc c) c.length g)
theorem least_of {c : List (List Int)} {V : Int} {u v ow : Nat → Int} (p : Pot (cc c) (wideL c) c.length V u v ow) (h0 : 0 ≤ priceOf (wideL c) c.length u v) : LeastSays c (priceOf (wideL c) c.length u v) := by
  obtain ⟨hf, f, ht⟩ := pot_fair p
  exact .inr ⟨h0, ⟨f, ht.mt, tight_eq hf ht⟩, fun g hg => (fair_le hf hg).1⟩
/-- The best column so far, or -1. -/
def BestTo (n : Nat) (ow d f : Nat → Int) (k : Nat) (x : Int) : Prop :=
  (x = -1 ∧ ∀ j, j < k → ow j = -1 → f j < 0) ∨ ∃ k0 : Nat, k0 < n ∧ x = (k0 : Int) ∧ ow k0 = -1 ∧ 0 ≤ f k0 ∧ ∀ j, j < k → ow j = -1 → 0 ≤ f j → d k0 ≤ d j
theorem BestTo.skip {n : Nat} {ow d f : Nat → Int} {k : Nat} {x : Int} (b : BestTo n ow d f k x) (h : ow k ≠ -1 ∨ f k < 0 ∨ ∃ k0 : Nat, x = (k0 : Int) ∧ d k0 ≤ d k) : BestTo n ow d f (k + 1) x := by
  rcases b with ⟨e, a⟩ | ⟨k0, h1, rfl, h2, h3, a⟩
  · refine .inl ⟨e, fun j hj ho => ?_⟩
    by_cases q : j = k
    · subst q
      rcases h with h | h | ⟨k0, h, _⟩
      · exact absurd ho h
      · exact h
      · omega
    · exact a j (by omega) ho
  · refine .inr ⟨k0, h1, rfl, h2, h3, fun j hj ho hf => ?_⟩
    by_cases q : j = k
    · subst q
      rcases h with h | h | ⟨k1, h, h4⟩
      · exact absurd ho h
      · omega
      · have : k1 = k0 := by omega
        subst this; exact h4
    · exact a j (by omega) ho hf
theorem BestTo.take {n : Nat} {ow d f : Nat → Int} {k : Nat} {x : Int} (b : BestTo n ow d f k x) (hk : k < n) (ho : ow k = -1) (hf : 0 ≤ f k) (h : x = -1 ∨ ∃ k0 : Nat, x = (k0 : Int) ∧ d k ≤ d k0) : BestTo n ow d f (k + 1) (k : Int) := by
  refine .inr ⟨k, hk, rfl, ho, hf, fun j hj ho2 hf2 => ?_⟩
  by_cases q : j = k
  · subst q; exact Int.le_refl _
  · rcases b with ⟨e, a⟩ | ⟨k0, h1, rfl, h2, h3, a⟩
    · have := a j (by omega) ho2; omega
    · rcases h with h | ⟨k1, h, h4⟩
      · omega
      · have : k1 = k0 := by omega
        subst this
        have := a j (by omega) ho2 hf2; omega
theorem RowD.ne {w : World} {b g n m : Nat} {d f o : Nat → Int} (r : RowD w b n d f) (s : RowC w g m o) : b ≠ g := by
  rintro rfl
  obtain ⟨arr, h1, _⟩ := r
  obtain ⟨arr', h2, _⟩ := s
  rw [h1] at h2
  simp at h2
theorem RowD.other {w : World} {b n c k : Nat} {d f : Nat → Int} (r : RowD w b n d f) (hne : b ≠ c) (v : Value) : RowD (w.setCell ⟨c, k, none⟩ v) b n d f :=
  r.of_eq (heap_setCell_other _ _ _ _ (show _ ≠ _ by simpa using hne))
/-- On the way back: the column k is the row's that gave it up. -/
structure Back (C : Nat → Nat → Int) (n r : Nat) (u' v' ow : Nat → Int) (ord : List Nat) (k0 k : Nat) (pre : List Nat) (o : Nat → Int) : Prop where
  aug : Aug C n r u' v' ow ord k0 k pre o
  own : o k = ow k
theorem Back.held {C : Nat → Nat → Int} {n r : Nat} {V : Int} {u v u' v' ow dist frm o : Nat → Int} {ord pre : List Nat} {k0 k k' : Nat} (p : Pot C n r V u v ow) (F : Fin C n r u v ow dist frm ord k0) (b : Back C n r u' v' ow ord k0 k pre o) (hk' : k' < n) (hp : k' ∈ pre)
    (h0 : 0 ≤ ow k') (he : o k' = ow k') {x : Nat} (hx : x < n) (e : o x = ow k') : x = k' := by
  obtain ⟨_, hne, _⟩ := b.aug.par F
  have hkk := (hne k' hp).2
  obtain ⟨i, e1, _⟩ := p.row hk' h0
  by_cases q : x = k
  · subst q
    rw [b.own] at e
    exact (hkk (p.own.inj k' x i hk' hx trivial trivial e1 (by omega))).elim
  · exact b.aug.own.inj x k' i hx hk' trivial trivial (by rw [upd_ne _ _ q]; omega) (by rw [upd_ne _ _ hkk]; omega)
def LeastPost (c : List (List Int)) (w : World) (e : Ending) (w' : World) : Prop := ∃ L : Int, e = .returned (.int .i64 L) ∧ LeastSays c L ∧ Below w.heap.size w w'
theorem OwnC.set {w : World} {g n : Nat} {ow : Nat → Int} (o : OwnC w (some ⟨g, 0, none⟩) n ow) {k : Nat} (hk : k < n) (x : Int) : OwnC (w.setCell ⟨g, k, none⟩ (.int .i64 x)) (some ⟨g, 0, none⟩) n (upd ow k x) := fun j hj => by
  obtain ⟨b, e, r⟩ := o k hk
  cases e
  exact ⟨g, rfl, r.set hk x⟩
set_option maxRecDepth 100000 in
set_option maxHeartbeats 8000000 in
theorem Rleast_any (a : Option Addr) (cap : Nat) (c : List (List Int)) (w : World) (he : formE c = 0) (hm : MatAt w a c) :
    Calls Try.prog 26 #[.slice a c.length cap] w (LeastPost c w) := by
  have HE := Lib.hid he
  obtain ⟨h200, hw200, hf, hf4⟩ := formE_ok he
  have HC := Lib.hid (cc_le hf hf4)
  have HM := Lib.hid hm
  clear hm hf hf4 he
  go_enter Try.func26, Try.ntmps26
  go_wp2
  go_loopw [3, 4] (fun s3 s4 wr => ∃ k : Nat, k ≤ wideL c ∧ s4 = .int .i64 k ∧ OwnR wr w.heap.size 3 1 s3 (((List.range k).map fun _ => (-1 : Int)).map inRow) ∧ Below w.heap.size w wr) (fun _ i _ => wideL c - (intOf i).toNat)
  case atStart => exact ⟨0, Nat.zero_le _, rfl, OwnR.nil _ _ _ _, Below.refl _ _⟩
  case round =>
    obtain ⟨k, hk, rfl, ho, hb⟩ := hrel
    have HO := Lib.hid ho; have HB := Lib.hid hb
    clear ho hb
    go_wp2_with (fail)
    refine (Rcols_any a cap c _ (by omega) (HM.out.below HB.out)).mono ?_
    rintro e w1 ⟨rfl, rfl⟩
    by_cases hlt : k < wideL c
    · go_wp2_with (at_builtin; refine appE eltInt rfl (.tmp 19) (.tmp 20) rfl w.heap.size _ ((List.range k).map fun _ => (-1 : Int)) rfl (HO.out.below ((Below.refl _ _).alloc (Nat.le_refl _) _)) _ _ _ [(-1 : Int)] rfl rfl (fun e => by cases e) (eltInt.new _ _ _ _ rfl) (by simp; omega) (by have := HB.out.size; simp; omega) ?_; intro v1 w2 ho1 hg1; have HO1 := Lib.hid ho1; have HB1 := Lib.hid (below_grown (HB.out.alloc HB.out.size _) (HO.out.below ((Below.refl _ _).alloc (Nat.le_refl _) _)) (by have := HB.out.size; simp; omega) hg1); clear ho1 hg1)
      refine ⟨⟨k + 1, by omega, by go_num, ?_, HB1.out⟩, by simp [intOf]; omega⟩
      have := HO1.out
      rw [List.map_append, show List.map inRow [(-1 : Int)] = [[.int .i64 (-1)]] from rfl, minus_ones] at this
      exact this
    · have hke : k = wideL c := by omega
      subst hke
      have hall : ∃ (ao : Option Addr) (capo : Nat), u3 = .slice ao (wideL c) capo ∧ OwnC wr ao (wideL c) (fun _ => -1) ∧ (0 < wideL c → ∀ b, ao = some ⟨b, 0, none⟩ → w.heap.size ≤ b) := by
        by_cases h0 : wideL c = 0
        · obtain ⟨a3, c3, e3, _, _⟩ := HO.out.slAt
          rw [List.length_map, minus_len] at e3
          exact ⟨a3, c3, e3, fun k hk => by omega, fun h => by omega⟩
        · obtain ⟨g, cg, e3, hg, hgc, hrow⟩ := RowC.of_own HO.out h0
          exact ⟨_, _, e3, fun k hk => ⟨g, rfl, hrow⟩, fun _ b e => by cases e; exact hg⟩
      obtain ⟨ao, capo, rfl, hoc, hgb⟩ := hall
      have HOC := Lib.hid hoc; have HG := Lib.hid hgb
      clear hoc hgb HO
      generalize hn : wideL c = n at *
      have HN := Lib.hid hn; clear hn
      go_wp2
      go_loopw [5, 6] (fun s5 s6 wr => ∃ (r : Nat) (u v ow : Nat → Int) (t : Int), r ≤ c.length ∧ s6 = .int .i64 r ∧ s5 = .int .i64 t ∧ OwnC wr ao n ow ∧ Pot (cc c) n r ((r : Int) * (n * 1000000)) u v ow ∧ t = priceOf n r u v ∧ (0 ≤ t ∧ t ≤ r * 200000000) ∧ Below w.heap.size w wr) (fun _ i _ => c.length - (intOf i).toNat)
      case atStart => exact ⟨0, _, _, _, 0, Nat.zero_le _, rfl, rfl, HOC.out, by simpa using Pot.start (cc c) n, by unfold priceOf; rw [sumN_zero (n := n) (fun _ _ => rfl)]; rfl, ⟨by omega, by omega⟩, HB.out⟩
      case round =>
        clear HB HOC
        obtain ⟨r, u, v, ow, t, hr, rfl, rfl, hoc, hp, ht, htb, hb⟩ := hrel
        have HB := Lib.hid hb; have HOC := Lib.hid hoc; have HP := Lib.hid hp; have HT := Lib.hid ht
        clear hb hoc hp ht
        by_cases hlt : r < c.length
        · go_wp2_with (fail)
          have hways := ways_any a ao cap capo c r u v ow _ _ HE.out hlt (HM.out.below HB.out) (by rw [HN.out]; exact HOC.out) (by rw [HN.out]; exact HP.out) (by
            have h1 : (r : Int) * (n * 1000000) ≤ 200 * (200 * 1000000) := by
              have : ((r * (n * 1000000) : Nat) : Int) ≤ ((200 * (200 * 1000000) : Nat) : Int) := by
                have := Nat.mul_le_mul (show r ≤ 200 by omega) (Nat.mul_le_mul_right 1000000 hw200)
                omega
              simpa using this
            omega)
          unfold WaysPost at hways
          rw [HN.out] at hways
          refine hways.mono ?_
          rintro e w1 ⟨b, d, f, rfl, hbw, hrw, hb, hy, hx⟩
          have HBW := Lib.hid hbw; have HR := Lib.hid hrw; have HY := Lib.hid hy; have HFX := Lib.hid hx
          have HOC1 := Lib.hid (HOC.out.below hb); have HB1 := Lib.hid (HB.out.trans (hb.mono HB.out.size))
          clear hbw hrw hb hy hx HOC HB hways
          go_wp2
          go_loopw [8, 9] (fun s8 s9 wr2 => ∃ (k : Nat) (x : Int), k ≤ n ∧ s9 = .int .i64 k ∧ s8 = .int .i64 x ∧ BestTo n ow d f k x ∧ OwnC wr2 ao n ow ∧ RowD wr2 b n d f ∧ Below w.heap.size w wr2) (fun _ i _ => n - (intOf i).toNat)
          case atStart => exact ⟨0, -1, Nat.zero_le _, rfl, rfl, .inl ⟨rfl, fun j hj => by omega⟩, HOC1.out, HR.out, HB1.out⟩
          case round =>
            clear HOC1 HR HB1
            obtain ⟨k, x, hk, rfl, rfl, hbt, hoc, hrw, hb⟩ := hrel
            have HBT := Lib.hid hbt; have HOC := Lib.hid hoc; have HR := Lib.hid hrw; have HB := Lib.hid hb
            clear hbt hoc hrw hb
            by_cases hlk : k < n
            · obtain ⟨g, rfl, ro⟩ := HOC.out k hlk
              have g0 := cell_regrown (ro.cell hlk)
              clear ro
              rcases HP.out.own.val k hlk trivial with hok | ⟨i, hok, hir, _⟩
              · rw [hok] at g0
                have HOK := Lib.hid hok; clear hok
                have g1 := cell_regrown (HR.out.cellF hlk); have g2 := cell_regrown (HR.out.cellD hlk)
                generalize hF : f k = F at *
                generalize hD : d k = D at *
                have HF := Lib.hid hF; have HD := Lib.hid hD
                clear hF hD
                by_cases hf0 : 0 ≤ F
                · have e1 : decide (0 ≤ F) = true := decide_eq_true hf0
                  rcases HBT.out with ⟨hx, _⟩ | ⟨k1, hk1, hx, _⟩
                  · subst hx
                    go_wp2
                    refine wp_quietB (by kernel_rfl) (by kernel_rfl) ?_; (repeat (go_big_quiet_step (fail))); refine wpQuiet_nil ?_; intro wq hq; replace HOC := Lib.hid (HOC.out.below hq); replace HR := Lib.hid (HR.out.below hq); replace HB := Lib.hid (HB.out.trans (hq.mono HB.out.size)); clear hq
                    clear g0 g1 g2
                    go_wp2
                    go_roundw
                    case rel => exact ⟨k + 1, (k : Int), by omega, by go_num, rfl, HBT.out.take hlk HOK.out (by rw [HF.out]; exact hf0) (.inl rfl), HOC.out, HR.out, HB.out⟩
                    case measure => simp [intOf]; omega
                  · subst hx
                    have g3 := cell_regrown (HR.out.cellD hk1)
                    generalize hD1 : d k1 = D1 at *
                    have HD1 := Lib.hid hD1; clear hD1
                    have e2 : decide ((k1 : Int) < 0) = false := by simp <;> omega
                    by_cases hlt2 : D < D1
                    · have e3 : decide (D < D1) = true := decide_eq_true hlt2
                      go_wp2
                      refine wp_quietB (by kernel_rfl) (by kernel_rfl) ?_; (repeat (go_big_quiet_step (fail))); refine wpQuiet_nil ?_; intro wq hq; replace HOC := Lib.hid (HOC.out.below hq); replace HR := Lib.hid (HR.out.below hq); replace HB := Lib.hid (HB.out.trans (hq.mono HB.out.size)); clear hq
                      clear g0 g1 g2 g3
                      go_wp2
                      go_roundw
                      case rel => exact ⟨k + 1, (k : Int), by omega, by go_num, rfl, HBT.out.take hlk HOK.out (by rw [HF.out]; exact hf0) (.inr ⟨k1, rfl, by rw [HD.out, HD1.out]; omega⟩), HOC.out, HR.out, HB.out⟩
                      case measure => simp [intOf]; omega
                    · have e3 : decide (D < D1) = false := decide_eq_false hlt2
                      go_wp2
                      refine wp_quietB (by kernel_rfl) (by kernel_rfl) ?_; (repeat (go_big_quiet_step (fail))); refine wpQuiet_nil ?_; intro wq hq; replace HOC := Lib.hid (HOC.out.below hq); replace HR := Lib.hid (HR.out.below hq); replace HB := Lib.hid (HB.out.trans (hq.mono HB.out.size)); clear hq
                      clear g0 g1 g2 g3
                      go_wp2
                      go_roundw
                      case rel => exact ⟨k + 1, (k1 : Int), by omega, by go_num, rfl, HBT.out.skip (.inr (.inr ⟨k1, rfl, by rw [HD.out, HD1.out]; omega⟩)), HOC.out, HR.out, HB.out⟩
                      case measure => simp [intOf]; omega
                · have e1 : decide (0 ≤ F) = false := decide_eq_false hf0
                  go_wp2
                  refine wp_quietB (by kernel_rfl) (by kernel_rfl) ?_; (repeat (go_big_quiet_step (fail))); refine wpQuiet_nil ?_; intro wq hq; replace HOC := Lib.hid (HOC.out.below hq); replace HR := Lib.hid (HR.out.below hq); replace HB := Lib.hid (HB.out.trans (hq.mono HB.out.size)); clear hq
                  clear g0 g1 g2
                  go_wp2
                  go_roundw
                  case rel => exact ⟨k + 1, x, by omega, by go_num, rfl, HBT.out.skip (.inr (.inl (by rw [HF.out]; omega))), HOC.out, HR.out, HB.out⟩
                  case measure => simp [intOf]; omega
              · rw [hok] at g0
                have HOK := Lib.hid hok; clear hok
                have hng : decide ((i : Int) < 0) = false := by simp <;> omega
                go_wp2
                refine wp_quietB (by kernel_rfl) (by kernel_rfl) ?_; (repeat (go_big_quiet_step (fail))); refine wpQuiet_nil ?_; intro wq hq; replace HOC := Lib.hid (HOC.out.below hq); replace HR := Lib.hid (HR.out.below hq); replace HB := Lib.hid (HB.out.trans (hq.mono HB.out.size)); clear hq
                clear g0
                go_wp2
                go_roundw
                case rel => exact ⟨k + 1, x, by omega, by go_num, rfl, HBT.out.skip (.inl (by rw [HOK.out]; omega)), HOC.out, HR.out, HB.out⟩
                case measure => simp [intOf]; omega
            · have hke : k = n := by omega
              subst hke
              have HCr := Lib.hid (fun i j (hi : i ≤ r) (hj : j < k) => (HC.out i j (by omega) hj).2)
              rcases HBT.out with ⟨rfl, hno⟩ | ⟨k0, hk0, rfl, hfree, hf0, hmin⟩
              · have HNO := Lib.hid (HY.out.none HP.out HFX.out HCr.out (by omega) hno (fun i => i < c.length) (fun i hi => by omega))
                go_wp2
                go_ret
                exact ⟨-1, rfl, .inl ⟨rfl, by rw [HN.out]; exact HNO.out⟩, HB.out⟩
              · obtain ⟨ord, frm, F, hfrm⟩ := HY.out.fin HP.out HFX.out HCr.out hk0 hfree hf0 hmin
                have hv0 := HP.out.free k0 hk0 hfree
                have hbase : (fun k => d k - v k) k0 = d k0 := by simp only [hv0]; omega
                obtain ⟨u', v', q, hprice⟩ := new_prices HP.out (dist := fun k => d k - v k) (base := d k0 - v k0) F.nod F.lt
                have HFi := Lib.hid F; have HFR := Lib.hid hfrm; have HQ := Lib.hid q; have HPR := Lib.hid hprice
                have b1 := F.bnd; have b2 := F.pos
                simp only [hbase] at b1 b2
                have g2 := HR.out.cellD hk0
                obtain ⟨g, rfl, ro⟩ := HOC.out k0 hk0
                have HRO := Lib.hid ro
                have hgw := HG.out (by omega) g rfl
                clear ro
                clear F hfrm q hprice hmin hf0 hfree HBT
                go_wp2
                go_loopg [10] (ord.length + 2) (fun gh s10 W => ∃ (kk : Int) (o : Nat → Int), s10 = .int .i64 kk ∧ RowC W g k o ∧ RowD W b k d f ∧ Below w.heap.size w W ∧ ((∃ (k' : Nat) (pre : List Nat), kk = (k' : Int) ∧ gh = pre.length + 2 ∧ Back (cc c) k r u' v' ow ord k0 k' pre o) ∨ (kk = -1 ∧ gh = 1 ∧ Pot (cc c) k (r + 1) (((r + 1 : Nat) : Int) * (k * 1000000)) u' v' o)))
                case atStart => exact ⟨k0, ow, rfl, HRO.out, HR.out, HB.out, .inl ⟨k0, ord, rfl, rfl, Aug.start HP.out HFi.out HQ.out, rfl⟩⟩
                case round =>
                  clear HRO HR HB HOC
                  obtain ⟨kk, o, rfl, hro, hrw, hb, h⟩ := hrel
                  have HRO := Lib.hid hro; have HR := Lib.hid hrw; have HB := Lib.hid hb
                  have HNE := Lib.hid (hrw.ne hro)
                  clear hro hrw hb
                  rcases h with ⟨k', pre, rfl, hg, A⟩ | ⟨rfl, hg, P⟩
                  · have HA := Lib.hid A; have HGH := Lib.hid hg
                    have hkn := A.aug.hk
                    have hin : k' ∈ ord ∨ k' = k0 := by
                      rcases A.aug.at_ with ⟨e, _⟩ | ⟨post, e⟩
                      · exact .inr e
                      · exact .inl (by rw [e]; simp)
                    have g0 := HR.out.cellF hkn
                    have g1 := HRO.out.cell hkn
                    have g3 := HRO.out.free k'
                    clear A hg
                    rcases HFR.out k' hin with ⟨hf1, hf2⟩ | ⟨k2, hk2, h02, hf1, hf2⟩
                    · rw [hf1] at g0
                      have HF2 := Lib.hid hf2
                      clear hf1 hf2
                      have hrr : ((r : Int) == (r : Int)) = true := by simp
                      go_wp2_with (fail)
                      refine (held_any g k capo o r _ hw200 HRO.out).mono ?_
                      rintro e w2 ⟨x, rfl, _, rfl⟩
                      go_wp2
                      go_roundg 1
                      case measure => have := HGH.out; omega
                      case rel => exact ⟨-1, upd o k' (r : Int), rfl, HRO.out.set hkn _, HR.out.other HNE.out _, below_set HB.out hgw _, .inr ⟨rfl, rfl, by
                        have := HA.out.aug.last HP.out HFi.out HQ.out (by rw [HF2.out]; decide)
                        rw [show (((r + 1 : Nat) : Int) * ((k : Int) * 1000000)) = (r : Int) * ((k : Int) * 1000000) + (k : Int) * 1000000 by rw [Int.natCast_add, Int.add_mul]; simp]
                        exact this⟩⟩
                    · obtain ⟨pre', s1, s2, s3, s4, s5, A2⟩ := HA.out.aug.step HP.out HFi.out HQ.out hf2
                      obtain ⟨i, hi, hir, _⟩ := HP.out.row hk2 h02
                      rw [hf1, hi] at g0
                      have HHI := Lib.hid hi; have HA2 := Lib.hid A2; have HS1 := Lib.hid s1; have HS5 := Lib.hid s5; have HS3 := Lib.hid s3
                      clear hi A2 s1 s5 s4 s3 hf1 hf2 s2
                      have hrr : ((i : Int) == (r : Int)) = false := by simp; omega
                      go_wp2_with (fail)
                      refine (held_any g k capo o i _ hw200 HRO.out).mono ?_
                      rintro e w2 ⟨x, rfl, hx, rfl⟩
                      have hxk : x = (k2 : Int) := by
                        rcases hx with ⟨_, hx⟩ | ⟨x', hx', rfl, hx⟩
                        · exact absurd (by rw [HS5.out]; exact HHI.out) (hx k2 hk2)
                        · rw [HA.out.held HP.out HFi.out hk2 HS3.out h02 HS5.out hx' (by rw [hx, HHI.out])]
                      subst hxk
                      clear hx
                      go_wp2
                      go_roundg (pre'.length + 2)
                      case measure => have := HGH.out; have := HS1.out; omega
                      case rel => exact ⟨k2, upd o k' (i : Int), rfl, HRO.out.set hkn _, HR.out.other HNE.out _, below_set HB.out hgw _, .inl ⟨k2, pre', rfl, rfl, ⟨by
                        have := HA2.out
                        rw [HS5.out, HHI.out] at this
                        exact this, by
                        have hne := ((HA.out.aug.par HFi.out).2.1 k2 HS3.out).2
                        rw [upd_ne _ _ hne]; exact HS5.out⟩⟩⟩
                  · have HPP := Lib.hid P; clear P hg
                    go_wp2
                    go_roundw
                    case rel => exact ⟨r + 1, u', v', o, t + d k0, by omega, by go_num, rfl, fun j hj => ⟨g, rfl, HRO.out⟩, HPP.out, by have := HPR.out; have := HT.out; omega, ⟨by omega, by
                      have : ((r + 1 : Nat) : Int) * 200000000 = (r : Int) * 200000000 + 200000000 := by rw [Int.natCast_add, Int.add_mul]; simp
                      omega⟩, HB.out⟩
                    case measure => simp [intOf]; omega
        · have hre : r = c.length := by omega
          subst hre
          have HL := Lib.hid (least_of (V := (c.length : Int) * ((wideL c : Nat) * 1000000)) (by rw [HN.out]; exact HP.out) (by rw [HN.out, ← HT.out]; exact htb.1))
          go_wp2
          go_ret
          exact ⟨t, rfl, by rw [HT.out, ← HN.out]; exact HL.out, HB.out⟩
end Go.Proofs.Ytkpgphadgomifaa
