/- The fifth law on loans (LoanApart): the walk. -/
import Derived.Test.YtokhligpjbdhcaaLoanSwap
import Derived.RegionTactic
import Derived.Deep.MidRow
import Derived.ChangeAlike
import Derived.IntWalk
namespace Go.Proofs.Ytokhligpjbdhcaa
set_option linter.unusedSimpArgs false
set_option linter.unusedVariables false
open Go.RowKit Go.Sort



set_option maxRecDepth 100000 in
set_option maxHeartbeats 4000000 in
theorem law5_good (a : Option Addr) (n cap : Nat) (l : List Lo) (sheet time which : Int) (w : World) (t ra rc : Int) (ris : Bool) (M : List Lo) (HU : Hid (∀ w, LoAt w a l → Calls Try.prog 22 #[.slice a n cap] w fun e w' => e = .returned (.bool true) ∧ Below w.heap.size w w')) (HW : Hid (∀ w, Calls Try.prog 24 #[.int .u32 time] w fun e w' => e = .returned (.int .i64 t) ∧ w = w')) (hsh : inB sheet 1 1000000 = true) (HN : Hid (n = l.length)) (hn60 : n ≤ 60) (HM0 : Hid (l.filter (fun x => x.s == sheet) = M)) (Q1 : Hid (∀ w, LoAt w a l → Calls Try.prog 15 #[.slice a n cap, .int .i64 sheet, .int .i64 t] w fun e w' => e = .returned (.tuple #[.int .i64 ra, .bool ris, .int .i64 0]) ∧ Below w.heap.size w w')) (Q2 : Hid (∀ a1 c1, (∀ w, LoAt w a1 M → Calls Try.prog 15 #[.slice a1 M.length c1, .int .i64 sheet, .int .i64 t] w fun e w' => e = .returned (.tuple #[.int .i64 ra, .bool ris, .int .i64 0]) ∧ Below w.heap.size w w'))) (Q5 : Hid (∀ w, LoAt w a l → Calls Try.prog 20 #[.slice a n cap, .int .i64 sheet, .int .i64 t] w fun e w' => e = .returned (.tuple #[.int .i64 rc, .int .i64 0]) ∧ Below w.heap.size w w')) (Q6 : Hid (∀ a1 c1, (∀ w, LoAt w a1 M → Calls Try.prog 20 #[.slice a1 M.length c1, .int .i64 sheet, .int .i64 t] w fun e w' => e = .returned (.tuple #[.int .i64 rc, .int .i64 0]) ∧ Below w.heap.size w w'))) (hr : LoAt w a l) (HS : Hid (SlOk a n cap)) (kk : Nat) (hn2 : 2 ≤ n) (hk1 : which % ((n : Int) - 1) = (kk : Int)) (hk2 : kk + 1 < n) (hw0 : 0 ≤ which) (hw1 : which ≤ 255)
    (Q7 : Hid (∀ (hk : kk + 1 < l.length), (l[kk + 1].s == l[kk].s) = false → (l[kk + 1].t != l[kk].t) = false → ∀ a1 c1, (∀ w, LoAt w a1 ((l.set kk l[kk + 1]).set (kk + 1) l[kk]) → Calls Try.prog 15 #[.slice a1 l.length c1, .int .i64 sheet, .int .i64 t] w fun e w' => e = .returned (.tuple #[.int .i64 ra, .bool ris, .int .i64 0]) ∧ Below w.heap.size w w')))
    (Q8 : Hid (∀ (hk : kk + 1 < l.length), (l[kk + 1].s == l[kk].s) = false → (l[kk + 1].t != l[kk].t) = false → ∀ a1 c1, (∀ w, LoAt w a1 ((l.set kk l[kk + 1]).set (kk + 1) l[kk]) → Calls Try.prog 20 #[.slice a1 l.length c1, .int .i64 sheet, .int .i64 t] w fun e w' => e = .returned (.tuple #[.int .i64 rc, .int .i64 0]) ∧ Below w.heap.size w w'))) : Calls Try.prog 7 #[.slice a n cap, .int .i64 sheet, .int .u32 time, .int .u8 which] w fun e w' => e = .returned (.bool true) ∧ Below w.heap.size w w' := by
  go_enter Try.func7, Try.ntmps7; go_wp2_with (first | (go_at_call 8; refine (head_any _).mono ?_; rintro e w1 ⟨rfl, hb⟩; have HB := Lib.hid hb; have HR := Lib.hid (hr.below hb); have HR0 := Lib.hid hr; clear hb hr) | (go_at_call 22; refine (HU.out _ HR.out).mono ?_; rintro e w2 ⟨rfl, hb⟩; replace HB := Lib.hid (HB.out.trans (hb.mono HB.out.size)); replace HR := Lib.hid (HR.out.below hb); (try replace HM := Lib.hid (SlAt.below HM.out hb)); (try replace HA := Lib.hid (SlAt.below HA.out hb)); clear hb) | (go_at_call 23; refine (ID_any _ _).mono ?_; rintro e w3 ⟨rfl, rfl⟩) | (go_at_call 24; refine (HW.out _).mono ?_; rintro e w3 ⟨rfl, rfl⟩))
  go_loopw [11, 40] (fun v i wr => ∃ (k : Nat), k ≤ n ∧ i = .int .i64 k ∧ OwnR wr w.heap.size 24 5 v (((l.take k).filter (fun x => x.s == sheet)).map Lo.cells) ∧ Below w.heap.size w wr) (fun _ i _ => n - (intOf i).toNat)
  case atStart => exact ⟨0, by omega, rfl, OwnR.nil _ _ _ _, HB.out⟩
  case round =>
    obtain ⟨k, hk, rfl, ho0, hb0⟩ := hrel
    clear HB HR
    have HB := Lib.hid hb0; have HO := Lib.hid ho0; clear hb0 ho0
    by_cases hlt : k < n
    · have hlt' : k < l.length := by have := HN.out; omega
      obtain ⟨b, off, rfl, c0, c1, c2, c3, c4⟩ := (HR0.out.below HB.out).get k hlt'
      obtain ⟨f1, f2⟩ := filt_step (fun x => x.s == sheet) l k hlt'
      have F1 := Lib.hid f1; have F2 := Lib.hid f2; clear f1 f2
      have hlen : ((l.take k).filter (fun x => x.s == sheet)).length ≤ 60 := Nat.le_trans (List.length_filter_le _ _) (by rw [List.length_take]; omega)
      have HL := Lib.hid hlen; clear hlen
      cases hd : l[k].s == sheet
      · go_wp2
        exact ⟨⟨k + 1, by omega, by go_num, by rw [F2.out hd]; exact HO.out.below ((Below.refl _ _).alloc (Nat.le_refl _) _), HB.out.alloc HB.out.size _⟩, by simp [intOf]; omega⟩
      · have hb2 : ∀ o1 o2, Below wr.heap.size wr ((wr.alloc o1).alloc o2) := fun o1 o2 => ((Below.refl _ _).alloc (Nat.le_refl _) _).alloc (by simp) _
        have HB2 := Lib.hid hb2; clear hb2
        go_wp2_with (at_builtin; go_must (refine appE eltLoan rfl (.tmp 48) (.tmp 50) rfl w.heap.size _ _ rfl (HO.out.below (HB2.out _ _)) _ _ _ [l[k]] rfl rfl (fun e => by cases e) (eltLoan.new2 _ _ _ _ _ rfl) (by have := HL.out; simp; omega) (by have := HB.out.size; simp; omega) ?_); intro v5 w5 ho5 hg5)
        have HB3 := Lib.hid (below_grown (HB.out.trans ((HB2.out _ _).mono HB.out.size)) (HO.out.below (HB2.out _ _)) (by have := HB.out.size; simp; omega) hg5)
        exact ⟨⟨k + 1, by omega, by go_num, by rw [F1.out hd]; exact ho5, HB3.out⟩, by simp [intOf]; omega⟩
    · obtain rfl : k = n := by omega
      have hk2 : l.take k = l := List.take_of_length_le (by have := HN.out; omega)
      rw [hk2, HM0.out] at HO
      obtain ⟨a1, c1, rfl, _, hm⟩ := HO.out.slAt
      have HM := Lib.hid (show LoAt wr a1 M from hm); have HR := Lib.hid (HR0.out.below HB.out)
      clear HO hm hlt hk2
      go_wp2_with (fail)
      refine (Q1.out _ HR.out).mono ?_; rintro e w4 ⟨rfl, hb⟩; replace HB := Lib.hid (HB.out.trans (hb.mono HB.out.size)); replace HR := Lib.hid (HR.out.below hb); (try replace HM := Lib.hid (SlAt.below HM.out hb)); (try replace HA := Lib.hid (SlAt.below HA.out hb)); clear hb
      go_wp2_with (fail)
      refine (Q2.out _ _ _ HM.out).mono ?_; rintro e w5 ⟨rfl, hb⟩; replace HB := Lib.hid (HB.out.trans (hb.mono HB.out.size)); replace HR := Lib.hid (HR.out.below hb); (try replace HM := Lib.hid (SlAt.below HM.out hb)); (try replace HA := Lib.hid (SlAt.below HA.out hb)); clear hb
      go_wp2_with (fail)
      refine (Q5.out _ HR.out).mono ?_; rintro e w8 ⟨rfl, hb⟩; replace HB := Lib.hid (HB.out.trans (hb.mono HB.out.size)); replace HR := Lib.hid (HR.out.below hb); (try replace HM := Lib.hid (SlAt.below HM.out hb)); (try replace HA := Lib.hid (SlAt.below HA.out hb)); clear hb
      go_wp2_with (fail)
      refine (Q6.out _ _ _ HM.out).mono ?_; rintro e w9 ⟨rfl, hb⟩; replace HB := Lib.hid (HB.out.trans (hb.mono HB.out.size)); replace HR := Lib.hid (HR.out.below hb); (try replace HM := Lib.hid (SlAt.below HM.out hb)); (try replace HA := Lib.hid (SlAt.below HA.out hb)); clear hb
      go_wp2_with (at_builtin; go_must (refine appE eltLoan rfl (.tmp 123) (.tmp 124) rfl w.heap.size _ [] rfl (OwnR.made _ _ _ _ HB.out.size) _ _ _ l rfl HN.out HS.out.none (HR.out.alloc _) (by have := HN.out; simp; omega) (by have := HB.out.size; simp; omega) ?_); intro v2 w10 ho2 hg2)
      have HB2 := Lib.hid (below_grown (HB.out.alloc HB.out.size _) (OwnR.made _ w.heap.size 24 5 HB.out.size) (by have := HB.out.size; simp; omega) hg2); clear HB hg2
      rw [List.nil_append] at ho2
      have HO := Lib.hid ho2; clear ho2
      have hkl : kk + 1 < l.length := by have := HN.out; omega
      obtain ⟨hww, hlw, h2⟩ := HO.out
      obtain ⟨a3, cp3, e3, _, hL⟩ := HO.out.slAt
      rw [List.length_map] at h2 e3
      rcases h2 with ⟨_, h2⟩ | ⟨g, cp, cur, rfl, hB, hc, hle, hmx, hsz, htk⟩
      · exfalso; omega
      cases e3
      have hfz := box_free hc
      have hfd : ∀ j, w10.drew.frozen? ⟨g, j, none⟩ = false := fun j => hfz j
      have hLd : LoAt w10.drew (some ⟨g, 0, none⟩) l := SlAt.drew hL
      have hi5 : (Try.prog.info? 24).map (·.size) = some 5 := by kernel_rfl
      have r0 := hLd.range kk (by omega)
      have r1 := hLd.range (kk + 1) hkl
      have hi5 : (Try.prog.info? 24).map (·.size) = some 5 := by kernel_rfl
      have HW2 := Lib.hid (LoAt.swap kk hkl hLd hfd)
      have HBW := Lib.hid (below_cells (B := w.heap.size) g hB l[kk].cells ((kk + 1) * 5) (below_cells g hB l[kk + 1].cells (kk * 5) HB2.out.drew))
      have HR1 := Lib.hid r1; have HR0' := Lib.hid r0; have HI5 := Lib.hid hi5
      have HT0 := Lib.hid (rangeAt.there r0 hfd); have HT1 := Lib.hid (rangeAt.there r1 hfd)
      clear r0 r1 hLd hfz hc htk hmx hsz hww hlw hi5 hle HO hL hfd
      have hsub : (1 + (kk : Int) - 1) = (kk : Int) := by omega
      have hwr : IntKind.i64.wrap (kk : Int) = (kk : Int) := IntWalk.i64_in _ (by omega)
      have htn : (1 + (kk : Int)).toNat = kk + 1 := by omega
      have hi1 : (1 + (kk : Int)) < (l.length : Int) := by omega
      have hi0 : 0 ≤ 1 + (kk : Int) := by omega
      have hkl2 : kk < l.length := by omega
      go_wp2
      refine wp_region_any (by kernel_rfl) ?_
      change wpAny _ _ _ _ _ _ _ (World.drew _)
      ((refine wpAny_take1 0 (oi := ?_) (v := ?_) ?_ (by kernel_rfl) (by kernel_rfl) (by kernel_rfl) ?_ ?_ ?_; rotate_left 2; (· simp only [List.getElem?_toArray, List.getElem?_cons_succ, List.getElem?_cons_zero]; try rfl); (· refine ⟨by kernel_rfl, ?_⟩; intro wq; go_simp; first | done | with_reducible rfl); (· exact fun _ _ _ h => h); try simp only [Act.put, List.setIfInBounds_toArray, List.set_cons_zero, List.set_cons_succ]); (refine wpAny_take1 1 (oi := ?_) (v := ?_) ?_ (by kernel_rfl) (by kernel_rfl) (by kernel_rfl) ?_ ?_ ?_; rotate_left 2; (· simp only [List.getElem?_toArray, List.getElem?_cons_succ, List.getElem?_cons_zero]; try rfl); (· refine ⟨by kernel_rfl, ?_⟩; intro wq; go_simp; first | done | with_reducible rfl); (· exact fun _ _ _ h => h); try simp only [Act.put, List.setIfInBounds_toArray, List.set_cons_zero, List.set_cons_succ]); (refine wpAny_take1 2 (oi := ?_) (v := ?_) ?_ (by kernel_rfl) (by kernel_rfl) (by kernel_rfl) ?_ ?_ ?_; rotate_left 2; (· simp only [List.getElem?_toArray, List.getElem?_cons_succ, List.getElem?_cons_zero]; try rfl); (· refine ⟨by kernel_rfl, ?_⟩; intro wq; go_simp; first | done | with_reducible rfl); (· exact fun _ _ _ h => h); try simp only [Act.put, List.setIfInBounds_toArray, List.set_cons_zero, List.set_cons_succ]); (refine wpAny_take1 3 (oi := ?_) (v := ?_) ?_ (by kernel_rfl) (by kernel_rfl) (by kernel_rfl) ?_ ?_ ?_; rotate_left 2; (· simp only [List.getElem?_toArray, List.getElem?_cons_succ, List.getElem?_cons_zero]; try rfl); (· refine ⟨by kernel_rfl, ?_⟩; intro wq; go_simp; first | done | with_reducible rfl); (· exact fun _ _ _ h => h); try simp only [Act.put, List.setIfInBounds_toArray, List.set_cons_zero, List.set_cons_succ]); (refine wpAny_take1 4 (oi := ?_) (v := ?_) ?_ (by kernel_rfl) (by kernel_rfl) (by kernel_rfl) ?_ ?_ ?_; rotate_left 2; (· simp only [List.getElem?_toArray, List.getElem?_cons_succ, List.getElem?_cons_zero]; try rfl); (· refine ⟨by kernel_rfl, ?_⟩; intro wq; go_simp; first | done | with_reducible rfl); (· exact fun _ _ _ h => h); try simp only [Act.put, List.setIfInBounds_toArray, List.set_cons_zero, List.set_cons_succ]); (refine wpAny_take1 5 (oi := ?_) (v := ?_) ?_ (by kernel_rfl) (by kernel_rfl) (by kernel_rfl) ?_ ?_ ?_; rotate_left 2; (· simp only [List.getElem?_toArray, List.getElem?_cons_succ, List.getElem?_cons_zero]; try rfl); (· refine ⟨by kernel_rfl, ?_⟩; intro wq; go_simp; first | done | with_reducible rfl); (· exact fun _ _ _ h => h); try simp only [Act.put, List.setIfInBounds_toArray, List.set_cons_zero, List.set_cons_succ]); (refine wpAny_take1 6 (oi := ?_) (v := ?_) ?_ (by kernel_rfl) (by kernel_rfl) (by kernel_rfl) ?_ ?_ ?_; rotate_left 2; (· simp only [List.getElem?_toArray, List.getElem?_cons_succ, List.getElem?_cons_zero]; try rfl); (· refine ⟨by kernel_rfl, ?_⟩; intro wq; go_simp; first | done | with_reducible rfl); (· exact fun _ _ _ h => h); try simp only [Act.put, List.setIfInBounds_toArray, List.set_cons_zero, List.set_cons_succ]); (refine wpAny_take1 7 (oi := ?_) (v := ?_) ?_ (by kernel_rfl) (by kernel_rfl) (by kernel_rfl) ?_ ?_ ?_; rotate_left 2; (· simp only [List.getElem?_toArray, List.getElem?_cons_succ, List.getElem?_cons_zero]; try rfl); (· refine ⟨by kernel_rfl, ?_⟩; intro wq; go_simp; first | done | with_reducible rfl); (· exact fun _ _ _ h => h); try simp only [Act.put, List.setIfInBounds_toArray, List.set_cons_zero, List.set_cons_succ]); (refine wpAny_take1 9 (oi := ?_) (v := ?_) ?_ (by kernel_rfl) (by kernel_rfl) (by kernel_rfl) ?_ ?_ ?_; rotate_left 2; (· simp only [List.getElem?_toArray, List.getElem?_cons_succ, List.getElem?_cons_zero]; try rfl); (· refine ⟨by kernel_rfl, ?_⟩; intro wq; go_simp; first | done | with_reducible rfl); (· exact fun _ _ _ h => h); try simp only [Act.put, List.setIfInBounds_toArray, List.set_cons_zero, List.set_cons_succ]); (refine wpAny_take1 10 (oi := ?_) (v := ?_) ?_ (by kernel_rfl) (by kernel_rfl) (by kernel_rfl) ?_ ?_ ?_; rotate_left 2; (· simp only [List.getElem?_toArray, List.getElem?_cons_succ, List.getElem?_cons_zero]; try rfl); (· refine ⟨by kernel_rfl, ?_⟩; intro wq; go_simp; first | done | with_reducible rfl); (· exact fun _ _ _ h => h); try simp only [Act.put, List.setIfInBounds_toArray, List.set_cons_zero, List.set_cons_succ]); (refine wpAny_take1 11 (oi := ?_) (v := ?_) ?_ (by kernel_rfl) (by kernel_rfl) (by kernel_rfl) ?_ ?_ ?_; rotate_left 2; (· simp only [List.getElem?_toArray, List.getElem?_cons_succ, List.getElem?_cons_zero]; try rfl); (· refine ⟨by kernel_rfl, ?_⟩; intro wq; go_simp; first | done | with_reducible rfl); (· exact fun _ _ _ h => h); try simp only [Act.put, List.setIfInBounds_toArray, List.set_cons_zero, List.set_cons_succ]); (refine wpAny_take1 12 (oi := ?_) (v := ?_) ?_ (by kernel_rfl) (by kernel_rfl) (by kernel_rfl) ?_ ?_ ?_; rotate_left 2; (· simp only [List.getElem?_toArray, List.getElem?_cons_succ, List.getElem?_cons_zero]; try rfl); (· refine ⟨by kernel_rfl, ?_⟩; intro wq; go_simp; first | done | with_reducible rfl); (· exact fun _ _ _ h => h); try simp only [Act.put, List.setIfInBounds_toArray, List.set_cons_zero, List.set_cons_succ]))
      refine wpAny_ready (rs := [8, 13]) (by kernel_rfl) (by simp) ?_
      have HW2 : Hid (LoAt ((w10.drew.setCells g (kk * 5) l[kk + 1].cells.toArray.toList).setCells g ((kk + 1) * 5) l[kk].cells.toArray.toList) _ _) := HW2
      have HBW : Hid (Below w.heap.size w ((w10.drew.setCells g (kk * 5) l[kk + 1].cells.toArray.toList).setCells g ((kk + 1) * 5) l[kk].cells.toArray.toList)) := HBW
      refine AllReady.cons (o := ?_) ?_ (fun K hK => ?_) (AllReady.cons (o := ?_) ?_ (fun K hK => ?_) AllReady.nil)
      rotate_left 1
      · simp only [List.getElem?_toArray, List.getElem?_cons_succ, List.getElem?_cons_zero]; try rfl
      rotate_left 1
      rotate_left 1
      · simp only [List.getElem?_toArray, List.getElem?_cons_succ, List.getElem?_cons_zero]; try rfl
      rotate_left 1
      · (refine step_load rfl 24 _ rfl g _ rfl _ _ HR1.out Try.underlying24 rfl HI5.out ?_; refine hK _ _ ?_; clear hK K; simp only [Act.put, List.setIfInBounds_toArray, List.set_cons_zero, List.set_cons_succ])
        (refine wpAny_ready (rs := [13]) (by kernel_rfl) (by simp) (AllReady.cons (o := ?_) ?_ (fun K hK => ?_) AllReady.nil); rotate_left 1; (· simp only [List.getElem?_toArray, List.getElem?_cons_succ, List.getElem?_cons_zero]; try rfl))
        (refine step_load rfl 24 _ rfl g _ rfl _ _ HR0'.out Try.underlying24 rfl HI5.out ?_; refine hK _ _ ?_; clear hK K; simp only [Act.put, List.setIfInBounds_toArray, List.set_cons_zero, List.set_cons_succ])
        ((refine wpAny_take1 14 (oi := ?_) (v := ?_) ?_ (by kernel_rfl) (by kernel_rfl) (by kernel_rfl) ?_ ?_ ?_; rotate_left 2; (· simp only [List.getElem?_toArray, List.getElem?_cons_succ, List.getElem?_cons_zero]; try rfl); (· refine ⟨by kernel_rfl, ?_⟩; intro wq; go_simp; first | done | with_reducible rfl); (· exact fun _ _ _ h => h); try simp only [Act.put, List.setIfInBounds_toArray, List.set_cons_zero, List.set_cons_succ]))
        (refine wpAny_ready (rs := [15]) (by kernel_rfl) (by simp) (AllReady.cons (o := ?_) ?_ (fun K hK => ?_) AllReady.nil); rotate_left 1; (· simp only [List.getElem?_toArray, List.getElem?_cons_succ, List.getElem?_cons_zero]; try rfl))
        (refine step_store rfl 24 _ _ rfl g (kk * 5) l[kk + 1].cells.toArray rfl rfl HT0.out HI5.out (cells_one _) ?_; refine hK _ _ ?_; clear hK K; simp only [Act.put, List.setIfInBounds_toArray, List.set_cons_zero, List.set_cons_succ])
        ((refine wpAny_take1 16 (oi := ?_) (v := ?_) ?_ (by kernel_rfl) (by kernel_rfl) (by kernel_rfl) ?_ ?_ ?_; rotate_left 2; (· simp only [List.getElem?_toArray, List.getElem?_cons_succ, List.getElem?_cons_zero]; try rfl); (· refine ⟨by kernel_rfl, ?_⟩; intro wq; go_simp; first | done | with_reducible rfl); (· exact fun _ _ _ h => h); try simp only [Act.put, List.setIfInBounds_toArray, List.set_cons_zero, List.set_cons_succ]))
        (refine wpAny_ready (rs := [17]) (by kernel_rfl) (by simp) (AllReady.cons (o := ?_) ?_ (fun K hK => ?_) AllReady.nil); rotate_left 1; (· simp only [List.getElem?_toArray, List.getElem?_cons_succ, List.getElem?_cons_zero]; try rfl))
        (refine step_store rfl 24 _ _ rfl g ((kk + 1) * 5) l[kk].cells.toArray rfl rfl (World.there_setCells HT1.out _ _ _) HI5.out (cells_one _) ?_; refine hK _ _ ?_; clear hK K; simp only [Act.put, List.setIfInBounds_toArray, List.set_cons_zero, List.set_cons_succ])
        refine wpAny_done (by kernel_rfl) ?_ _
        generalize (w10.drew.setCells g (kk * 5) l[kk + 1].cells.toArray.toList).setCells g ((kk + 1) * 5) l[kk].cells.toArray.toList = W2 at HW2 HBW ⊢
        obtain ⟨b, off, rfl, x0, _, x2, _, _⟩ := (HR0.out.below HBW.out).get kk hkl2
        obtain ⟨b', off', e', y0, _, y2, _, _⟩ := (HR0.out.below HBW.out).get (kk + 1) hkl
        cases e'
        cases hsS : (l[kk + 1].s == l[kk].s)
        · cases hT : (l[kk + 1].t != l[kk].t)
          · have Q9 := Lib.hid (Q7.out hkl hsS hT); have Q10 := Lib.hid (Q8.out hkl hsS hT)
            go_wp2
            go_quiet (fail)
            have HB := Lib.hid (below_drewN HBW.out nq); have HM := Lib.hid (HW2.out.below (below_drewN (Below.refl _ _) nq))
            go_wp2_with (fail)
            refine (Q9.out _ _ _ HM.out).mono ?_; rintro e w11 ⟨rfl, hb⟩; replace HB := Lib.hid (HB.out.trans (hb.mono HB.out.size)); replace HM := Lib.hid (HM.out.below hb); clear hb
            go_wp2_with (fail)
            refine (Q10.out _ _ _ HM.out).mono ?_; rintro e w12 ⟨rfl, hb⟩; replace HB := Lib.hid (HB.out.trans (hb.mono HB.out.size)); clear hb
            go_wp2
            go_ret
            exact ⟨rfl, HB.out⟩
          · go_wp2
            go_quiet (fail)
            go_wp2
            go_ret
            exact ⟨rfl, below_drewN HBW.out nq⟩
        · go_wp2
          go_quiet (fail)
          go_wp2
          go_ret
          exact ⟨rfl, below_drewN HBW.out nq⟩
      · (refine step_load rfl 24 _ rfl g _ rfl _ _ HR0'.out Try.underlying24 rfl HI5.out ?_; refine hK _ _ ?_; clear hK K; simp only [Act.put, List.setIfInBounds_toArray, List.set_cons_zero, List.set_cons_succ])
        (refine wpAny_ready (rs := [8]) (by kernel_rfl) (by simp) (AllReady.cons (o := ?_) ?_ (fun K hK => ?_) AllReady.nil); rotate_left 1; (· simp only [List.getElem?_toArray, List.getElem?_cons_succ, List.getElem?_cons_zero]; try rfl))
        (refine step_load rfl 24 _ rfl g _ rfl _ _ HR1.out Try.underlying24 rfl HI5.out ?_; refine hK _ _ ?_; clear hK K; simp only [Act.put, List.setIfInBounds_toArray, List.set_cons_zero, List.set_cons_succ])
        ((refine wpAny_take1 14 (oi := ?_) (v := ?_) ?_ (by kernel_rfl) (by kernel_rfl) (by kernel_rfl) ?_ ?_ ?_; rotate_left 2; (· simp only [List.getElem?_toArray, List.getElem?_cons_succ, List.getElem?_cons_zero]; try rfl); (· refine ⟨by kernel_rfl, ?_⟩; intro wq; go_simp; first | done | with_reducible rfl); (· exact fun _ _ _ h => h); try simp only [Act.put, List.setIfInBounds_toArray, List.set_cons_zero, List.set_cons_succ]))
        (refine wpAny_ready (rs := [15]) (by kernel_rfl) (by simp) (AllReady.cons (o := ?_) ?_ (fun K hK => ?_) AllReady.nil); rotate_left 1; (· simp only [List.getElem?_toArray, List.getElem?_cons_succ, List.getElem?_cons_zero]; try rfl))
        (refine step_store rfl 24 _ _ rfl g (kk * 5) l[kk + 1].cells.toArray rfl rfl HT0.out HI5.out (cells_one _) ?_; refine hK _ _ ?_; clear hK K; simp only [Act.put, List.setIfInBounds_toArray, List.set_cons_zero, List.set_cons_succ])
        ((refine wpAny_take1 16 (oi := ?_) (v := ?_) ?_ (by kernel_rfl) (by kernel_rfl) (by kernel_rfl) ?_ ?_ ?_; rotate_left 2; (· simp only [List.getElem?_toArray, List.getElem?_cons_succ, List.getElem?_cons_zero]; try rfl); (· refine ⟨by kernel_rfl, ?_⟩; intro wq; go_simp; first | done | with_reducible rfl); (· exact fun _ _ _ h => h); try simp only [Act.put, List.setIfInBounds_toArray, List.set_cons_zero, List.set_cons_succ]))
        (refine wpAny_ready (rs := [17]) (by kernel_rfl) (by simp) (AllReady.cons (o := ?_) ?_ (fun K hK => ?_) AllReady.nil); rotate_left 1; (· simp only [List.getElem?_toArray, List.getElem?_cons_succ, List.getElem?_cons_zero]; try rfl))
        (refine step_store rfl 24 _ _ rfl g ((kk + 1) * 5) l[kk].cells.toArray rfl rfl (World.there_setCells HT1.out _ _ _) HI5.out (cells_one _) ?_; refine hK _ _ ?_; clear hK K; simp only [Act.put, List.setIfInBounds_toArray, List.set_cons_zero, List.set_cons_succ])
        refine wpAny_done (by kernel_rfl) ?_ _
        generalize (w10.drew.setCells g (kk * 5) l[kk + 1].cells.toArray.toList).setCells g ((kk + 1) * 5) l[kk].cells.toArray.toList = W2 at HW2 HBW ⊢
        obtain ⟨b, off, rfl, x0, _, x2, _, _⟩ := (HR0.out.below HBW.out).get kk hkl2
        obtain ⟨b', off', e', y0, _, y2, _, _⟩ := (HR0.out.below HBW.out).get (kk + 1) hkl
        cases e'
        cases hsS : (l[kk + 1].s == l[kk].s)
        · cases hT : (l[kk + 1].t != l[kk].t)
          · have Q9 := Lib.hid (Q7.out hkl hsS hT); have Q10 := Lib.hid (Q8.out hkl hsS hT)
            go_wp2
            go_quiet (fail)
            have HB := Lib.hid (below_drewN HBW.out nq); have HM := Lib.hid (HW2.out.below (below_drewN (Below.refl _ _) nq))
            go_wp2_with (fail)
            refine (Q9.out _ _ _ HM.out).mono ?_; rintro e w11 ⟨rfl, hb⟩; replace HB := Lib.hid (HB.out.trans (hb.mono HB.out.size)); replace HM := Lib.hid (HM.out.below hb); clear hb
            go_wp2_with (fail)
            refine (Q10.out _ _ _ HM.out).mono ?_; rintro e w12 ⟨rfl, hb⟩; replace HB := Lib.hid (HB.out.trans (hb.mono HB.out.size)); clear hb
            go_wp2
            go_ret
            exact ⟨rfl, HB.out⟩
          · go_wp2
            go_quiet (fail)
            go_wp2
            go_ret
            exact ⟨rfl, below_drewN HBW.out nq⟩
        · go_wp2
          go_quiet (fail)
          go_wp2
          go_ret
          exact ⟨rfl, below_drewN HBW.out nq⟩


set_option maxRecDepth 100000 in
set_option maxHeartbeats 4000000 in
theorem law5_few (a : Option Addr) (n cap : Nat) (l : List Lo) (sheet time which : Int) (w : World) (t ra rc : Int) (ris : Bool) (M : List Lo) (HU : Hid (∀ w, LoAt w a l → Calls Try.prog 22 #[.slice a n cap] w fun e w' => e = .returned (.bool true) ∧ Below w.heap.size w w')) (HW : Hid (∀ w, Calls Try.prog 24 #[.int .u32 time] w fun e w' => e = .returned (.int .i64 t) ∧ w = w')) (hsh : inB sheet 1 1000000 = true) (HN : Hid (n = l.length)) (hn60 : n ≤ 60) (HM0 : Hid (l.filter (fun x => x.s == sheet) = M)) (Q1 : Hid (∀ w, LoAt w a l → Calls Try.prog 15 #[.slice a n cap, .int .i64 sheet, .int .i64 t] w fun e w' => e = .returned (.tuple #[.int .i64 ra, .bool ris, .int .i64 0]) ∧ Below w.heap.size w w')) (Q2 : Hid (∀ a1 c1, (∀ w, LoAt w a1 M → Calls Try.prog 15 #[.slice a1 M.length c1, .int .i64 sheet, .int .i64 t] w fun e w' => e = .returned (.tuple #[.int .i64 ra, .bool ris, .int .i64 0]) ∧ Below w.heap.size w w'))) (Q5 : Hid (∀ w, LoAt w a l → Calls Try.prog 20 #[.slice a n cap, .int .i64 sheet, .int .i64 t] w fun e w' => e = .returned (.tuple #[.int .i64 rc, .int .i64 0]) ∧ Below w.heap.size w w')) (Q6 : Hid (∀ a1 c1, (∀ w, LoAt w a1 M → Calls Try.prog 20 #[.slice a1 M.length c1, .int .i64 sheet, .int .i64 t] w fun e w' => e = .returned (.tuple #[.int .i64 rc, .int .i64 0]) ∧ Below w.heap.size w w'))) (hr : LoAt w a l) (hn2 : n < 2) : Calls Try.prog 7 #[.slice a n cap, .int .i64 sheet, .int .u32 time, .int .u8 which] w fun e w' => e = .returned (.bool true) ∧ Below w.heap.size w w' := by
  go_enter Try.func7, Try.ntmps7; go_wp2_with (first | (go_at_call 8; refine (head_any _).mono ?_; rintro e w1 ⟨rfl, hb⟩; have HB := Lib.hid hb; have HR := Lib.hid (hr.below hb); have HR0 := Lib.hid hr; clear hb hr) | (go_at_call 22; refine (HU.out _ HR.out).mono ?_; rintro e w2 ⟨rfl, hb⟩; replace HB := Lib.hid (HB.out.trans (hb.mono HB.out.size)); replace HR := Lib.hid (HR.out.below hb); (try replace HM := Lib.hid (SlAt.below HM.out hb)); (try replace HA := Lib.hid (SlAt.below HA.out hb)); clear hb) | (go_at_call 23; refine (ID_any _ _).mono ?_; rintro e w3 ⟨rfl, rfl⟩) | (go_at_call 24; refine (HW.out _).mono ?_; rintro e w3 ⟨rfl, rfl⟩))
  go_loopw [11, 40] (fun v i wr => ∃ (k : Nat), k ≤ n ∧ i = .int .i64 k ∧ OwnR wr w.heap.size 24 5 v (((l.take k).filter (fun x => x.s == sheet)).map Lo.cells) ∧ Below w.heap.size w wr) (fun _ i _ => n - (intOf i).toNat)
  case atStart => exact ⟨0, by omega, rfl, OwnR.nil _ _ _ _, HB.out⟩
  case round =>
    obtain ⟨k, hk, rfl, ho0, hb0⟩ := hrel
    clear HB HR
    have HB := Lib.hid hb0; have HO := Lib.hid ho0; clear hb0 ho0
    by_cases hlt : k < n
    · have hlt' : k < l.length := by have := HN.out; omega
      obtain ⟨b, off, rfl, c0, c1, c2, c3, c4⟩ := (HR0.out.below HB.out).get k hlt'
      obtain ⟨f1, f2⟩ := filt_step (fun x => x.s == sheet) l k hlt'
      have F1 := Lib.hid f1; have F2 := Lib.hid f2; clear f1 f2
      have hlen : ((l.take k).filter (fun x => x.s == sheet)).length ≤ 60 := Nat.le_trans (List.length_filter_le _ _) (by rw [List.length_take]; omega)
      have HL := Lib.hid hlen; clear hlen
      cases hd : l[k].s == sheet
      · go_wp2
        exact ⟨⟨k + 1, by omega, by go_num, by rw [F2.out hd]; exact HO.out.below ((Below.refl _ _).alloc (Nat.le_refl _) _), HB.out.alloc HB.out.size _⟩, by simp [intOf]; omega⟩
      · have hb2 : ∀ o1 o2, Below wr.heap.size wr ((wr.alloc o1).alloc o2) := fun o1 o2 => ((Below.refl _ _).alloc (Nat.le_refl _) _).alloc (by simp) _
        have HB2 := Lib.hid hb2; clear hb2
        go_wp2_with (at_builtin; go_must (refine appE eltLoan rfl (.tmp 48) (.tmp 50) rfl w.heap.size _ _ rfl (HO.out.below (HB2.out _ _)) _ _ _ [l[k]] rfl rfl (fun e => by cases e) (eltLoan.new2 _ _ _ _ _ rfl) (by have := HL.out; simp; omega) (by have := HB.out.size; simp; omega) ?_); intro v5 w5 ho5 hg5)
        have HB3 := Lib.hid (below_grown (HB.out.trans ((HB2.out _ _).mono HB.out.size)) (HO.out.below (HB2.out _ _)) (by have := HB.out.size; simp; omega) hg5)
        exact ⟨⟨k + 1, by omega, by go_num, by rw [F1.out hd]; exact ho5, HB3.out⟩, by simp [intOf]; omega⟩
    · obtain rfl : k = n := by omega
      have hk2 : l.take k = l := List.take_of_length_le (by have := HN.out; omega)
      rw [hk2, HM0.out] at HO
      obtain ⟨a1, c1, rfl, _, hm⟩ := HO.out.slAt
      have HM := Lib.hid (show LoAt wr a1 M from hm); have HR := Lib.hid (HR0.out.below HB.out)
      clear HO hm hlt hk2
      go_wp2_with (fail)
      refine (Q1.out _ HR.out).mono ?_; rintro e w4 ⟨rfl, hb⟩; replace HB := Lib.hid (HB.out.trans (hb.mono HB.out.size)); replace HR := Lib.hid (HR.out.below hb); (try replace HM := Lib.hid (SlAt.below HM.out hb)); (try replace HA := Lib.hid (SlAt.below HA.out hb)); clear hb
      go_wp2_with (fail)
      refine (Q2.out _ _ _ HM.out).mono ?_; rintro e w5 ⟨rfl, hb⟩; replace HB := Lib.hid (HB.out.trans (hb.mono HB.out.size)); replace HR := Lib.hid (HR.out.below hb); (try replace HM := Lib.hid (SlAt.below HM.out hb)); (try replace HA := Lib.hid (SlAt.below HA.out hb)); clear hb
      go_wp2_with (fail)
      refine (Q5.out _ HR.out).mono ?_; rintro e w8 ⟨rfl, hb⟩; replace HB := Lib.hid (HB.out.trans (hb.mono HB.out.size)); replace HR := Lib.hid (HR.out.below hb); (try replace HM := Lib.hid (SlAt.below HM.out hb)); (try replace HA := Lib.hid (SlAt.below HA.out hb)); clear hb
      go_wp2_with (fail)
      refine (Q6.out _ _ _ HM.out).mono ?_; rintro e w9 ⟨rfl, hb⟩; replace HB := Lib.hid (HB.out.trans (hb.mono HB.out.size)); replace HR := Lib.hid (HR.out.below hb); (try replace HM := Lib.hid (SlAt.below HM.out hb)); (try replace HA := Lib.hid (SlAt.below HA.out hb)); clear hb
      go_wp2
      go_ret
      exact ⟨rfl, HB.out⟩

set_option maxRecDepth 100000 in
set_option maxHeartbeats 4000000 in
theorem law5_bad (a : Option Addr) (n cap : Nat) (l : List Lo) (sheet time which : Int) (w : World) (u : Bool) (HU : Hid (∀ w, LoAt w a l → Calls Try.prog 22 #[.slice a n cap] w fun e w' => e = .returned (.bool u) ∧ Below w.heap.size w w')) (hb : (u && inB sheet 1 1000000) = false) (hr : LoAt w a l) : Calls Try.prog 7 #[.slice a n cap, .int .i64 sheet, .int .u32 time, .int .u8 which] w fun e w' => e = .returned (.bool true) ∧ Below w.heap.size w w' := by
  cases u
  · clear hb
    go_enter Try.func7, Try.ntmps7
    go_wp2_with (first | (go_at_call 8; refine (head_any _).mono ?_; rintro e w1 ⟨rfl, hb⟩; have HB := Lib.hid hb; have HR := Lib.hid (hr.below hb); have HR0 := Lib.hid hr; clear hb hr) | (go_at_call 22; refine (HU.out _ HR.out).mono ?_; rintro e w2 ⟨rfl, hb⟩; replace HB := Lib.hid (HB.out.trans (hb.mono HB.out.size)); replace HR := Lib.hid (HR.out.below hb); (try replace HM := Lib.hid (SlAt.below HM.out hb)); (try replace HA := Lib.hid (SlAt.below HA.out hb)); clear hb))
    go_ret
    exact ⟨rfl, HB.out⟩
  · have h2 : inB sheet 1 1000000 = false := by simpa using hb
    clear hb
    go_enter Try.func7, Try.ntmps7
    go_wp2_with (first | (go_at_call 8; refine (head_any _).mono ?_; rintro e w1 ⟨rfl, hb⟩; have HB := Lib.hid hb; have HR := Lib.hid (hr.below hb); have HR0 := Lib.hid hr; clear hb hr) | (go_at_call 22; refine (HU.out _ HR.out).mono ?_; rintro e w2 ⟨rfl, hb⟩; replace HB := Lib.hid (HB.out.trans (hb.mono HB.out.size)); replace HR := Lib.hid (HR.out.below hb); (try replace HM := Lib.hid (SlAt.below HM.out hb)); (try replace HA := Lib.hid (SlAt.below HA.out hb)); clear hb) | (go_at_call 23; refine (ID_any _ _).mono ?_; rintro e w3 ⟨rfl, rfl⟩))
    go_ret
    exact ⟨rfl, HB.out⟩

theorem law5_any (a : Option Addr) (n cap : Nat) (l : List Lo) (sheet time which : Int) (w : World) (hn : n = l.length) (hl : n ≤ 9223372036854775807) (hs : SlOk a n cap) (hr : LoAt w a l) (h0 : 0 ≤ time) (h1 : time ≤ 4294967295) (hw0 : 0 ≤ which) (hw1 : which ≤ 255) : Calls Try.prog 7 #[.slice a n cap, .int .i64 sheet, .int .u32 time, .int .u8 which] w fun e w' => e = .returned (.bool true) ∧ Below w.heap.size w w' := by
  have hU := fun w hr => usable_any a n cap l w hn hl hs hr
  cases hu : (decide (n ≤ 60) && loansOk l) && inB sheet 1 1000000
  · exact law5_bad a n cap l sheet time which w _ hU hu hr
  · simp only [Bool.and_eq_true, decide_eq_true_eq] at hu
    obtain ⟨⟨h60, hv⟩, hsh⟩ := hu
    have hU' : ∀ w, LoAt w a l → Calls Try.prog 22 #[.slice a n cap] w fun e w' => e = .returned (.bool true) ∧ Below w.heap.size w w' := fun w hr => by have := hU w hr; rw [decide_eq_true h60, hv] at this; exact this
    have ht := tm_in time
    have hsrt := ((loansOk_iff l).1 hv).2.2.1
    have hm := loansOk_ofS hv sheet
    have hml : (ofS sheet l).length ≤ l.length := List.length_filter_le _ _
    have e2 := holderR_ok hm hsh ht
    have e6 := hallR_ok hm hsh ht
    rw [upTo_ofS hsrt, hold_ofS] at e2
    rw [upTo_ofS hsrt, hallF_ofS] at e6
    have q1 : (∀ w, LoAt w a l → Calls Try.prog 15 #[.slice a n cap, .int .i64 sheet, .int .i64 (time % 1000000001)] w fun e w' => e = .returned (.tuple #[.int .i64 (hold (upTo l (time % 1000000001)) sheet), .bool (decide (0 < hold (upTo l (time % 1000000001)) sheet)), .int .i64 0]) ∧ Below w.heap.size w w') := fun w hr => by
      have := PHolder_any a n cap l sheet (time % 1000000001) w hn (by omega) hr
      rw [holderR_ok hv hsh ht] at this; exact this
    have q2 : ∀ a1 c1, (∀ w, LoAt w a1 (ofS sheet l) → Calls Try.prog 15 #[.slice a1 (ofS sheet l).length c1, .int .i64 sheet, .int .i64 (time % 1000000001)] w fun e w' => e = .returned (.tuple #[.int .i64 (hold (upTo l (time % 1000000001)) sheet), .bool (decide (0 < hold (upTo l (time % 1000000001)) sheet)), .int .i64 0]) ∧ Below w.heap.size w w') := fun a1 c1 w hr => by
      have := PHolder_any a1 _ c1 (ofS sheet l) sheet (time % 1000000001) w rfl (by omega) hr
      rw [e2] at this; exact this
    have q5 : (∀ w, LoAt w a l → Calls Try.prog 20 #[.slice a n cap, .int .i64 sheet, .int .i64 (time % 1000000001)] w fun e w' => e = .returned (.tuple #[.int .i64 (hallF (upTo l (time % 1000000001)) sheet), .int .i64 0]) ∧ Below w.heap.size w w') := fun w hr => by
      have := PHall_any a n cap l sheet (time % 1000000001) w hn (by omega) hr
      rw [hallR_ok hv hsh ht] at this; exact this
    have q6 : ∀ a1 c1, (∀ w, LoAt w a1 (ofS sheet l) → Calls Try.prog 20 #[.slice a1 (ofS sheet l).length c1, .int .i64 sheet, .int .i64 (time % 1000000001)] w fun e w' => e = .returned (.tuple #[.int .i64 (hallF (upTo l (time % 1000000001)) sheet), .int .i64 0]) ∧ Below w.heap.size w w') := fun a1 c1 w hr => by
      have := PHall_any a1 _ c1 (ofS sheet l) sheet (time % 1000000001) w rfl (by omega) hr
      rw [e6] at this; exact this
    by_cases h2 : n < 2
    · exact law5_few a n cap l sheet time which w (time % 1000000001) _ _ _ (ofS sheet l) hU' (fun w => when_any time w h0 h1) hsh hn h60 (rfl : ofS sheet l = _) q1 q2 q5 q6 hr h2
    · obtain ⟨kk, hkk⟩ := Int.eq_ofNat_of_zero_le (Int.emod_nonneg which (show (n : Int) - 1 ≠ 0 by omega))
      have hlt := Int.emod_lt_of_pos which (show 0 < (n : Int) - 1 by omega)
      have hall : ∀ (hk : kk + 1 < l.length), (l[kk + 1].s == l[kk].s) = false → (l[kk + 1].t != l[kk].t) = false → holderR ((l.set kk l[kk + 1]).set (kk + 1) l[kk]) sheet (time % 1000000001) = (hold (upTo l (time % 1000000001)) sheet, decide (0 < hold (upTo l (time % 1000000001)) sheet), 0) ∧ hallR ((l.set kk l[kk + 1]).set (kk + 1) l[kk]) sheet (time % 1000000001) = (hallF (upTo l (time % 1000000001)) sheet, 0) := by
        intro hk hS hT
        obtain ⟨p, r, e1, e2⟩ := swap_split l kk hk
        have hxy : l[kk].s ≠ l[kk + 1].s := fun e => by rw [e] at hS; simp at hS
        have htt : l[kk].t = l[kk + 1].t := by simpa using (show _ from (by simpa using hT : l[kk + 1].t = l[kk].t)).symm
        have hv2 := hv
        rw [e1] at hv2
        have hok := loansOk_swap hv2 hxy htt
        have hsm := swap_same (p := p) (r := r) hxy htt (time % 1000000001) sheet
        rw [← e1] at hsm
        rw [e2, holderR_ok hok hsh ht, hallR_ok hok hsh ht, hsm.1, hsm.2]
        exact ⟨rfl, rfl⟩
      refine law5_good a n cap l sheet time which w (time % 1000000001) _ _ _ (ofS sheet l) hU' (fun w => when_any time w h0 h1) hsh hn h60 (rfl : ofS sheet l = _) q1 q2 q5 q6 hr hs kk (by omega) hkk (by omega) hw0 hw1 (fun hk hS hT a1 c1 w hr => ?_) (fun hk hS hT a1 c1 w hr => ?_)
      · have := PHolder_any a1 l.length c1 ((l.set kk l[kk + 1]).set (kk + 1) l[kk]) sheet (time % 1000000001) w (by simp) (by omega) hr
        rw [(hall hk hS hT).1] at this; exact this
      · have := PHall_any a1 l.length c1 ((l.set kk l[kk + 1]).set (kk + 1) l[kk]) sheet (time % 1000000001) w (by simp) (by omega) hr
        rw [(hall hk hS hT).2] at this; exact this

end Go.Proofs.Ytokhligpjbdhcaa
