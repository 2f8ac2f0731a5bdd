/- The fourth law on loans (LoanTimes): the walk. -/
import Derived.Test.YtokhligpjbdhcaaLoanPure3
import Derived.Test.YtokhligpjbdhcaaLoanLaw2
namespace Go.Proofs.Ytokhligpjbdhcaa
set_option linter.unusedSimpArgs false
set_option linter.unusedVariables false
open Go.RowKit Go.Sort


theorem Elt.new2 {P : Program} {T E : TypeId} {sz bytes : Nat} {α : Type} {f : α → List Value} (he : Elt P T E sz bytes f) (w : World) (o : Obj) (x : α) (cs : List Value) (E' : TypeId) (hc : cs = f x) : SlAt ((w.alloc o).alloc (.cells cs.toArray E')) (some ⟨w.heap.size + 1, 0, none⟩) sz ([x].map f) := by
  have := he.new (w.alloc o) x cs E' hc
  rwa [show (w.alloc o).heap.size = w.heap.size + 1 from by simp] at this
theorem filt_step (p : Lo → Bool) (l : List Lo) (k : Nat) (h : k < l.length) : (p l[k] = true → (l.take (k + 1)).filter p = (l.take k).filter p ++ [l[k]]) ∧ (p l[k] = false → (l.take (k + 1)).filter p = (l.take k).filter p) := by
  rw [List.take_succ_eq_append_getElem h, List.filter_append]
  constructor <;> intro e <;> simp [List.filter_cons, e]

set_option maxRecDepth 100000 in
set_option maxHeartbeats 4000000 in
theorem law4_good (a : Option Addr) (n cap : Nat) (l : List Lo) (stand sheet time : Int) (w : World) (t ra rc : Int) (ris : Bool) (M : List Lo) (H : List Int) (HU : Hid (∀ w, LoAt w a l → Calls Try.prog 22 #[.slice a n cap] w fun e w' => e = .returned (.bool true) ∧ Below w.heap.size w w'))
    (HW : Hid (∀ w, Calls Try.prog 24 #[.int .u32 time] w fun e w' => e = .returned (.int .i64 t) ∧ w = w'))
    (hst : inB stand 1 1000000 = true) (hsh : inB sheet 1 1000000 = true) (HN : Hid (n = l.length)) (hn60 : n ≤ 60) (HM0 : Hid (l.filter (fun x => decide (x.t ≤ t)) = M)) (HH : Hid (H.length ≤ 1000000))
    (Q1 : Hid (∀ w, LoAt w a l → Calls Try.prog 15 #[.slice a n cap, .int .i64 sheet, .int .i64 t] w fun e w' => e = .returned (.tuple #[.int .i64 ra, .bool ris, .int .i64 0]) ∧ Below w.heap.size w w')) (Q2 : Hid (∀ a1 c1, (∀ w, LoAt w a1 M → Calls Try.prog 15 #[.slice a1 M.length c1, .int .i64 sheet, .int .i64 1000000000] w fun e w' => e = .returned (.tuple #[.int .i64 ra, .bool ris, .int .i64 0]) ∧ Below w.heap.size w w')))
    (Q3 : Hid (∀ w, LoAt w a l → Calls Try.prog 17 #[.slice a n cap, .int .i64 stand, .int .i64 t] w (RetSlI 1 (H.map inRow) 0 w))) (Q4 : Hid (∀ a1 c1, (∀ w, LoAt w a1 M → Calls Try.prog 17 #[.slice a1 M.length c1, .int .i64 stand, .int .i64 1000000000] w (RetSlI 1 (H.map inRow) 0 w))))
    (Q5 : Hid (∀ w, LoAt w a l → Calls Try.prog 20 #[.slice a n cap, .int .i64 sheet, .int .i64 t] w fun e w' => e = .returned (.tuple #[.int .i64 rc, .int .i64 0]) ∧ Below w.heap.size w w')) (Q6 : Hid (∀ a1 c1, (∀ w, LoAt w a1 M → Calls Try.prog 20 #[.slice a1 M.length c1, .int .i64 sheet, .int .i64 1000000000] w fun e w' => e = .returned (.tuple #[.int .i64 rc, .int .i64 0]) ∧ Below w.heap.size w w'))) (hr : LoAt w a l) : Calls Try.prog 6 #[.slice a n cap, .int .i64 stand, .int .i64 sheet, .int .u32 time] w fun e w' => e = .returned (.bool true) ∧ Below w.heap.size w w' := by
  go_enter Try.func6, Try.ntmps6
  go_wp2_with (first | (go_at_call 8; refine (head_any _).mono ?_; rintro e w1 ⟨rfl, hb⟩; have HB := Lib.hid hb; have HR := Lib.hid (hr.below hb); have HR0 := Lib.hid hr; clear hb hr) | (go_at_call 22; refine (HU.out _ HR.out).mono ?_; rintro e w2 ⟨rfl, hb⟩; replace HB := Lib.hid (HB.out.trans (hb.mono HB.out.size)); replace HR := Lib.hid (HR.out.below hb); (try replace HM := Lib.hid (SlAt.below HM.out hb)); (try replace HA := Lib.hid (SlAt.below HA.out hb)); clear hb) | (go_at_call 23; refine (ID_any _ _).mono ?_; rintro e w3 ⟨rfl, rfl⟩) | (go_at_call 24; refine (HW.out _).mono ?_; rintro e w3 ⟨rfl, rfl⟩))
  go_loopw [11, 47] (fun v i wr => ∃ (k : Nat), k ≤ n ∧ i = .int .i64 k ∧ OwnR wr w.heap.size 24 5 v (((l.take k).filter (fun x => decide (x.t ≤ t))).map Lo.cells) ∧ Below w.heap.size w wr) (fun _ i _ => n - (intOf i).toNat)
  case atStart => exact ⟨0, by omega, rfl, OwnR.nil _ _ _ _, HB.out⟩
  case round =>
    obtain ⟨k, hk, rfl, ho0, hb0⟩ := hrel
    clear HB HR
    have HB := Lib.hid hb0; have HO := Lib.hid ho0; clear hb0 ho0
    by_cases hlt : k < n
    · have hlt' : k < l.length := by have := HN.out; omega
      obtain ⟨b, off, rfl, c0, c1, c2, c3, c4⟩ := (HR0.out.below HB.out).get k hlt'
      obtain ⟨f1, f2⟩ := filt_step (fun x => decide (x.t ≤ t)) l k hlt'
      have F1 := Lib.hid f1; have F2 := Lib.hid f2; clear f1 f2
      have hlen : ((l.take k).filter (fun x => decide (x.t ≤ t))).length ≤ 60 := Nat.le_trans (List.length_filter_le _ _) (by rw [List.length_take]; omega)
      have HL := Lib.hid hlen; clear hlen
      cases hd : decide (l[k].t ≤ t)
      · go_wp2
        exact ⟨⟨k + 1, by omega, by go_num, by rw [F2.out hd]; exact HO.out.below ((Below.refl _ _).alloc (Nat.le_refl _) _), HB.out.alloc HB.out.size _⟩, by simp [intOf]; omega⟩
      · have hb2 : ∀ o1 o2, Below wr.heap.size wr ((wr.alloc o1).alloc o2) := fun o1 o2 => ((Below.refl _ _).alloc (Nat.le_refl _) _).alloc (by simp) _
        have HB2 := Lib.hid hb2; clear hb2
        go_wp2_with (at_builtin; go_must (refine appE eltLoan rfl (.tmp 55) (.tmp 57) rfl w.heap.size _ _ rfl (HO.out.below (HB2.out _ _)) _ _ _ [l[k]] rfl rfl (fun e => by cases e) (eltLoan.new2 _ _ _ _ _ rfl) (by have := HL.out; simp; omega) (by have := HB.out.size; simp; omega) ?_); intro v5 w5 ho5 hg5)
        have HB3 := Lib.hid (below_grown (HB.out.trans ((HB2.out _ _).mono HB.out.size)) (HO.out.below (HB2.out _ _)) (by have := HB.out.size; simp; omega) hg5)
        exact ⟨⟨k + 1, by omega, by go_num, by rw [F1.out hd]; exact ho5, HB3.out⟩, by simp [intOf]; omega⟩
    · obtain rfl : k = n := by omega
      have hk2 : l.take k = l := List.take_of_length_le (by have := HN.out; omega)
      rw [hk2, HM0.out] at HO
      obtain ⟨a1, c1, rfl, _, hm⟩ := HO.out.slAt
      have HM := Lib.hid (show LoAt wr a1 M from hm); have HR := Lib.hid (HR0.out.below HB.out)
      clear HO hm hlt hk2
      go_wp2_with (fail)
      refine (Q1.out _ HR.out).mono ?_; rintro e w4 ⟨rfl, hb⟩; replace HB := Lib.hid (HB.out.trans (hb.mono HB.out.size)); replace HR := Lib.hid (HR.out.below hb); (try replace HM := Lib.hid (SlAt.below HM.out hb)); (try replace HA := Lib.hid (SlAt.below HA.out hb)); clear hb
      go_wp2_with (fail)
      refine (Q2.out _ _ _ HM.out).mono ?_; rintro e w5 ⟨rfl, hb⟩; replace HB := Lib.hid (HB.out.trans (hb.mono HB.out.size)); replace HR := Lib.hid (HR.out.below hb); (try replace HM := Lib.hid (SlAt.below HM.out hb)); (try replace HA := Lib.hid (SlAt.below HA.out hb)); clear hb
      go_wp2_with (fail)
      refine (Q3.out _ HR.out).mono ?_; rintro e w6 ⟨a2, c2, rfl, _, ha, hb⟩; replace HB := Lib.hid (HB.out.trans (hb.mono HB.out.size)); replace HR := Lib.hid (HR.out.below hb); (try replace HM := Lib.hid (SlAt.below HM.out hb)); (try replace HA := Lib.hid (SlAt.below HA.out hb)); clear hb; have HA := Lib.hid ha; clear ha
      go_wp2_with (fail)
      refine (Q4.out _ _ _ HM.out).mono ?_; rintro e w7 ⟨a3, c3, rfl, _, ha, hb⟩; replace HB := Lib.hid (HB.out.trans (hb.mono HB.out.size)); replace HR := Lib.hid (HR.out.below hb); (try replace HM := Lib.hid (SlAt.below HM.out hb)); (try replace HA := Lib.hid (SlAt.below HA.out hb)); clear hb; have HC := Lib.hid ha; clear ha
      go_wp2_with (fail)
      refine (Q5.out _ HR.out).mono ?_; rintro e w8 ⟨rfl, hb⟩; replace HC := Lib.hid (SlAt.below HC.out hb); replace HB := Lib.hid (HB.out.trans (hb.mono HB.out.size)); replace HR := Lib.hid (HR.out.below hb); (try replace HM := Lib.hid (SlAt.below HM.out hb)); (try replace HA := Lib.hid (SlAt.below HA.out hb)); clear hb
      go_wp2_with (fail)
      refine (Q6.out _ _ _ HM.out).mono ?_; rintro e w9 ⟨rfl, hb⟩; replace HC := Lib.hid (SlAt.below HC.out hb); replace HB := Lib.hid (HB.out.trans (hb.mono HB.out.size)); replace HR := Lib.hid (HR.out.below hb); (try replace HM := Lib.hid (SlAt.below HM.out hb)); (try replace HA := Lib.hid (SlAt.below HA.out hb)); clear hb
      go_wp2_with (fail)
      refine (SameInts_any _ _ _ _ _ _ H H _ (by simp) (by simp) (by simpa using HH.out) (by simpa using HH.out) HA.out HC.out).mono ?_; rw [decide_eq_true rfl]; rintro e w10 ⟨rfl, hb⟩; replace HB := Lib.hid (HB.out.trans (hb.mono HB.out.size)); replace HR := Lib.hid (HR.out.below hb); (try replace HM := Lib.hid (SlAt.below HM.out hb)); (try replace HA := Lib.hid (SlAt.below HA.out hb)); clear hb
      go_wp2
      go_ret
      exact ⟨rfl, HB.out⟩

set_option maxRecDepth 100000 in
set_option maxHeartbeats 4000000 in
theorem law4_bad (a : Option Addr) (n cap : Nat) (l : List Lo) (stand sheet time : Int) (w : World) (u : Bool) (HU : Hid (∀ w, LoAt w a l → Calls Try.prog 22 #[.slice a n cap] w fun e w' => e = .returned (.bool u) ∧ Below w.heap.size w w')) (hb : (u && inB stand 1 1000000 && inB sheet 1 1000000) = false) (hr : LoAt w a l) : Calls Try.prog 6 #[.slice a n cap, .int .i64 stand, .int .i64 sheet, .int .u32 time] w fun e w' => e = .returned (.bool true) ∧ Below w.heap.size w w' := by
  cases u
  · clear hb
    go_enter Try.func6, Try.ntmps6
    go_wp2_with (first | (go_at_call 8; refine (head_any _).mono ?_; rintro e w1 ⟨rfl, hb⟩; have HB := Lib.hid hb; have HR := Lib.hid (hr.below hb); have HR0 := Lib.hid hr; clear hb hr) | (go_at_call 22; refine (HU.out _ HR.out).mono ?_; rintro e w2 ⟨rfl, hb⟩; replace HB := Lib.hid (HB.out.trans (hb.mono HB.out.size)); replace HR := Lib.hid (HR.out.below hb); (try replace HM := Lib.hid (SlAt.below HM.out hb)); (try replace HA := Lib.hid (SlAt.below HA.out hb)); clear hb))
    go_ret
    exact ⟨rfl, HB.out⟩
  · cases h1 : inB stand 1 1000000
    · clear hb
      go_enter Try.func6, Try.ntmps6
      go_wp2_with (first | (go_at_call 8; refine (head_any _).mono ?_; rintro e w1 ⟨rfl, hb⟩; have HB := Lib.hid hb; have HR := Lib.hid (hr.below hb); have HR0 := Lib.hid hr; clear hb hr) | (go_at_call 22; refine (HU.out _ HR.out).mono ?_; rintro e w2 ⟨rfl, hb⟩; replace HB := Lib.hid (HB.out.trans (hb.mono HB.out.size)); replace HR := Lib.hid (HR.out.below hb); (try replace HM := Lib.hid (SlAt.below HM.out hb)); (try replace HA := Lib.hid (SlAt.below HA.out hb)); clear hb) | (go_at_call 23; refine (ID_any _ _).mono ?_; rintro e w3 ⟨rfl, rfl⟩))
      go_ret
      exact ⟨rfl, HB.out⟩
    · have h2 : inB sheet 1 1000000 = false := by simpa [h1] using hb
      clear hb
      go_enter Try.func6, Try.ntmps6
      go_wp2_with (first | (go_at_call 8; refine (head_any _).mono ?_; rintro e w1 ⟨rfl, hb⟩; have HB := Lib.hid hb; have HR := Lib.hid (hr.below hb); have HR0 := Lib.hid hr; clear hb hr) | (go_at_call 22; refine (HU.out _ HR.out).mono ?_; rintro e w2 ⟨rfl, hb⟩; replace HB := Lib.hid (HB.out.trans (hb.mono HB.out.size)); replace HR := Lib.hid (HR.out.below hb); (try replace HM := Lib.hid (SlAt.below HM.out hb)); (try replace HA := Lib.hid (SlAt.below HA.out hb)); clear hb) | (go_at_call 23; refine (ID_any _ _).mono ?_; rintro e w3 ⟨rfl, rfl⟩))
      go_ret
      exact ⟨rfl, HB.out⟩

theorem max_in : inB 1000000000 0 1000000000 = true := by decide
theorem law4_any (a : Option Addr) (n cap : Nat) (l : List Lo) (stand sheet time : Int) (w : World) (hn : n = l.length) (hl : n ≤ 9223372036854775807) (hs : SlOk a n cap) (hr : LoAt w a l) (h0 : 0 ≤ time) (h1 : time ≤ 4294967295) : Calls Try.prog 6 #[.slice a n cap, .int .i64 stand, .int .i64 sheet, .int .u32 time] w fun e w' => e = .returned (.bool true) ∧ Below w.heap.size w w' := by
  have hU := fun w hr => usable_any a n cap l w hn hl hs hr
  cases hu : (decide (n ≤ 60) && loansOk l) && inB stand 1 1000000 && inB sheet 1 1000000
  · exact law4_bad a n cap l stand sheet time w _ hU hu hr
  · simp only [Bool.and_eq_true, decide_eq_true_eq] at hu
    obtain ⟨⟨⟨h60, hv⟩, hst⟩, hsh⟩ := hu
    have hU' : ∀ w, LoAt w a l → Calls Try.prog 22 #[.slice a n cap] w fun e w' => e = .returned (.bool true) ∧ Below w.heap.size w w' := fun w hr => by have := hU w hr; rw [decide_eq_true h60, hv] at this; exact this
    have ht := tm_in time
    have hsrt := ((loansOk_iff l).1 hv).2.2.1
    have hm := loansOk_upTo hv (time % 1000000001)
    have hml := upTo_len l (time % 1000000001)
    have hmx := upTo_max hm
    have e2 := holderR_ok hm hsh max_in
    have e4 := heldR_ok hm hst max_in
    have e6 := hallR_ok hm hsh max_in
    rw [hmx] at e2 e4 e6
    refine law4_good a n cap l stand sheet time w (time % 1000000001) (hold (upTo l (time % 1000000001)) sheet) (hallF (upTo l (time % 1000000001)) sheet) (decide (0 < hold (upTo l (time % 1000000001)) sheet)) (upTo l (time % 1000000001)) (heldF (upTo l (time % 1000000001)) stand (upTo l (time % 1000000001)).length)
      hU' (fun w => when_any time w h0 h1) hst hsh hn h60 (filter_upTo hsrt _) ?_ (fun w hr => ?_) (fun a1 c1 w hr => ?_) (fun w hr => ?_) (fun a1 c1 w hr => ?_) (fun w hr => ?_) (fun a1 c1 w hr => ?_) hr
    · have := heldF_len' l stand (time % 1000000001)
      show _ ≤ _
      omega
    · have := PHolder_any a n cap l sheet (time % 1000000001) w hn (by omega) hr
      rw [holderR_ok hv hsh ht] at this; exact this
    · have := PHolder_any a1 _ c1 (upTo l (time % 1000000001)) sheet 1000000000 w rfl (by omega) hr
      rw [e2] at this; exact this
    · have := PHeld_any a n cap l stand (time % 1000000001) w hn (by omega) hr
      rw [heldR_ok hv hst ht] at this; exact this
    · have := PHeld_any a1 _ c1 (upTo l (time % 1000000001)) stand 1000000000 w rfl (by omega) hr
      rw [e4] at this; exact this
    · have := PHall_any a n cap l sheet (time % 1000000001) w hn (by omega) hr
      rw [hallR_ok hv hsh ht] at this; exact this
    · have := PHall_any a1 _ c1 (upTo l (time % 1000000001)) sheet 1000000000 w rfl (by omega) hr
      rw [e6] at this; exact this

end Go.Proofs.Ytokhligpjbdhcaa
