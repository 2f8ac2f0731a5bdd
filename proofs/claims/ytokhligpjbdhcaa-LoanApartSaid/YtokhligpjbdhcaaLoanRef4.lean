/- Still more contracts of the functions of partbookref28: Held, Hall, Push. -/
import Derived.Test.YtokhligpjbdhcaaLoanRef3
namespace Go.Proofs.Ytokhligpjbdhcaa
set_option linter.unusedSimpArgs false
set_option linter.unusedVariables false
open Go.RowKit Go.Sort

/-- The sheets that a stand holds behind some loans. -/
def heldF (s : List Lo) (stand : Int) (k : Nat) : List Int := (s.take k).foldl (fun out x => if hold s x.s = stand then putL out x.s else out) []
theorem heldF_succ (s : List Lo) (stand : Int) (k : Nat) (h : k < s.length) : heldF s stand (k + 1) = if hold s s[k].s = stand then putL (heldF s stand k) s[k].s else heldF s stand k := by
  unfold heldF; rw [List.take_succ_eq_append_getElem h, List.foldl_append]; rfl
theorem heldF_len (s : List Lo) (stand : Int) (k : Nat) (h : k ≤ s.length) : (heldF s stand k).length ≤ k := by
  induction k with
  | zero => simp [heldF]
  | succ k ih =>
    rw [heldF_succ s stand k h]
    split
    · exact Nat.le_trans (putL_len _ _) (by have := ih (by omega); omega)
    · have := ih (by omega); omega
def heldR (l : List Lo) (stand time : Int) : List Int × Int :=
  if loansOk l && inB stand 1 1000000 && inB time 0 1000000000 then (heldF (upTo l time) stand (upTo l time).length, 0) else ([], 1)
/-- A slice of integers that lies in memory. -/
def IsInts (w : World) (v : Value) (l : List Int) : Prop := ∃ a cap, v = .slice a l.length cap ∧ SlOk a l.length cap ∧ InAt w a l
theorem IsInts.below {w w' : World} {v : Value} {l : List Int} (h : IsInts w v l) (hb : Below w.heap.size w w') : IsInts w' v l := by
  obtain ⟨a, cap, rfl, h1, h2⟩ := h; exact ⟨a, cap, rfl, h1, h2.below hb⟩
theorem put_is {w : World} {v : Value} {l : List Int} (h : IsInts w v l) (hl : l.length ≤ 1000000) (x : Int) :
    Calls Try.prog 41 #[v, .int .i64 x] w fun e w' => ∃ v', e = .returned v' ∧ IsInts w' v' (putL l x) ∧ Below w.heap.size w w' := by
  obtain ⟨a, cap, rfl, h1, h2⟩ := h
  refine (put_any a _ cap l x w rfl hl h1 h2).mono ?_
  rintro e w' ⟨a', cap', rfl, h3, h4, h5⟩
  rw [List.length_map] at h3 ⊢
  exact ⟨_, rfl, ⟨a', cap', rfl, h3, h4⟩, h5⟩
theorem IsInts.ret {w w' : World} {v : Value} {l : List Int} {err : Int} (h : IsInts w' v l) (hb : Below w.heap.size w w') : RetSlI 1 (l.map inRow) err w (.returned (.tuple #[v, .int .i64 err])) w' := by
  obtain ⟨a, cap, rfl, h1, h2⟩ := h
  refine ⟨a, cap, ?_, by rw [List.length_map]; exact h1, h2, hb⟩
  rw [List.length_map]
set_option maxHeartbeats 1000000 in
theorem Held_any (a : Option Addr) (n cap : Nat) (l : List Lo) (stand time : Int) (w : World) (hn : n = l.length) (hl : n ≤ 1000000) (hs : SlOk a n cap) (hr : LoAt w a l) :
    Calls Try.prog 18 #[.slice a n cap, .int .i64 stand, .int .i64 time] w (RetSlI 1 ((heldR l stand time).1.map inRow) (heldR l stand time).2 w) := by
  have HN := Lib.hid hn; clear hn
  have HS := Lib.hid hs; clear hs
  have HL := Lib.hid hl; clear hl
  go_enter Try.func18, Try.ntmps18
  go_wp2_with (first | (go_at_call 13; refine (Valid_any _ _ _ l _ HN.out HL.out HS.out hr).mono ?_; rintro e w' ⟨rfl, hb⟩; have HB := Lib.hid hb; clear hb) | (go_at_call 36; refine (Until_any _ _ _ l _ _ HN.out HL.out HS.out (hr.below HB.out)).mono ?_; rintro e w' ⟨rfl, rfl⟩) | (go_at_call 23; refine (ID_any _ _).mono ?_; rintro e w' ⟨rfl, rfl⟩) | (go_at_call 34; refine (Time_any _ _).mono ?_; rintro e w' ⟨rfl, rfl⟩))
  any_goals
    go_ret2
    go_tidy
    have e : heldR l stand time = ([], 1) := by simp_all [heldR]
    rw [e]
    exact RetSlI.none HB.out
  have hv : heldR l stand time = (heldF (upTo l time) stand (upTo l time).length, 0) := by
    go_tidy
    simp_all [heldR]
  have HV := Lib.hid hv; clear hv
  have hu : (upTo l time).length ≤ 1000000 := Nat.le_trans (upTo_len l time) (HN.out ▸ HL.out)
  have HU := Lib.hid ((hr.below HB.out).upTo time); clear hr
  go_wp2
  go_loopw [10, 11] (fun o i wr => ∃ k : Nat, k ≤ (upTo l time).length ∧ i = .int .i64 k ∧ IsInts wr o (heldF (upTo l time) stand k) ∧ Below w'.heap.size w' wr) (fun _ i _ => (upTo l time).length - (intOf i).toNat)
  case atStart => exact ⟨0, Nat.zero_le _, rfl, ⟨none, 0, rfl, SlOk.nil, SlAt.nil _ _ _⟩, Below.refl _ _⟩
  case round =>
    obtain ⟨k, hk, rfl, hi, hb⟩ := hrel
    have HI := Lib.hid hi; clear hi
    have HBW := Lib.hid hb; clear hb
    by_cases hlt : k < (upTo l time).length
    · obtain ⟨b, off, rfl, c0, c1, c2, c3, c4⟩ := (HU.out.below HBW.out).get k hlt
      go_wp2_with (first | (go_at_call 35; refine (holder_any _ _ _ (upTo l time) _ _ rfl hu (HU.out.below HBW.out)).mono ?_; rintro e w' ⟨rfl, rfl⟩) | (go_at_call 41; refine (put_is HI.out (Nat.le_trans (heldF_len _ _ _ hk) (Nat.le_trans hk hu)) _).mono ?_; rintro e w2 ⟨v2, rfl, hi2, hb2⟩; have HI2 := Lib.hid hi2; clear hi2; have HB2 := Lib.hid hb2; clear hb2))
      · have he : (hold (upTo l time) (upTo l time)[k].s == stand) = true := by assumption
        refine ⟨⟨k + 1, by omega, by go_num, ?_, HBW.out.trans (HB2.out.mono HBW.out.size)⟩, by simp [intOf]; omega⟩
        rw [heldF_succ _ _ _ hlt, if_pos (by simpa using he)]
        exact HI2.out
      · have he : (hold (upTo l time) (upTo l time)[k].s == stand) = false := by assumption
        refine ⟨⟨k + 1, by omega, by go_num, ?_, HBW.out⟩, by simp [intOf]; omega⟩
        rw [heldF_succ _ _ _ hlt, if_neg (by simpa using he)]
        exact HI.out
    · obtain rfl : k = (upTo l time).length := by omega
      go_wp2
      go_ret2
      rw [HV.out]
      exact HI.out.ret (HB.out.trans (HBW.out.mono HB.out.size))

/-- In which hall a sheet is behind some loans. -/
def hallF (s : List Lo) (sheet : Int) : Int := s.foldl (fun acc x => if x.s = sheet ∧ x.k = 3 then x.h else acc) 0
theorem hallF_succ (s : List Lo) (sheet : Int) (k : Nat) (h : k < s.length) : hallF (s.take (k + 1)) sheet = if s[k].s = sheet ∧ s[k].k = 3 then s[k].h else hallF (s.take k) sheet := by
  unfold hallF; rw [List.take_succ_eq_append_getElem h, List.foldl_append]; rfl
def hallR (l : List Lo) (sheet time : Int) : Int × Int :=
  if loansOk l && inB sheet 1 1000000 && inB time 0 1000000000 then (hallF (upTo l time) sheet, 0) else (0, 1)
set_option maxHeartbeats 1000000 in
theorem Hall_any (a : Option Addr) (n cap : Nat) (l : List Lo) (sheet time : Int) (w : World) (hn : n = l.length) (hl : n ≤ 1000000) (hs : SlOk a n cap) (hr : LoAt w a l) :
    Calls Try.prog 21 #[.slice a n cap, .int .i64 sheet, .int .i64 time] w fun e w' => e = .returned (.tuple #[.int .i64 (hallR l sheet time).1, .int .i64 (hallR l sheet time).2]) ∧ Below w.heap.size w w' := by
  have HN := Lib.hid hn; clear hn
  have HS := Lib.hid hs; clear hs
  have HL := Lib.hid hl; clear hl
  go_enter Try.func21, Try.ntmps21
  go_wp2_with (first | (go_at_call 13; refine (Valid_any _ _ _ l _ HN.out HL.out HS.out hr).mono ?_; rintro e w' ⟨rfl, hb⟩; have HB := Lib.hid hb; clear hb) | (go_at_call 36; refine (Until_any _ _ _ l _ _ HN.out HL.out HS.out (hr.below HB.out)).mono ?_; rintro e w' ⟨rfl, rfl⟩) | (go_at_call 23; refine (ID_any _ _).mono ?_; rintro e w' ⟨rfl, rfl⟩) | (go_at_call 34; refine (Time_any _ _).mono ?_; rintro e w' ⟨rfl, rfl⟩))
  any_goals
    go_ret2
    go_tidy
    have e : hallR l sheet time = (0, 1) := by simp_all [hallR]
    exact ⟨ret_ii (by rw [e]) (by rw [e]), HB.out⟩
  have hv : hallR l sheet time = (hallF (upTo l time) sheet, 0) := by
    go_tidy
    simp_all [hallR]
  have HV := Lib.hid hv; clear hv
  have hu : (upTo l time).length ≤ 1000000 := Nat.le_trans (upTo_len l time) (HN.out ▸ HL.out)
  have HU := Lib.hid ((hr.below HB.out).upTo time); clear hr
  go_wp2
  go_loop [10, 11] (fun o i => ∃ k : Nat, k ≤ (upTo l time).length ∧ i = .int .i64 k ∧ o = .int .i64 (hallF ((upTo l time).take k) sheet)) (fun _ i => (upTo l time).length - (intOf i).toNat)
  case atStart => exact ⟨0, Nat.zero_le _, rfl, rfl⟩
  case round =>
    obtain ⟨k, hk, rfl, rfl⟩ := hrel
    by_cases hlt : k < (upTo l time).length
    · obtain ⟨b, off, rfl, c0, c1, c2, c3, c4⟩ := HU.out.get k hlt
      have H := Lib.hid (hallF_succ (upTo l time) sheet k hlt)
      go_wp2
      · have h1 : (upTo l time)[k].s = sheet := by assumption
        have h2 : ((upTo l time)[k].k == 3) = true := by assumption
        exact ⟨⟨k + 1, by omega, by go_num, by rw [H.out, if_pos ⟨h1, by simpa using h2⟩]⟩, by simp [intOf]; omega⟩
      · have h2 : ((upTo l time)[k].k == 3) = false := by assumption
        exact ⟨⟨k + 1, by omega, by go_num, by rw [H.out, if_neg (fun h => by have := h.2; rw [this] at h2; cases h2)]⟩, by simp [intOf]; omega⟩
      · have h1 : ¬ (upTo l time)[k].s = sheet := by assumption
        exact ⟨⟨k + 1, by omega, by go_num, by rw [H.out, if_neg (fun h => h1 h.1)]⟩, by simp [intOf]; omega⟩
    · obtain rfl : k = (upTo l time).length := by omega
      go_wp2
      go_ret2
      exact ⟨ret_ii (by simp [HV.out]) (by rw [HV.out]), HB.out⟩

def lastT (l : List Lo) : Int := (l.getD (l.length - 1) lo0).t
/-- What Push gives. -/
def pushR (l : List Lo) (x : Lo) : List Lo × Int :=
  if !(loansOk l && loanOk x) then ([], 1) else if l.length == 20000 then ([], 2) else if decide (0 < l.length) && decide (x.t < lastT l) then ([], 6) else if !happens l x then ([], 51) else (l ++ [x], 0)
theorem lastT_eq (l : List Lo) (j : Nat) (h : l.length = j + 1) : lastT l = (l[j]'(by omega)).t := by
  have e : l.length - 1 = j := by omega
  unfold lastT; rw [e, getD_at l j (by omega)]
set_option maxHeartbeats 1000000 in
theorem Push_any (a : Option Addr) (n cap : Nat) (l : List Lo) (t k s st h : Int) (w : World) (hn : n = l.length) (hl : n ≤ 1000000) (hs : SlOk a n cap) (hr : LoAt w a l) :
    Calls Try.prog 11 #[.slice a n cap, .agg #[.int .i64 t, .int .i64 k, .int .i64 s, .int .i64 st, .int .i64 h]] w (RetSlI 5 ((pushR l ⟨t, k, s, st, h⟩).1.map Lo.cells) (pushR l ⟨t, k, s, st, h⟩).2 w) := by
  subst hn
  have HS := Lib.hid hs; clear hs
  have HL := Lib.hid hl; clear hl
  go_enter Try.func11, Try.ntmps11
  go_wp2_with (first | (go_at_call 13; refine (Valid_any _ _ _ l _ rfl HL.out HS.out (hr.alloc _)).mono ?_; rintro e w1 ⟨rfl, hb⟩; have HX1 := Lib.hid (box_below hb); have hc1 := box_cells HX1.out; have HB1 := Lib.hid (((Below.refl _ _).alloc (Nat.le_refl _) _).trans (hb.mono (by simp))); clear hb) | (go_at_call 25; refine (Loan_any _ _ _ _ _ _).mono ?_; rintro e w2 ⟨rfl, hb⟩; have HX2 := Lib.hid (blk_keep HX1.out hb); have hc2 := box_cells HX2.out; have HB2 := Lib.hid (HB1.out.trans (hb.mono HB1.out.size)); clear hb))
  · go_ret2
    go_tidy
    have e : pushR l ⟨t, k, s, st, h⟩ = ([], 1) := by simp_all [pushR]
    rw [e]; exact RetSlI.none HB2.out
  · go_ret2
    go_tidy
    have e : pushR l ⟨t, k, s, st, h⟩ = ([], 2) := by
      have hh : ((l.length : Int) == 20000) = true := by assumption
      have hh' : (l.length == 20000) = true := by simp at hh ⊢; omega
      simp_all [pushR]
    rw [e]; exact RetSlI.none HB2.out
  · have hv : loansOk l = true := by assumption
    have hf : loanOk ⟨t, k, s, st, h⟩ = true := not_f (by assumption)
    have h2 : ((l.length : Int) == 20000) = false := by assumption
    have h2' : (l.length == 20000) = false := by simp at h2 ⊢; omega
    have hp : pushR l ⟨t, k, s, st, h⟩ = if decide (0 < l.length) && decide (t < lastT l) then ([], 6) else if !happens l ⟨t, k, s, st, h⟩ then ([], 51) else (l ++ [⟨t, k, s, st, h⟩], 0) := by simp [pushR, hv, hf, h2']
    have HP := Lib.hid hp; clear hp h2' hc1
    have HR := Lib.hid (hr.below HB2.out); clear hr
    have hl2 : l.length ≤ 1000000 := HL.out
    by_cases h0 : l = []
    · have hd0 : decide (0 < l.length) = false := by simp [h0]
      have H0 := Lib.hid h0; clear h0
      go_quiet (fail)
      go_wp2_with (first | (go_at_call 31; refine (Happens_any _ _ _ l _ _ _ _ _ _ rfl HL.out (HR.out.below (below_drewN (Below.refl _ _) _))).mono ?_; rintro e w3 ⟨rfl, hb⟩; have HX3 := Lib.hid (blk_keep (blk_keep HX2.out (below_drewN (Below.refl _ _) nq)) hb); have hc3 := box_cells HX3.out; have HB3 := Lib.hid ((below_drewN HB2.out nq).trans (hb.mono (below_drewN HB2.out nq).size)); have HR3 := Lib.hid ((HR.out.below (below_drewN (Below.refl _ _) nq)).below hb); clear hb hc2) | (at_builtin; refine appE eltLoan rfl (.tmp 41) (.tmp 42) rfl w.heap.size _ [] rfl (OwnR.nil _ _ _ _) _ _ _ l rfl rfl HS.out.none HR3.out (by have := HL.out; simp; omega) HB3.out.size ?_; intro v4 w4 ho4 hg4; have HX4 := Lib.hid (blk_keep HX3.out (below_grown (Below.refl w3.heap.size w3) (OwnR.nil _ _ 24 5) (Nat.le_refl _) hg4)); have hc4 := box_cells HX4.out; have HB4 := Lib.hid (below_grown HB3.out (OwnR.nil _ _ 24 5) HB3.out.size hg4); have HO4 := Lib.hid ho4; clear ho4 hg4 hc3) | (at_builtin; refine appE eltLoan rfl (.tmp 44) (.tmp 46) rfl w.heap.size _ _ rfl (HO4.out.below ((Below.refl _ _).alloc (Nat.le_refl _) _)) _ _ _ [⟨t, k, s, st, h⟩] rfl rfl (fun e => by cases e) (eltLoan.new _ _ _ _ rfl) (by have := HL.out; simp; omega) (by have := HB4.out.size; simp; omega) ?_; intro v5 w5 ho5 hg5; have HB5 := Lib.hid (below_grown (HB4.out.alloc HB4.out.size _) (HO4.out.below ((Below.refl _ _).alloc (Nat.le_refl _) _)) (by have := HB4.out.size; simp; omega) hg5); have HO5 := Lib.hid ho5; clear ho5 hg5))
      · go_ret2
        have hh : happens l ⟨t, k, s, st, h⟩ = false := not_t (by assumption)
        have e : pushR l ⟨t, k, s, st, h⟩ = ([], 51) := by rw [HP.out, show (decide (0 < l.length) && decide (t < lastT l)) = false by rw [hd0]; rfl, if_neg (by simp), hh]; rfl
        rw [e]; exact RetSlI.none HB3.out
      · go_ret2
        have hh : happens l ⟨t, k, s, st, h⟩ = true := not_f (by assumption)
        have e : pushR l ⟨t, k, s, st, h⟩ = (l ++ [⟨t, k, s, st, h⟩], 0) := by rw [HP.out, show (decide (0 < l.length) && decide (t < lastT l)) = false by rw [hd0]; rfl, if_neg (by simp), hh]; rfl
        rw [e]; exact HO5.out.retSlI rfl HB5.out
    · have hpos : 0 < l.length := List.length_pos_iff.2 h0
      obtain ⟨j, hj⟩ : ∃ j, l.length = j + 1 := ⟨l.length - 1, by omega⟩
      have HJ := Lib.hid hj; clear hj
      have hk1 : (l.length : Int) - 1 = (j : Int) := by have := HJ.out; omega
      obtain ⟨b, off, rfl, d0, _, _, _, _⟩ := HR.out.get j (by have := HJ.out; omega)
      have hd0 : decide (0 < l.length) = true := by simpa using hpos
      have hjl : j < l.length := by have := HJ.out; omega
      go_quiet (fail)
      cases hd : decide (t < l[j].t)
      · go_wp2_with (first | (go_at_call 31; refine (Happens_any _ _ _ l _ _ _ _ _ _ rfl HL.out (HR.out.below (below_drewN (Below.refl _ _) _))).mono ?_; rintro e w3 ⟨rfl, hb⟩; have HX3 := Lib.hid (blk_keep (blk_keep HX2.out (below_drewN (Below.refl _ _) nq)) hb); have hc3 := box_cells HX3.out; have HB3 := Lib.hid ((below_drewN HB2.out nq).trans (hb.mono (below_drewN HB2.out nq).size)); have HR3 := Lib.hid ((HR.out.below (below_drewN (Below.refl _ _) nq)).below hb); clear hb hc2) | (at_builtin; refine appE eltLoan rfl (.tmp 41) (.tmp 42) rfl w.heap.size _ [] rfl (OwnR.nil _ _ _ _) _ _ _ l rfl rfl HS.out.none HR3.out (by have := HL.out; simp; omega) HB3.out.size ?_; intro v4 w4 ho4 hg4; have HX4 := Lib.hid (blk_keep HX3.out (below_grown (Below.refl w3.heap.size w3) (OwnR.nil _ _ 24 5) (Nat.le_refl _) hg4)); have hc4 := box_cells HX4.out; have HB4 := Lib.hid (below_grown HB3.out (OwnR.nil _ _ 24 5) HB3.out.size hg4); have HO4 := Lib.hid ho4; clear ho4 hg4 hc3) | (at_builtin; refine appE eltLoan rfl (.tmp 44) (.tmp 46) rfl w.heap.size _ _ rfl (HO4.out.below ((Below.refl _ _).alloc (Nat.le_refl _) _)) _ _ _ [⟨t, k, s, st, h⟩] rfl rfl (fun e => by cases e) (eltLoan.new _ _ _ _ rfl) (by have := HL.out; simp; omega) (by have := HB4.out.size; simp; omega) ?_; intro v5 w5 ho5 hg5; have HB5 := Lib.hid (below_grown (HB4.out.alloc HB4.out.size _) (HO4.out.below ((Below.refl _ _).alloc (Nat.le_refl _) _)) (by have := HB4.out.size; simp; omega) hg5); have HO5 := Lib.hid ho5; clear ho5 hg5))
        · go_ret2
          have hh : happens l ⟨t, k, s, st, h⟩ = false := not_t (by assumption)
          have e : pushR l ⟨t, k, s, st, h⟩ = ([], 51) := by rw [HP.out, show (decide (0 < l.length) && decide (t < lastT l)) = false by rw [lastT_eq l j HJ.out, hd, Bool.and_false], if_neg (by simp), hh]; rfl
          rw [e]; exact RetSlI.none HB3.out
        · go_ret2
          have hh : happens l ⟨t, k, s, st, h⟩ = true := not_f (by assumption)
          have e : pushR l ⟨t, k, s, st, h⟩ = (l ++ [⟨t, k, s, st, h⟩], 0) := by rw [HP.out, show (decide (0 < l.length) && decide (t < lastT l)) = false by rw [lastT_eq l j HJ.out, hd, Bool.and_false], if_neg (by simp), hh]; rfl
          rw [e]; exact HO5.out.retSlI rfl HB5.out
      · go_wp2
        go_ret2
        have e : pushR l ⟨t, k, s, st, h⟩ = ([], 6) := by rw [HP.out, show (decide (0 < l.length) && decide (t < lastT l)) = true by rw [hd0, lastT_eq l j HJ.out, hd]; rfl, if_pos rfl]
        rw [e]; exact RetSlI.none (below_drewN HB2.out nq)
  · go_ret2
    go_tidy
    have e : pushR l ⟨t, k, s, st, h⟩ = ([], 1) := by simp_all [pushR]
    rw [e]; exact RetSlI.none HB2.out

end Go.Proofs.Ytokhligpjbdhcaa
