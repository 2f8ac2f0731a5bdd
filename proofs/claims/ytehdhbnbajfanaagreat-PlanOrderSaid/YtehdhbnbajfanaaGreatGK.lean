/- Texts of this seat, laid together: MatchRBest, PlanR36c, PlanR36d, PlanR36e, PlanR36f. -/
import Derived.Test.YtehdhbnbajfanaaGreatGH
import Derived.Test.YtehdhbnbajfanaaGreatGJ

/- The reference's Best is the least matching of least cost: plain laws, walked; it says what match.Best says. For at most 10^14 rows. -/
namespace Go.Proofs.YtehdhbnbajfanaaGreat
set_option linter.unusedSimpArgs false
set_option linter.unusedVariables false
open Go.RowKit Go.Sort Go.Shelf

abbrev MtC (c : List (List Int)) (g : Nat → Nat) : Prop := Mt (may (cc c)) (fun i => i < c.length) (wideL c) g
abbrev costC (c : List (List Int)) (g : Nat → Nat) : Int := costOf (cc c) c.length g
theorem only_len (c : List (List Int)) (i k : Nat) : (onlyC c i k).length = c.length := tab_len _ _ _
theorem only_wide {c : List (List Int)} (h : 0 < c.length) (i k : Nat) : wideL (onlyC c i k) = wideL c := tab_wide h
theorem only_mt {c : List (List Int)} {i k : Nat} (hi : i < c.length) {g : Nat → Nat} : MtC (onlyC c i k) g ↔ MtC c g ∧ g i = k := by
  unfold MtC
  rw [only_len, only_wide (by omega)]
  constructor
  · intro h
    have hc : ∀ j, j < c.length → may (cc c) j (g j) = true ∧ (j = i → g j = k) := fun j hj => by
      have := (may_iff _ _ _).1 (h.can j hj)
      have e : cc (onlyC c i k) j (g j) = onlyF c i k j (g j) := tab_cc hj (h.lt j hj)
      rw [e] at this
      unfold onlyF at this
      split at this
      · omega
      · rename_i q
        refine ⟨(may_iff _ _ _).2 this, fun e => ?_⟩
        have := h.lt j hj
        exact Classical.byContradiction fun n => q ⟨e, n⟩
    exact ⟨⟨h.lt, fun j hj => (hc j hj).1, h.inj⟩, (hc i hi).2 rfl⟩
  · rintro ⟨h, hk⟩
    refine ⟨h.lt, fun j hj => ?_, h.inj⟩
    have e : cc (onlyC c i k) j (g j) = onlyF c i k j (g j) := tab_cc hj (h.lt j hj)
    rw [may_iff, e]
    unfold onlyF
    rw [if_neg (fun q => q.2 (by rw [q.1]; exact hk))]
    exact (may_iff _ _ _).1 (h.can j hj)
theorem only_cost {c : List (List Int)} {i k : Nat} (hi : i < c.length) {g : Nat → Nat} (h : MtC c g) (hk : g i = k) : costC (onlyC c i k) g = costC c g := by
  unfold costC costOf
  rw [only_len]
  refine sumN_congr fun j hj => ?_
  have e : cc (onlyC c i k) j (g j) = onlyF c i k j (g j) := tab_cc hj (h.lt j hj)
  rw [e]
  unfold onlyF
  rw [if_neg (fun q => q.2 (by rw [q.1]; exact hk))]
/-- Costs d in which the first rows can get the columns l alone; L is the least cost. -/
structure Cur (c : List (List Int)) (L : Int) (l : List Nat) (d : List (List Int)) : Prop where
  len : d.length = c.length
  wid : wideL d = wideL c
  frm : formE d = 0
  mt : ∀ g, MtC d g ↔ MtC c g ∧ ∀ j, j < l.length → g j = l.getD j 0
  cost : ∀ g, MtC d g → costC d g = costC c g
  ex : ∃ f, MtC d f ∧ costC c f = L
  low : ∀ g, MtC c g → L ≤ costC c g
  min : ∀ j, j < l.length → ∀ g, MtC c g → costC c g = L → (∀ j', j' < j → g j' = l.getD j' 0) → l.getD j 0 ≤ g j
  ll : l.length ≤ c.length
theorem Cur.start {c : List (List Int)} {L : Int} (he : formE c = 0) (h : LeastSays c L) (h0 : 0 ≤ L) : Cur c L [] c := by
  rcases h with ⟨e, _⟩ | ⟨_, ⟨f, h1, h2⟩, h3⟩
  · omega
  · exact ⟨rfl, rfl, he, fun g => ⟨fun h => ⟨h, fun j hj => absurd hj (Nat.not_lt_zero _)⟩, fun h => h.1⟩, fun _ _ => rfl, ⟨f, h1, h2⟩, h3, fun j hj => absurd hj (Nat.not_lt_zero _), Nat.zero_le _⟩
/-- The columns below k cannot come. -/
def NotR (c : List (List Int)) (L : Int) (l : List Nat) (k : Nat) : Prop := ∀ g, MtC c g → costC c g = L → (∀ j, j < l.length → g j = l.getD j 0) → k ≤ g l.length
theorem NotR.zero (c : List (List Int)) (L : Int) (l : List Nat) : NotR c L l 0 := fun _ _ _ _ => Nat.zero_le _
theorem Cur.bound {c d : List (List Int)} {L : Int} {l : List Nat} {k : Nat} (u : Cur c L l d) (n : NotR c L l k) (hl : l.length < c.length) : k < wideL c := by
  obtain ⟨f, h1, h2⟩ := u.ex
  obtain ⟨h3, h4⟩ := (u.mt f).1 h1
  have := n f h3 h2 h4
  have := h3.lt _ hl
  omega
theorem Cur.neg {c d : List (List Int)} {L : Int} {l : List Nat} {k : Nat} (u : Cur c L l d) (n : NotR c L l k) (hl : l.length < c.length) (h : cc d l.length k < 0) : NotR c L l (k + 1) := fun g h1 h2 h3 => by
  have h4 := n g h1 h2 h3
  have h5 := ((u.mt g).2 ⟨h1, h3⟩).can l.length (by rw [u.len]; exact hl)
  rw [may_iff] at h5
  have : g l.length ≠ k := fun e => by rw [e] at h5; omega
  omega
theorem Cur.other {c d : List (List Int)} {L X : Int} {l : List Nat} {k : Nat} (u : Cur c L l d) (n : NotR c L l k) (hl : l.length < c.length) (h : LeastSays (onlyC d l.length k) X) (hx : X ≠ L) : NotR c L l (k + 1) := fun g h1 h2 h3 => by
  have h4 := n g h1 h2 h3
  have hld : l.length < d.length := by rw [u.len]; exact hl
  have : g l.length ≠ k := fun e => by
    have hd := (u.mt g).2 ⟨h1, h3⟩
    have ho := (only_mt hld).2 ⟨hd, e⟩
    have hc := (only_cost hld hd e).trans (u.cost g hd)
    rcases h with ⟨_, h⟩ | ⟨_, ⟨f, f1, f2⟩, h⟩
    · exact h ⟨g, ho⟩
    · have q1 := h g ho
      obtain ⟨q2, q3⟩ := (only_mt hld).1 f1
      have q4 := (only_cost hld q2 q3).trans (u.cost f q2)
      have q5 := u.low f ((u.mt f).1 q2).1
      have f2 : costC (onlyC d l.length k) f = X := f2
      have q1 : X ≤ costC (onlyC d l.length k) g := q1
      omega
  omega
theorem Cur.take {c d : List (List Int)} {L : Int} {l : List Nat} {k : Nat} (u : Cur c L l d) (n : NotR c L l k) (hl : l.length < c.length) (h : LeastSays (onlyC d l.length k) L) (h0 : 0 ≤ L) : Cur c L (l ++ [k]) (onlyC d l.length k) := by
  have hld : l.length < d.length := by rw [u.len]; exact hl
  have pre : ∀ g : Nat → Nat, (∀ j, j < (l ++ [k]).length → g j = (l ++ [k]).getD j 0) ↔ (∀ j, j < l.length → g j = l.getD j 0) ∧ g l.length = k := fun g => by
    rw [List.length_append]
    constructor
    · intro q
      refine ⟨fun j hj => ?_, ?_⟩
      · have := q j (by simp; omega)
        rw [getD_app, if_pos hj] at this; exact this
      · have := q l.length (by simp)
        rw [getD_app, if_neg (by omega), if_pos rfl] at this; exact this
    · rintro ⟨q1, q2⟩ j hj
      rw [getD_app]
      by_cases e : j < l.length
      · rw [if_pos e]; exact q1 j e
      · have : j = l.length := by simp at hj; omega
        rw [if_neg e, if_pos this, this]; exact q2
  refine ⟨(only_len _ _ _).trans u.len, (only_wide (by omega) _ _).trans u.wid, only_form u.frm _ _, fun g => ?_, fun g hg => ?_, ?_, u.low, fun j hj g h1 h2 h3 => ?_, by rw [List.length_append]; simp; omega⟩
  · rw [only_mt hld, u.mt, pre, and_assoc]
  · obtain ⟨q2, q3⟩ := (only_mt hld).1 hg
    exact (only_cost hld q2 q3).trans (u.cost g q2)
  · rcases h with ⟨e, _⟩ | ⟨_, ⟨f, f1, f2⟩, _⟩
    · omega
    · obtain ⟨q2, q3⟩ := (only_mt hld).1 f1
      refine ⟨f, f1, ?_⟩
      rw [← u.cost f q2, ← only_cost hld q2 q3]; exact f2
  · rw [List.length_append] at hj
    by_cases e : j < l.length
    · rw [getD_app, if_pos e]
      exact u.min j e g h1 h2 fun j' hj' => by
        have := h3 j' hj'
        rw [getD_app, if_pos (by omega)] at this; exact this
    · have : j = l.length := by simp at hj; omega
      subst this
      rw [getD_app, if_neg (by omega), if_pos rfl]
      exact n g h1 h2 fun j' hj' => by
        have := h3 j' hj'
        rw [getD_app, if_pos hj'] at this; exact this
/-- What the reference's Best says. -/
def RBestSays (c : List (List Int)) (l : List Nat) (total : Int) (ok : Bool) (err : Int) : Prop :=
  (formE c ≠ 0 ∧ l = [] ∧ total = 0 ∧ ok = false ∧ err = formE c) ∨ (formE c = 0 ∧ err = 0 ∧ ¬ Mtd (may (cc c)) (fun i => i < c.length) (wideL c) ∧ l = [] ∧ total = 0 ∧ ok = false) ∨
    (formE c = 0 ∧ err = 0 ∧ ok = true ∧ l.length = c.length ∧ ∃ d, Cur c total l d)
/-- It is what match.Best says. -/
theorem best_same {c : List (List Int)} {l l' : List Nat} {t t' : Int} {ok ok' : Bool} {e e' : Int} (h : BestSays c l t ok e) (h' : RBestSays c l' t' ok' e') : l = l' ∧ t = t' ∧ ok = ok' ∧ e = e' := by
  have he := best_err h
  rcases h' with ⟨q1, q2, q3, q4, q5⟩ | ⟨q1, q2, q3, q4, q5, q6⟩ | ⟨q1, q2, q3, q4, d, u⟩
  · rcases h with ⟨h1, h2, h3, h4, h5⟩ | ⟨h1, _⟩ | ⟨h1, _⟩
    · exact ⟨by rw [h2, q2], by rw [h3, q3], by rw [h4, q4], by rw [h5, q5]⟩
    · exact absurd h1 q1
    · exact absurd h1 q1
  · have hok := best_no h q3
    obtain ⟨h1, h2, h3, h4⟩ := best_not h hok
    exact ⟨by rw [h1, q4], by rw [h2, q5], by rw [hok, q6], by rw [h3, q2, q1]⟩
  · obtain ⟨f, f1, f2⟩ := u.ex
    have f3 := ((u.mt f).1 f1).1
    have hok := best_ok h q1 ⟨f, f3⟩
    obtain ⟨a, b, _, H, _, h2, h3⟩ := best_has h hok
    have t1 := tight_eq H.fair H.tight
    have t2 := totL_cost H.len
    have ht : t = t' := by
      have g1 := H.least f3
      have g2 := u.low _ H.tight.mt
      have f2 : costC c f = t' := f2
      unfold costC at f2 g2
      omega
    subst ht
    refine ⟨?_, rfl, by rw [hok, q3], by rw [h2, q2]⟩
    -- the function of the reference's columns
    have m' : MtC c (fun i => l'.getD i 0) ∧ costC c (fun i => l'.getD i 0) = t := by
      have hcol := ((u.mt f).1 f1).2
      refine ⟨⟨fun i hi => ?_, fun i hi => ?_, fun i j hi hj e => ?_⟩, ?_⟩
      · rw [← hcol i (by omega)]; exact f3.lt i hi
      · rw [← hcol i (by omega)]; exact f3.can i hi
      · rw [← hcol i (by omega), ← hcol j (by omega)] at e; exact f3.inj i j hi hj e
      · rw [← f2]
        unfold costC costOf
        exact sumN_congr fun i hi => by
          show cc c i (l'.getD i 0) = cc c i (f i)
          rw [hcol i (by omega)]
    have key : ∀ j, j < c.length → l.getD j 0 = l'.getD j 0 := by
      intro j
      induction j using Nat.strongRecOn with
      | _ j ih =>
      intro hj
      have g1 := u.min j (by omega) (fun i => l.getD i 0) H.tight.mt (by unfold costC; rw [← t2, h3]) fun j' hj' => ih j' hj' (by omega)
      have g2 := H.min (fun i => l'.getD i 0) (H.tightOf m'.1 (by have := m'.2; unfold costC at this; omega)) j hj fun j' hj' => (ih j' hj' (by omega)).symm
      omega
    refine List.ext_getElem (by rw [H.len, q4]) fun i a1 a2 => ?_
    have := key i (by rw [← H.len]; exact a1)
    simpa [List.getD, a1, a2] using this
def RBestPost (c : List (List Int)) (w : World) (e : Ending) (w' : World) : Prop :=
  ∃ (l : List Nat) (total : Int) (ok : Bool) (err : Int) (a : Option Addr) (cap : Nat), e = .returned (.tuple #[.slice a l.length cap, .int .i64 total, .bool ok, .int .i64 err]) ∧ RBestSays c l total ok err ∧ SlOk a l.length cap ∧ SlAt w' a 1 (l.map metRow) ∧ Below w.heap.size w w'
set_option maxRecDepth 100000 in
set_option maxHeartbeats 8000000 in
theorem RBest_any (a : Option Addr) (cap : Nat) (c : List (List Int)) (w : World) (hl : c.length ≤ 100000000000000) (hm : MatAt w a c) :
    Calls Tryz.prog 31 #[.slice a c.length cap] w (RBestPost c w) := by
  have HM := Lib.hid hm; clear hm
  go_enter Tryz.func31, Tryz.ntmps31
  go_wp2_with (fail)
  refine (RForm_any a cap c w hl HM.out).mono ?_
  rintro e w1 ⟨rfl, hb1⟩
  have HB := Lib.hid hb1
  clear hb1
  by_cases he : formE c = 0
  · have HE := Lib.hid he
    rw [he]
    clear he
    obtain ⟨h200, hw200, hf, hf4⟩ := formE_ok HE.out
    clear hf hf4
    go_wp2_with (fail)
    refine (Rleast_any a cap c _ HE.out (HM.out.below HB.out)).mono ?_
    rintro e w2 ⟨L, rfl, hL, hb2⟩
    replace HB := Lib.hid (HB.out.trans (hb2.mono HB.out.size))
    have HLS := Lib.hid hL
    clear hb2 hL
    by_cases h0 : L < 0
    · go_wp2
      refine bodyPost_ret (v := .tuple #[.slice none 0 0, .int .i64 0, .bool false, .int .i64 0]) (by simp [results, Tryz.results31, go_sem]) rfl ?_
      refine ⟨[], 0, false, 0, none, 0, rfl, .inr (.inl ⟨HE.out, rfl, ?_, rfl, rfl, rfl⟩), SlOk.nil, SlAt.nil _ _ _, HB.out⟩
      rcases HLS.out with ⟨_, h⟩ | ⟨h, _⟩
      · exact h
      · omega
    · have hL0 : 0 ≤ L := by omega
      have HCU := Lib.hid (Cur.start HE.out HLS.out hL0)
      clear h0 HLS
      go_wp2
      go_loopw [0, 8, 9] (fun s0 s8 s9 wr => ∃ (a' : Option Addr) (cap' : Nat) (d : List (List Int)) (l : List Nat), s0 = .slice a' c.length cap' ∧ s9 = .int .i64 l.length ∧ OwnR wr w.heap.size 3 1 s8 (l.map metRow) ∧ MatAt wr a' d ∧ Cur c L l d ∧ Below w.heap.size w wr) (fun _ _ i _ => c.length - (intOf i).toNat)
      case atStart => exact ⟨a, cap, c, [], rfl, rfl, OwnR.nil _ _ _ _, HM.out.below HB.out, HCU.out, HB.out⟩
      case round =>
        clear HB HCU
        obtain ⟨a', cap', d, l, rfl, rfl, ho, hmd, hcu, hb⟩ := hrel
        have HO := Lib.hid ho; have HMD := Lib.hid hmd; have HCU := Lib.hid hcu; have HB := Lib.hid hb
        have hll := hcu.ll
        clear ho hmd hcu hb
        by_cases hlt : l.length < c.length
        · go_wp2
          go_loopw [10] (fun s10 wr => ∃ k : Nat, s10 = .int .i64 k ∧ k ≤ wideL c ∧ NotR c L l k ∧ OwnR wr w.heap.size 3 1 u8 (l.map metRow) ∧ MatAt wr a' d ∧ Below w.heap.size w wr) (fun i _ => wideL c - (intOf i).toNat)
          case atStart => exact ⟨0, rfl, Nat.zero_le _, NotR.zero _ _ _, HO.out, HMD.out, HB.out⟩
          case round =>
            clear HO HMD HB
            obtain ⟨k, rfl, _, hnr, ho, hmd, hb⟩ := hrel
            have HO := Lib.hid ho; have HMD := Lib.hid hmd; have HNR := Lib.hid hnr; have HB := Lib.hid hb
            have hkn := Cur.bound HCU.out hnr hlt
            clear ho hmd hnr hb
            have hld := Lib.hid (show l.length < d.length by rw [HCU.out.len]; exact hlt)
            obtain ⟨bc, oc, ai, ci, rfl, c0, _, hik⟩ := HMD.out.get l.length hld.out
            have hlen : (d[l.length]'hld.out).length = wideL c := by rw [← HCU.out.wid]; exact (formE_ok HCU.out.frm).2.2.1 _ (List.getElem_mem _)
            have HCI := Lib.hid (show ∃ ci', ci' = ci from ⟨_, rfl⟩)
            obtain ⟨b3, o3, rfl, e0⟩ := hik.get k (by omega)
            rw [← cc_get hld.out (by omega)] at e0
            replace c0 : wr.cell? ⟨bc, oc + l.length, none⟩ = some (.slice (some ⟨b3, o3, none⟩) (wideL c) ci) := by rw [← hlen]; exact c0
            clear hik hlen
            generalize hX : cc d l.length k = X at *
            have HX := Lib.hid hX; clear hX
            by_cases hx : X < 0
            · have HN2 := Lib.hid (HCU.out.neg HNR.out hlt (by rw [HX.out]; exact hx))
              go_wp2
              go_roundw
              case rel => exact ⟨k + 1, by go_num, by omega, HN2.out, HO.out, HMD.out, HB.out⟩
              case measure => simp [intOf]; omega
            · go_wp2_with (fail)
              have hon := Ronly_any (some ⟨bc, oc, none⟩) cap' d l.length k wr HCU.out.frm (by rw [HCU.out.wid]; omega) hld.out (by rw [HCU.out.wid]; exact hkn) HMD.out
              unfold OnlyPost at hon
              rw [HCU.out.len] at hon
              refine hon.mono ?_
              rintro e w3 ⟨a3, cap3, rfl, _, hm3, hb3, _⟩
              have HM3 := Lib.hid hm3; have HB3 := Lib.hid hb3
              clear hon hm3 hb3
              go_wp2_with (fail)
              have hle := Rleast_any a3 cap3 (onlyC d l.length k) w3 (only_form HCU.out.frm _ _) HM3.out
              rw [only_len, HCU.out.len] at hle
              refine hle.mono ?_
              rintro e w4 ⟨Y, rfl, hY, hb4⟩
              have HY := Lib.hid hY
              have HB4 := Lib.hid (HB3.out.trans (hb4.mono HB3.out.size))
              clear hle hY hb4 HB3 HM3
              replace HO := Lib.hid (HO.out.below HB4.out)
              replace HMD := Lib.hid (HMD.out.below HB4.out)
              replace HB := Lib.hid (HB.out.trans (HB4.out.mono HB.out.size))
              clear HB4
              by_cases hyl : Y = L
              · have e1 : (Y != L) = false := by simp [hyl]
                have HTK := Lib.hid (HCU.out.take HNR.out hlt (hyl ▸ HY.out) hL0)
                clear hyl
                go_wp2_with (fail)
                have hon := Ronly_any (some ⟨bc, oc, none⟩) cap' d l.length k w4 HCU.out.frm (by rw [HCU.out.wid]; omega) hld.out (by rw [HCU.out.wid]; exact hkn) HMD.out
                unfold OnlyPost at hon
                rw [HCU.out.len] at hon
                refine hon.mono ?_
                rintro e w5 ⟨a5, cap5, rfl, _, hm5, hb5, hk5⟩
                have HK5 := Lib.hid hk5; have HOL := Lib.hid (fun b e => (HO.out.lt b e).2); have HS5 := Lib.hid hb5.size
                have HM5 := Lib.hid hm5
                replace HO := Lib.hid (HO.out.below hb5)
                replace HB := Lib.hid (HB.out.trans (hb5.mono HB.out.size))
                clear hon hm5 hb5 hk5
                go_wp2_with (at_builtin; refine appE eltMet rfl (.tmp 49) (.tmp 51) rfl w.heap.size _ l rfl (HO.out.below ((Below.refl _ _).alloc (Nat.le_refl _) _)) _ _ _ [k] rfl rfl (fun e => by cases e) (eltMet.new _ _ _ _ rfl) (by simp; omega) (by have := HB.out.size; simp; omega) ?_; intro v1 w6 ho1 hg1; have HO1 := Lib.hid ho1; have HB1 := Lib.hid (below_grown (HB.out.alloc HB.out.size _) (HO.out.below ((Below.refl _ _).alloc (Nat.le_refl _) _)) (by have := HB.out.size; simp; omega) hg1); have HM6 := Lib.hid (HK5.out w6 fun b h1 h2 => (hg1.block b (by simp; omega) (fun e => by have := HOL.out b e.symm; omega)).trans (((Below.refl w5.heap.size w5).alloc (Nat.le_refl _) _).block b h2)); clear ho1 hg1)
                go_roundw
                case rel => exact ⟨a5, cap5, _, l ++ [k], rfl, by simp, HO1.out, HM6.out, HTK.out, HB1.out⟩
                case measure => simp [intOf]; omega
              · have e1 : (Y != L) = true := by simpa using hyl
                have HN2 := Lib.hid (HCU.out.other HNR.out hlt HY.out hyl)
                clear hyl
                go_wp2
                go_roundw
                case rel => exact ⟨k + 1, by go_num, by omega, HN2.out, HO.out, HMD.out, HB.out⟩
                case measure => simp [intOf]; omega
        · have hle : l.length = c.length := by omega
          have HLE := Lib.hid hle
          obtain ⟨a6, c6, rfl, s6, i6⟩ := HO.out.slAt
          rw [List.length_map] at s6
          have HS6 := Lib.hid s6; have HI6 := Lib.hid i6
          clear hle s6 i6
          go_wp2
          refine bodyPost_ret (v := .tuple #[.slice a6 (l.map metRow).length c6, .int .i64 L, .bool true, .int .i64 0]) (by simp [results, Tryz.results31, go_sem]) rfl ?_
          exact ⟨l, L, true, 0, a6, c6, by rw [List.length_map], .inr (.inr ⟨HE.out, rfl, rfl, HLE.out, d, HCU.out⟩), HS6.out, HI6.out, HB.out⟩
  · go_wp2
    refine bodyPost_ret (v := .tuple #[.slice none 0 0, .int .i64 0, .bool false, .int .i64 (formE c)]) (by simp [results, Tryz.results31, go_sem]) rfl ?_
    exact ⟨[], 0, false, formE c, none, 0, rfl, .inl ⟨he, rfl, rfl, rfl, rfl⟩, SlOk.nil, SlAt.nil _ _ _, HB.out⟩
end Go.Proofs.YtehdhbnbajfanaaGreat


/- The reference's Plan: walked; for not too many demands, editions, copies. -/
namespace Go.Proofs.YtehdhbnbajfanaaGreat
set_option linter.unusedSimpArgs false
set_option linter.unusedVariables false
open Go.RowKit Go.Sort

/-- What is given: demand, copy, cost. -/
abbrev Gv := Int × Int × Int
def Gv.cells (g : Gv) : List Value := [.int .i64 g.1, .int .i64 g.2.1, .int .i64 g.2.2]
theorem eltGv : Elt Tryz.prog 27 42 3 24 Gv.cells := ⟨Tryz.underlying27, ⟨.agg #[.int .i64 0, .int .i64 0, .int .i64 0], by kernel_rfl, rfl⟩, by decide, by decide, fun _ => rfl, fun x u hu => by
  simp [Gv.cells] at hu
  rcases hu with rfl | rfl | rfl <;> rfl⟩
/-- The plan that columns make. -/
def planF (ds : List De) (cs : List Co) (hall : Int) (l : List Nat) (i : Nat) : Gv := ((ds.getD i default).id, (cs.getD (l.getD i 0) default).id, costF ds cs hall i (l.getD i 0))
def planL (ds : List De) (cs : List Co) (hall : Int) (l : List Nat) : List Gv := (List.range ds.length).map (planF ds cs hall l)
theorem planL_len (ds : List De) (cs : List Co) (hall : Int) (l : List Nat) : (planL ds cs hall l).length = ds.length := by simp [planL]
theorem planF_at {ds : List De} {cs : List Co} {hall : Int} {l : List Nat} {i : Nat} (hi : i < ds.length) (hl : i < l.length) (hk : l[i] < cs.length) : planF ds cs hall l i = (ds[i].id, cs[l[i]].id, costI ds[i] cs[l[i]] hall) := by
  have e : l.getD i 0 = l[i] := by simp [List.getD, hl]
  unfold planF
  rw [e, costF_at hi hk]
  simp [List.getD, hi, hk]
theorem metB_mtd {ds : List De} {cs : List Co} (h : Int) : metB cs ds = true ↔ Mtd (may (cc (costM ds cs h))) (fun i => i < (costM ds cs h).length) (wideL (costM ds cs h)) := by
  rw [metB_iff, met_hall h, costM_len]
  by_cases h0 : 0 < ds.length
  · rw [costM_wide h0]
  · have : ds.length = 0 := by omega
    rw [this]
    exact ⟨fun _ => ⟨fun _ => 0, fun i hi => by omega, fun i hi => by omega, fun i j hi => by omega⟩, fun _ => ⟨fun _ => 0, fun i hi => by omega, fun i hi => by omega, fun i j hi => by omega⟩⟩
/-- What Plan says; P tells of the columns. -/
def PlanPost (P : List (List Int) → List Nat → Prop) (ds : List De) (cs : List Co) (hall : Int) (w : World) (e : Ending) (w' : World) : Prop :=
  Below w.heap.size w w' ∧ (((validB ds cs && inR 0 99 hall) = false ∧ e = .returned (.tuple #[.slice none 0 0, .slice none 0 0, .bool false, .int .i64 1])) ∨
    ((validB ds cs && inR 0 99 hall) = true ∧ metB cs ds = false ∧ ∃ a cap, e = .returned (.tuple #[.slice none 0 0, .slice a (answerL cs ds).length cap, .bool false, .int .i64 0]) ∧ SlOk a (answerL cs ds).length cap ∧ InAt w' a (answerL cs ds)) ∨
    ((validB ds cs && inR 0 99 hall) = true ∧ metB cs ds = true ∧ ∃ l a cap, e = .returned (.tuple #[.slice a ds.length cap, .slice none 0 0, .bool true, .int .i64 0]) ∧ SlOk a ds.length cap ∧ SlAt w' a 3 ((planL ds cs hall l).map Gv.cells) ∧ P (costM ds cs hall) l))
def RTo (c : List (List Int)) (l : List Nat) : Prop := ∃ t, RBestSays c l t true 0
def BTo (c : List (List Int)) (l : List Nat) : Prop := ∃ t, BestSays c l t true 0
theorem to_same {c : List (List Int)} {l l' : List Nat} (h : BTo c l) (h' : RTo c l') : l = l' := by
  obtain ⟨t, h⟩ := h; obtain ⟨t', h'⟩ := h'
  exact (best_same h h').1
theorem RTo.mt {c : List (List Int)} {l : List Nat} (h : RTo c l) : l.length = c.length ∧ ∀ i (hi : i < l.length), l[i] < wideL c := by
  obtain ⟨t, ⟨_, _, _, h, _⟩ | ⟨_, _, _, _, _, h⟩ | ⟨_, _, _, h4, d, u⟩⟩ := h
  · cases h
  · cases h
  · refine ⟨h4, fun i hi => ?_⟩
    obtain ⟨f, f1, f2⟩ := u.ex
    obtain ⟨f3, hcol⟩ := (u.mt f).1 f1
    have h5 := f3.lt i (by omega)
    rw [hcol i (by omega)] at h5
    simpa [List.getD, hi] using h5
theorem BTo.mt {c : List (List Int)} {l : List Nat} (h : BTo c l) : l.length = c.length ∧ ∀ i (hi : i < l.length), l[i] < wideL c := by
  obtain ⟨t, h⟩ := h
  obtain ⟨u, v, _, b, _⟩ := best_has h rfl
  refine ⟨b.len, fun i hi => ?_⟩
  have h5 := b.tight.mt.lt i (by have := b.len; omega)
  simpa [List.getD, hi] using h5
theorem rto_of {c : List (List Int)} {l : List Nat} {t : Int} {ok : Bool} {e : Int} (h : RBestSays c l t ok e) (h0 : formE c = 0) (hm : Mtd (may (cc c)) (fun i => i < c.length) (wideL c)) : RTo c l := by
  have h1 := h
  rcases h with ⟨h, _⟩ | ⟨_, _, h, _⟩ | ⟨_, rfl, rfl, h4, d, u⟩
  · exact absurd h0 h
  · exact absurd hm h
  · exact ⟨t, h1⟩
theorem bto_of {c : List (List Int)} {l : List Nat} {t : Int} {ok : Bool} {e : Int} (h : BestSays c l t ok e) (h0 : formE c = 0) (hm : Mtd (may (cc c)) (fun i => i < c.length) (wideL c)) : BTo c l := by
  obtain rfl := best_ok h h0 hm
  obtain ⟨_, _, _, _, _, rfl, _⟩ := best_has h rfl
  exact ⟨t, h⟩
theorem met_get {w : World} {a : Option Addr} {l : List Nat} (h : SlAt w a 1 (l.map metRow)) (i : Nat) (hi : i < l.length) : ∃ b off, a = some ⟨b, off, none⟩ ∧ w.cell? ⟨b, off + i, none⟩ = some (.int .i64 (l[i] : Int)) := by
  obtain ⟨b, off, e, _, _, hc⟩ := h i (metRow l[i]) (by simp [List.getElem?_eq_getElem hi])
  have := hc 0 _ rfl
  rw [Nat.mul_one, Nat.add_zero] at this
  exact ⟨b, off, e, this⟩
theorem plan_next (F : Nat → Gv) (y : Nat) : ((List.range y).map F ++ [F y]) = (List.range (y + 1)).map F := by simp [List.range_succ]
set_option maxRecDepth 100000 in
set_option maxHeartbeats 4000000 in
theorem RPlan_any (a a2 : Option Addr) (cap cap2 : Nat) (ds : List De) (cs : List Co) (hall : Int) (w : World) (hl : ds.length ≤ 1000) (hl2 : cs.length ≤ 1000) (he : ∀ d ∈ ds, d.eds.length ≤ 1000) (hs : SlOk0 a ds.length cap) (hm : DeAt w a ds) (hc : CoAt w a2 cs) :
    Calls Tryz.prog 13 #[.slice a ds.length cap, .slice a2 cs.length cap2, .int .i64 hall] w (PlanPost RTo ds cs hall w) := by
  have HM := Lib.hid hm; have HC := Lib.hid hc; have HE := Lib.hid he; have HS := Lib.hid hs
  clear hm hc he hs
  go_enter Tryz.func13, Tryz.ntmps13
  go_wp2_with (fail)
  refine (RCostsH_any a a2 cap cap2 ds cs hall w hl hl2 HE.out HM.out HC.out).mono ?_
  rintro e w1 ⟨a1, c1, hb, ⟨hv, rfl, hs1, hm1⟩ | ⟨hv, rfl⟩⟩
  · have HB := Lib.hid hb; have HV := Lib.hid hv; have HS1 := Lib.hid hs1; have HM1 := Lib.hid hm1
    have HVB := Lib.hid (show validB ds cs = true by simp at hv; exact hv.1)
    have HVD := Lib.hid (vd_of HVB.out)
    clear hb hv hs1 hm1
    go_wp2_with (fail)
    refine (Met_any a a2 cap cap2 ds cs _ ⟨HVD.out.n1, HVD.out.n2⟩ HE.out (HM.out.below HB.out) (HC.out.below HB.out)).mono ?_
    rintro e w2 ⟨ok, rfl, hok, hb⟩
    have HOK := Lib.hid (show metB cs ds = ok by rw [Bool.eq_iff_iff, metB_iff, hok])
    replace HB := Lib.hid (HB.out.trans (hb.mono HB.out.size))
    replace HM1 := Lib.hid (HM1.out.below hb)
    clear hok hb
    cases ok
    · go_wp2_with (fail)
      refine (Rrefusal_any a a2 cap cap2 ds cs _ HVD.out HS.out (HM.out.below HB.out) (HC.out.below HB.out)).mono ?_
      rintro e w3 ⟨a3, c3, rfl, hs3, hi3, hb⟩
      have HS3 := Lib.hid hs3; have HI3 := Lib.hid hi3
      replace HB := Lib.hid (HB.out.trans (hb.mono HB.out.size))
      clear hs3 hi3 hb
      go_wp2
      refine bodyPost_ret (v := .tuple #[.slice none 0 0, .slice a3 (answerL cs ds).length c3, .bool false, .int .i64 0]) (by simp [results, Tryz.results13, go_sem]) rfl ?_
      exact ⟨HB.out, .inr (.inl ⟨HV.out, HOK.out, a3, c3, rfl, HS3.out, HI3.out⟩)⟩
    · have HMT := Lib.hid ((metB_mtd hall).1 HOK.out)
      have HCL := Lib.hid (costM_len ds cs hall)
      go_wp2_with (fail)
      have hRB := fun W h hm => RBest_any a1 c1 (costM ds cs hall) W h hm
      rw [HCL.out] at hRB
      refine (hRB _ (by omega) HM1.out).mono ?_
      clear hRB
      rintro e w3 ⟨l, t, ok, err, a3, c3, rfl, hsay, hs3, hi3, hb⟩
      have HT := Lib.hid (rto_of hsay (costM_form HVD.out.n1 HVD.out.n2 fun d hd => by have := HVD.out.eds d hd; omega) HMT.out)
      have HI3 := Lib.hid hi3
      have HLL := Lib.hid (show l.length = ds.length by rw [HT.out.mt.1, HCL.out])
      replace HB := Lib.hid (HB.out.trans (hb.mono HB.out.size))
      replace HM1 := Lib.hid (HM1.out.below hb)
      have HM := Lib.hid (HM.out.below HB.out); have HC := Lib.hid (HC.out.below HB.out)
      clear hsay hs3 hi3 hb
      have HN1 := Lib.hid HVD.out.n1
      go_wp2
      go_loopw [17, 18] (fun v i wr => ∃ k : Nat, k ≤ ds.length ∧ i = .int .i64 k ∧ OwnR wr w3.heap.size 42 3 v (((List.range k).map (planF ds cs hall l)).map Gv.cells) ∧ Below w3.heap.size w3 wr) (fun _ i _ => ds.length - (intOf i).toNat)
      case atStart => exact ⟨0, Nat.zero_le _, rfl, OwnR.nil _ _ _ _, Below.refl _ _⟩
      case round =>
        obtain ⟨k, hk, rfl, ho, hb⟩ := hrel
        have HO := Lib.hid ho; have HB3 := Lib.hid hb
        clear ho hb
        by_cases hlt : k < ds.length
        · have hkl : k < l.length := by rw [HLL.out]; exact hlt
          have hkw : l[k] < cs.length := by have := HT.out.mt.2 k hkl; rw [costM_wide (by omega)] at this; exact this
          obtain ⟨b1, o1, rfl, d0, d1, d2, d3⟩ := HM.out.get k hlt
          obtain ⟨b2, o2, rfl, e0, e1, e2, e3⟩ := HC.out.get l[k] hkw
          obtain ⟨b3, o3, rfl, f0⟩ := met_get HI3.out k hkl
          obtain ⟨b4, o4, a5, c5, rfl, h0, hsk, hik⟩ := HM1.out.get k (by rw [HCL.out]; exact hlt)
          have hrow : (costM ds cs hall)[k]'(by rw [HCL.out]; exact hlt) = cs.map fun c => costI ds[k] c hall := by simp [costM]
          rw [hrow] at h0 hsk hik
          obtain ⟨b5, o5, rfl, i0⟩ := hik.get l[k] (by simpa using hkw)
          simp only [List.getElem_map, List.length_map] at i0 h0
          have HPF := Lib.hid (planF_at (hall := hall) hlt hkl hkw)
          have g0 := cell_regrown (keepE d0 HB3.out); have g1 := cell_regrown (keepE e0 HB3.out); have g2 := cell_regrown (keepE f0 HB3.out); have g3 := cell_regrown (keepE h0 HB3.out); have g4 := cell_regrown (keepE i0 HB3.out)
          clear d0 d1 d2 d3 e0 e1 e2 e3 f0 h0 i0 hsk hik hrow
          generalize l[k] = m at *
          generalize ds[k] = d at *
          generalize hcm : cs[m] = c at *
          generalize hCX : costI d c hall = X at *
          clear hcm hCX
          go_wp2
          refine wp_tailB1 25 _ u17 (by decide) (by kernel_rfl) (by kernel_rfl) rfl (fun _ _ _ h => h) (.inl ⟨by kernel_rfl, fun wq => by go_simp⟩) ?_
          simp only [Act.put, List.setIfInBounds_toArray, List.set_cons_zero, List.set_cons_succ, List.take_succ_cons, List.take_zero, List.drop_succ_cons, List.drop_zero]
          (repeat (go_big_quiet_step (fail)))
          refine wpQuiet_nil ?_
          intro wq hq
          replace HB3 := Lib.hid (HB3.out.trans (hq.mono HB3.out.size))
          replace HO := Lib.hid (HO.out.below hq)
          clear hq g0 g1 g2 g3 g4
          go_wp2_with (at_builtin; refine appE eltGv rfl (.tmp 49) (.tmp 74) rfl w3.heap.size _ ((List.range k).map (planF ds cs hall l)) rfl (HO.out.below ((Below.refl _ _).alloc (Nat.le_refl _) _)) _ _ _ [((d.id, c.id, X) : Gv)] rfl rfl (fun e => by cases e) (eltGv.new _ _ _ _ rfl) (by have := HN1.out; simp; omega) (by have := HB3.out.size; simp; omega) ?_; intro v1 w7 ho1 hg1; have HO1 := Lib.hid ho1; have HB7 := Lib.hid (below_grown (HB3.out.alloc HB3.out.size _) (HO.out.below ((Below.refl _ _).alloc (Nat.le_refl _) _)) (by have := HB3.out.size; simp; omega) hg1); clear ho1 hg1)
          go_roundw
          case rel => exact ⟨k + 1, by omega, by go_num, by
            have := HO1.out
            rw [← HPF.out, plan_next] at this
            exact this, HB7.out⟩
          case measure => simp [intOf]; omega
        · have hke : k = ds.length := by omega
          have HO2 := Lib.hid (show OwnR wr w3.heap.size 42 3 u17 ((planL ds cs hall l).map Gv.cells) by have := HO.out; rw [hke] at this; exact this)
          obtain ⟨a6, c6, e6, s6, i6⟩ := HO2.out.slAt
          rw [List.length_map, planL_len] at e6 s6
          subst e6
          have HS6 := Lib.hid s6; have HI6 := Lib.hid i6
          clear s6 i6
          go_wp2
          refine bodyPost_ret (v := .tuple #[.slice a6 ds.length c6, .slice none 0 0, .bool true, .int .i64 0]) (by simp [results, Tryz.results13, go_sem]) rfl ?_
          exact ⟨HB.out.trans (HB3.out.mono HB.out.size), .inr (.inr ⟨HV.out, HOK.out, l, a6, c6, rfl, HS6.out, HI6.out, HT.out⟩)⟩
  · have HB := Lib.hid hb; have HV := Lib.hid hv
    clear hb hv
    go_wp2
    refine bodyPost_ret (v := .tuple #[.slice none 0 0, .slice none 0 0, .bool false, .int .i64 1]) (by simp [results, Tryz.results13, go_sem]) rfl ?_
    exact ⟨HB.out, .inl ⟨HV.out, rfl⟩⟩
end Go.Proofs.YtehdhbnbajfanaaGreat


/- The reference's Some over demands: walked; for not too many demands and numbers. -/
namespace Go.Proofs.YtehdhbnbajfanaaGreat
set_option linter.unusedSimpArgs false
set_option linter.unusedVariables false
open Go.RowKit Go.Sort

/-- The demands with a number. -/
def withL (ds : List De) (id : Int) : List De := ds.filter fun d => d.id == id
def pickD (ds : List De) (ids : List Int) : List De := ids.flatMap (withL ds)
/-- The first k numbers are in order, and there. -/
def SomeTo (ds : List De) (ids : List Int) (k : Nat) : Prop := ∀ j (hj : j < ids.length), j < k → (withL ds ids[j]).length = 1 ∧ (0 < j → ids[j - 1]'(by omega) < ids[j])
theorem pick_next (ds : List De) (ids : List Int) (k : Nat) (h : k < ids.length) : pickD ds (ids.take (k + 1)) = pickD ds (ids.take k) ++ withL ds ids[k] := by
  unfold pickD
  rw [List.take_succ_eq_append_getElem h, List.flatMap_append]; simp
theorem SomeTo.one {ds : List De} {ids : List Int} {k : Nat} (s : SomeTo ds ids k) (hk : k < ids.length) (h1 : (withL ds ids[k]).length = 1) (h2 : 0 < k → ids[k - 1]'(by omega) < ids[k]) : SomeTo ds ids (k + 1) := fun j hj h => by
  by_cases e : j = k
  · subst e; exact ⟨h1, h2⟩
  · exact s j hj (by omega)
theorem pick_lenTo {ds : List De} {ids : List Int} {k : Nat} (hk : k ≤ ids.length) (h : SomeTo ds ids k) : (pickD ds (ids.take k)).length = k := by
  induction k with
  | zero => simp [pickD]
  | succ k ih =>
    rw [pick_next ds ids k (by omega), List.length_append, ih (by omega) fun j hj hjk => h j hj (by omega), (h k (by omega) (by omega)).1]
theorem pick_sub {ds : List De} {ids : List Int} {d : De} (h : d ∈ pickD ds ids) : d ∈ ds := by
  obtain ⟨i, _, hd⟩ := List.mem_flatMap.1 h
  exact (List.mem_filter.1 hd).1
theorem with_len (ds : List De) (id : Int) : (withL ds id).length ≤ ds.length := List.length_filter_le _ _
def SomeDPost (ds : List De) (ids : List Int) (w : World) (e : Ending) (w' : World) : Prop :=
  Below w.heap.size w w' ∧ ((SomeTo ds ids ids.length ∧ ∃ a cap, e = .returned (.tuple #[.slice a (pickD ds ids).length cap, .bool true]) ∧ SlOk a (pickD ds ids).length cap ∧ DeAt w' a (pickD ds ids)) ∨
    (¬ SomeTo ds ids ids.length ∧ e = .returned (.tuple #[.slice none 0 0, .bool false])))
set_option maxRecDepth 100000 in
set_option maxHeartbeats 4000000 in
theorem RSomeD_any (a a2 : Option Addr) (cap cap2 : Nat) (ds : List De) (ids : List Int) (w : World) (hl : ds.length ≤ 1000) (hl2 : ids.length ≤ 1000) (hm : DeAt w a ds) (hi : InAt w a2 ids) :
    Calls Tryz.prog 22 #[.slice a ds.length cap, .slice a2 ids.length cap2] w (SomeDPost ds ids w) := by
  have HM := Lib.hid hm; have HI := Lib.hid hi
  clear hm hi
  go_enter Tryz.func22, Tryz.ntmps22
  go_wp2
  go_loopw [6, 7] (fun v i wr => ∃ k : Nat, k ≤ ids.length ∧ i = .int .i64 k ∧ OwnR wr w.heap.size 46 4 v ((pickD ds (ids.take k)).map De.cells) ∧ SomeTo ds ids k ∧ Below w.heap.size w wr) (fun _ i _ => ids.length - (intOf i).toNat)
  case atStart => exact ⟨0, Nat.zero_le _, rfl, OwnR.nil _ _ _ _, fun j hj h => by omega, Below.refl _ _⟩
  case round =>
    obtain ⟨k, hk, rfl, ho, hst, hb⟩ := hrel
    obtain ⟨wo, rfl⟩ : ∃ wo, wo = wr := ⟨_, rfl⟩
    have HO := Lib.hid ho; have HB := Lib.hid hb; have HST := Lib.hid hst
    clear ho hb hst
    obtain ⟨a6, c6, rfl, hs6, _⟩ := HO.out.slAt
    rw [List.length_map, pick_lenTo hk HST.out] at *
    clear hs6
    by_cases hlt : k < ids.length
    · obtain ⟨b2, o2, rfl, d0⟩ := HI.out.get k hlt
      have HD0 := Lib.hid d0
      have HPN := Lib.hid (pick_next ds ids k hlt)
      have HPL := Lib.hid (pick_lenTo hk HST.out)
      clear d0
      go_wp2
      go_loopw [6, 9] (fun v i W => ∃ j : Nat, j ≤ ds.length ∧ i = .int .i64 j ∧ OwnR W w.heap.size 46 4 v ((pickD ds (ids.take k) ++ withL (ds.take j) ids[k]).map De.cells) ∧ Below w.heap.size w W) (fun _ i _ => ds.length - (intOf i).toNat)
      case atStart => exact ⟨0, Nat.zero_le _, rfl, by simpa [withL] using HO.out, HB.out⟩
      case round =>
        clear HO HB
        obtain ⟨j, hj, rfl, ho, hb⟩ := hrel
        have HO := Lib.hid ho; have HB := Lib.hid hb
        clear ho hb
        by_cases hlj : j < ds.length
        · obtain ⟨b, off, rfl, e0, e1, e2, e3⟩ := HM.out.get j hlj
          have HE0 := Lib.hid e0; have HE1 := Lib.hid e1; have HE2 := Lib.hid e2; have HE3 := Lib.hid e3
          clear e0 e1 e2 e3
          obtain ⟨f1, f2⟩ := filt_next (fun d : De => d.id == ids[k]) ds j hlj
          have F1 := Lib.hid f1; have F2 := Lib.hid f2; clear f1 f2
          have HWL := Lib.hid (show (withL (ds.take j) ids[k]).length ≤ 1000 from Nat.le_trans (with_len _ _) (by rw [List.length_take]; omega))
          generalize ds[j] = d at *
          generalize hid : ids[k] = id at *
          have HID := Lib.hid hid; clear hid
          have g0 := cell_regrown (keepE HE0.out HB.out); have g1 := cell_regrown (keepE HD0.out HB.out)
          cases hd : (d.id == id)
          · have HD := Lib.hid hd
            go_wp2
            refine wp_quietB (by kernel_rfl) (by kernel_rfl) ?_; (repeat (go_big_quiet_step (fail))); refine wpQuiet_nil ?_; intro wq hq
            replace HB := Lib.hid (HB.out.trans (hq.mono HB.out.size)); replace HO := Lib.hid (HO.out.below hq); clear hq g0 g1
            go_wp2
            go_roundw
            case rel => exact ⟨j + 1, by omega, by go_num, by rw [withL, F2.out HD.out]; exact HO.out, HB.out⟩
            case measure => simp [intOf]; omega
          · have HD := Lib.hid hd
            go_wp2
            refine wp_quietB (by kernel_rfl) (by kernel_rfl) ?_; (repeat (go_big_quiet_step (fail))); refine wpQuiet_nil ?_; intro wq hq
            replace HB := Lib.hid (HB.out.trans (hq.mono HB.out.size)); replace HO := Lib.hid (HO.out.below hq); clear hq g0 g1
            have g0 := keepE HE0.out HB.out; have g1 := keepE HE1.out HB.out; have g2 := keepE HE2.out HB.out; have g3 := keepE HE3.out HB.out
            go_wp2_with (at_builtin; go_must (refine appE eltDe rfl (.tmp 34) (.tmp 39) rfl w.heap.size _ _ rfl (HO.out.below ((Below.refl _ _).alloc (Nat.le_refl _) _)) _ _ _ [d] rfl rfl (fun e => by cases e) (eltDe.new _ _ _ _ rfl) (by have := HWL.out; have := HPL.out; simp; omega) (by have := HB.out.size; simp; omega) ?_); intro v5 w5 ho5 hg5; have HO5 := Lib.hid ho5; have HB5 := Lib.hid (below_grown (HB.out.alloc HB.out.size _) (HO.out.below ((Below.refl _ _).alloc (Nat.le_refl _) _)) (by have := HB.out.size; simp; omega) hg5); clear ho5 hg5)
            go_roundw
            case rel => exact ⟨j + 1, by omega, by go_num, by rw [withL, F1.out HD.out, ← List.append_assoc]; exact HO5.out, HB5.out⟩
            case measure => simp [intOf]; omega
        · have hje : j = ds.length := by omega
          have HO2 := Lib.hid (show OwnR wr w.heap.size 46 4 u6 ((pickD ds (ids.take (k + 1))).map De.cells) by have := HO.out; rw [hje, List.take_length] at this; rw [HPN.out]; exact this)
          obtain ⟨a7, c7, e7, _, _⟩ := HO2.out.slAt
          have hpl : (pickD ds (ids.take (k + 1))).length = k + (withL ds ids[k]).length := by rw [HPN.out, List.length_append, HPL.out]
          rw [List.length_map] at e7
          subst e7
          clear HO
          generalize hN : (pickD ds (ids.take (k + 1))).length = N at *
          have HN := Lib.hid hN; have HNK := Lib.hid hpl
          clear hN
          have HNI := Lib.hid (HI.out.below HB.out)
          by_cases hn1 : (withL ds ids[k]).length = 1
          · have h45 : ((N : Int) != (k : Int) + 1) = false := by rw [hpl, hn1]; simp
            clear hpl
            by_cases hk0 : k = 0
            · have h48 : decide ((k : Int) > 0) = false := by simp; omega
              have h48b : decide (0 < k) = false := by simp; omega
              have h48c : ¬ 0 < k := by omega
              have HST2 := Lib.hid (HST.out.one hlt hn1 fun h0 => by omega)
              clear hk0 hn1
              go_wp2
              refine wp_quietB (by kernel_rfl) (by kernel_rfl) ?_; (repeat (go_big_quiet_step (fail))); refine wpQuiet_nil ?_; intro wq hq
              replace HB := Lib.hid (HB.out.trans (hq.mono HB.out.size)); replace HO2 := Lib.hid (HO2.out.below hq); clear hq
              go_wp2
              go_roundw
              case rel => exact ⟨k + 1, by omega, by go_num, HO2.out, HST2.out, HB.out⟩
              case measure => simp [intOf]; omega
            · have h48 : decide ((k : Int) > 0) = true := by simp; omega
              obtain ⟨m, rfl⟩ : ∃ m, k = m + 1 := ⟨k - 1, by omega⟩
              obtain ⟨b3, o3, e3, d0⟩ := HI.out.get m (by omega)
              cases e3
              have g0 := cell_regrown (keepE HD0.out HB.out); have g1 := cell_regrown (keepE d0 HB.out)
              clear d0
              have HST2 := Lib.hid (fun h => HST.out.one hlt hn1 h)
              have HSTn := Lib.hid (fun h : SomeTo ds ids ids.length => (h (m + 1) hlt hlt).2 (by omega))
              clear hn1 hk0
              simp only [Nat.add_sub_cancel] at HST2 HSTn
              generalize ids[m + 1] = id at *
              generalize ids[m] = id2 at *
              have h45b : ((N : Int) != (m : Int) + 1 + 1) = false := by have := h45; rw [show ((m + 1 : Nat) : Int) = (m : Int) + 1 by omega] at this; exact this
              have hm1 : ((m + 1 : Nat) : Int) - 1 = (m : Int) := by omega
              cases hle : decide (id ≤ id2)
              · have HLE := Lib.hid (show id2 < id by simpa using hle)
                go_wp2
                refine wp_quietB (by kernel_rfl) (by kernel_rfl) ?_; (repeat (go_big_quiet_step (fail))); refine wpQuiet_nil ?_; intro wq hq
                replace HB := Lib.hid (HB.out.trans (hq.mono HB.out.size)); replace HO2 := Lib.hid (HO2.out.below hq); clear hq g0 g1
                go_wp2
                go_roundw
                case rel => exact ⟨m + 2, by omega, by go_num, HO2.out, HST2.out fun _ => HLE.out, HB.out⟩
                case measure => simp [intOf]; omega
              · have HLE := Lib.hid (show id ≤ id2 by simpa using hle)
                go_wp2
                refine wp_quietB (by kernel_rfl) (by kernel_rfl) ?_; (repeat (go_big_quiet_step (fail))); refine wpQuiet_nil ?_; intro wq hq
                replace HB := Lib.hid (HB.out.trans (hq.mono HB.out.size)); clear hq g0 g1
                go_wp2
                go_ret2
                exact ⟨HB.out, .inr ⟨fun h => by have := HSTn.out h; have := HLE.out; omega, rfl⟩⟩
          · have h45 : ((N : Int) != (k : Int) + 1) = true := by rw [hpl]; simp; omega
            have HSTn := Lib.hid (fun h : SomeTo ds ids ids.length => hn1 (h k hlt hlt).1)
            clear hpl
            go_wp2
            refine wp_quietB (by kernel_rfl) (by kernel_rfl) ?_; (repeat (go_big_quiet_step (fail))); refine wpQuiet_nil ?_; intro wq hq
            replace HB := Lib.hid (HB.out.trans (hq.mono HB.out.size)); clear hq
            go_wp2
            go_ret2
            exact ⟨HB.out, .inr ⟨HSTn.out, rfl⟩⟩
    · have hke : k = ids.length := by omega
      subst hke
      have HD := Lib.hid (show OwnR wo w.heap.size 46 4 (.slice a6 ids.length c6) ((pickD ds ids).map De.cells) by have := HO.out; rw [List.take_length] at this; exact this)
      obtain ⟨a7, c7, e7, s7, i7⟩ := HD.out.slAt
      have HPL := Lib.hid (show (pickD ds ids).length = ids.length by have := pick_lenTo (Nat.le_refl _) HST.out; rw [List.take_length] at this; exact this)
      rw [List.length_map, HPL.out] at e7 s7
      cases e7
      have HS7 := Lib.hid s7; have HI7 := Lib.hid i7
      clear s7 i7
      go_wp2
      go_ret2
      exact ⟨HB.out, .inl ⟨HST.out, a6, c6, by rw [HPL.out]; rfl, by rw [HPL.out]; exact HS7.out, ⟨HI7.out, fun d hd => (HM.out.ok d (pick_sub hd)).below HB.out⟩⟩⟩
end Go.Proofs.YtehdhbnbajfanaaGreat


/- The reference's Refuses: walked; for not too many demands, editions, copies, numbers. -/
namespace Go.Proofs.YtehdhbnbajfanaaGreat
set_option linter.unusedSimpArgs false
set_option linter.unusedVariables false
open Go.RowKit Go.Sort

/-- A refusal is right. -/
def RefuP (ds : List De) (cs : List Co) (ids : List Int) : Prop := SomeTo ds ids ids.length ∧ metB cs (pickD ds ids) = false ∧ ∀ d ∈ pickD ds ids, metB cs (lessL (pickD ds ids) d.id) = true
def RefuPost (ds : List De) (cs : List Co) (ids : List Int) (w : World) (e : Ending) (w' : World) : Prop :=
  Below w.heap.size w w' ∧ ((validB ds cs = false ∧ e = .returned (.tuple #[.bool false, .int .i64 1])) ∨ (validB ds cs = true ∧ ∃ b : Bool, e = .returned (.tuple #[.bool b, .int .i64 0]) ∧ (b = true ↔ RefuP ds cs ids)))
theorem metB_eq {cs : List Co} {ds : List De} {ok : Bool} (h : ok = true ↔ MetP ds cs) : metB cs ds = ok := by rw [Bool.eq_iff_iff, metB_iff, h]
set_option maxRecDepth 100000 in
set_option maxHeartbeats 4000000 in
theorem RRefuses_any (a a2 a3 : Option Addr) (cap cap2 cap3 : Nat) (ds : List De) (cs : List Co) (ids : List Int) (w : World) (hl : ds.length ≤ 1000) (hl2 : cs.length ≤ 1000) (hl3 : ids.length ≤ 200) (he : ∀ d ∈ ds, d.eds.length ≤ 1000) (hm : DeAt w a ds) (hc : CoAt w a2 cs) (hi : InAt w a3 ids) :
    Calls Tryz.prog 17 #[.slice a ds.length cap, .slice a2 cs.length cap2, .slice a3 ids.length cap3] w (RefuPost ds cs ids w) := by
  have HM := Lib.hid hm; have HC := Lib.hid hc; have HE := Lib.hid he; have HI := Lib.hid hi
  clear hm hc he hi
  go_enter Tryz.func17, Tryz.ntmps17
  go_wp2_with (fail)
  refine (RValidH_any a a2 cap cap2 ds cs w hl hl2 HE.out HM.out HC.out).mono ?_
  rintro e w1 ⟨rfl, hb⟩
  have HB := Lib.hid hb; clear hb
  generalize hV : validB ds cs = V at *
  have HV := Lib.hid hV; clear hV
  cases V
  · go_wp2
    go_ret2
    exact ⟨HB.out, .inl ⟨HV.out, rfl⟩⟩
  have HVD := Lib.hid (vd_of HV.out)
  go_wp2_with (fail)
  refine (RSomeD_any a a3 cap cap3 ds ids _ hl (by omega) (HM.out.below HB.out) (HI.out.below HB.out)).mono ?_
  rintro e w2 ⟨hb, ⟨hst, a4, c4, rfl, hs4, hd4⟩ | ⟨hst, rfl⟩⟩
  · replace HB := Lib.hid (HB.out.trans (hb.mono HB.out.size))
    have HST := Lib.hid hst; have HD4 := Lib.hid hd4
    have hpl := pick_lenTo (Nat.le_refl _) hst
    rw [List.take_length] at hpl
    have HPS := Lib.hid (fun d (hd : d ∈ pickD ds ids) => pick_sub hd)
    clear hb hst hs4 hd4
    have HRP := Lib.hid (show RefuP ds cs ids ↔ metB cs (pickD ds ids) = false ∧ ∀ d ∈ pickD ds ids, metB cs (lessL (pickD ds ids) d.id) = true from ⟨fun h => h.2, fun h => ⟨HST.out, h⟩⟩)
    generalize pickD ds ids = L at *
    have hn4 : L.length ≤ 200 := by omega
    have HPL := Lib.hid hpl; clear hpl
    go_wp2_with (fail)
    refine (Met_any a4 a2 c4 cap2 L cs _ ⟨hn4, HVD.out.n2⟩ (fun d hd => HE.out d (HPS.out d hd)) HD4.out (HC.out.below HB.out)).mono ?_
    rintro e w3 ⟨ok, rfl, hok, hb⟩
    have HOK := Lib.hid (metB_eq hok)
    replace HB := Lib.hid (HB.out.trans (hb.mono HB.out.size)); replace HD4 := Lib.hid (HD4.out.below hb)
    clear hok hb
    cases ok
    · go_wp2
      go_loopw [10] (fun i W => ∃ k : Nat, k ≤ L.length ∧ i = .int .i64 k ∧ (∀ j (hj : j < L.length), j < k → metB cs (lessL L (L[j]).id) = true) ∧ Below w3.heap.size w3 W) (fun i _ => L.length - (intOf i).toNat)
      case atStart => exact ⟨0, Nat.zero_le _, rfl, fun j hj h => by omega, Below.refl _ _⟩
      case round =>
        obtain ⟨k, hk, rfl, hall, hb⟩ := hrel
        have HA := Lib.hid hall; have HB3 := Lib.hid hb
        clear hall hb
        by_cases hlt : k < L.length
        · obtain ⟨b, off, rfl, e0, e1, e2, e3⟩ := HD4.out.get k hlt
          have g0 := keepE e0 HB3.out
          clear e0 e1 e2 e3
          have HNX := Lib.hid (fun h => all_take_next (p := fun d : De => metB cs (lessL L d.id)) hlt HA.out h)
          have HNO := Lib.hid (fun h : ∀ d ∈ L, metB cs (lessL L d.id) = true => h L[k] (List.getElem_mem _))
          generalize L[k] = d at *
          go_wp2_with (fail)
          refine (RWithoutD_any _ c4 L d.id _ (by omega) (HD4.out.below HB3.out)).mono ?_
          rintro e w5 ⟨a5, c5, rfl, hs5, hd5, hb⟩
          have HD5 := Lib.hid hd5
          replace HB3 := Lib.hid (HB3.out.trans (hb.mono HB3.out.size))
          clear hs5 hd5 hb
          go_wp2_with (fail)
          refine (Met_any a5 a2 c5 cap2 (lessL L d.id) cs _ ⟨Nat.le_trans (less_len _ _) hn4, HVD.out.n2⟩ (fun d hd => HE.out d (HPS.out d (less_sub hd))) HD5.out ((HC.out.below HB.out).below HB3.out)).mono ?_
          rintro e w6 ⟨ok, rfl, hok, hb⟩
          have HOK2 := Lib.hid (metB_eq hok)
          replace HB3 := Lib.hid (HB3.out.trans (hb.mono HB3.out.size))
          clear hok hb
          cases ok
          · go_wp2
            go_ret2
            exact ⟨HB.out.trans (HB3.out.mono HB.out.size), .inr ⟨HV.out, false, rfl, (fun h => by cases h), fun h => by have := HNO.out (HRP.out.1 h).2; rw [HOK2.out] at this; cases this⟩⟩
          · go_wp2
            go_roundw
            case rel => exact ⟨k + 1, by omega, by go_num, HNX.out HOK2.out, HB3.out⟩
            case measure => simp [intOf]; omega
        · have hke : k = L.length := by omega
          have HALL := Lib.hid (show ∀ d ∈ L, metB cs (lessL L d.id) = true from fun d hd => by
            obtain ⟨j, hj, rfl⟩ := List.mem_iff_getElem.1 hd
            exact HA.out j hj (by omega))
          go_wp2
          go_ret2
          exact ⟨HB.out.trans (HB3.out.mono HB.out.size), .inr ⟨HV.out, true, rfl, fun _ => HRP.out.2 ⟨HOK.out, HALL.out⟩, fun _ => rfl⟩⟩
    · go_wp2
      go_ret2
      exact ⟨HB.out, .inr ⟨HV.out, false, rfl, (fun h => by cases h), fun h => by have := (HRP.out.1 h).1; rw [HOK.out] at this; cases this⟩⟩
  · replace HB := Lib.hid (HB.out.trans (hb.mono HB.out.size))
    have HST := Lib.hid hst
    clear hb hst
    go_wp2
    go_ret2
    exact ⟨HB.out, .inr ⟨HV.out, false, rfl, (fun h => by cases h), fun h => absurd h.1 HST.out⟩⟩
end Go.Proofs.YtehdhbnbajfanaaGreat


/- The reference's Same, SameInts, Few: walked; for not too many. -/
namespace Go.Proofs.YtehdhbnbajfanaaGreat
set_option linter.unusedSimpArgs false
set_option linter.unusedVariables false
open Go.RowKit Go.Sort

def GvAt (w : World) (a : Option Addr) (l : List Gv) : Prop := SlAt w a 3 (l.map Gv.cells)
theorem GvAt.below {w w' : World} {a : Option Addr} {l : List Gv} (h : GvAt w a l) (hb : Below w.heap.size w w') : GvAt w' a l := SlAt.below h hb
theorem GvAt.get {w : World} {a : Option Addr} {l : List Gv} (h : GvAt w a l) (i : Nat) (hi : i < l.length) : ∃ b off, a = some ⟨b, off, none⟩ ∧ w.cell? ⟨b, off + i * 3, none⟩ = some (.int .i64 l[i].1) ∧ w.cell? ⟨b, off + i * 3 + 1, none⟩ = some (.int .i64 l[i].2.1) ∧ w.cell? ⟨b, off + i * 3 + 2, none⟩ = some (.int .i64 l[i].2.2) := by
  obtain ⟨b, off, e, _, _, hc⟩ := h i (Gv.cells l[i]) (by simp [hi])
  exact ⟨b, off, e, hc 0 _ rfl, hc 1 _ rfl, hc 2 _ rfl⟩
theorem neq_gv (x y : Gv) (w : World) :
    (binOp .neq 42 (.agg #[.int .i64 x.1, .int .i64 x.2.1, .int .i64 x.2.2]) (.agg #[.int .i64 y.1, .int .i64 y.2.1, .int .i64 y.2.2])).run Tryz.prog w = .ok (.bool (!decide (x = y))) w := by
  have e : decide (x = y) = (x.1 == y.1 && (x.2.1 == y.2.1 && x.2.2 == y.2.2)) := by
    rw [Bool.eq_iff_iff]; obtain ⟨_, _, _⟩ := x; obtain ⟨_, _, _⟩ := y; simp
  rw [e]
  rw [run_neq_struct]
  simp [go_sem]
  by_cases h1 : x.1 = y.1 <;> by_cases h2 : x.2.1 = y.2.1 <;> by_cases h3 : x.2.2 = y.2.2 <;> simp [h1, h2, h3]
set_option maxRecDepth 100000 in
set_option maxHeartbeats 4000000 in
theorem RSameG_any (a b : Option Addr) (n m cap cap' : Nat) (l r : List Gv) (w : World) (hn : n = l.length) (hm : m = r.length) (hl : n ≤ 1000000) (hl' : m ≤ 1000000) (ha : GvAt w a l) (hb : GvAt w b r) :
    Calls Tryz.prog 14 #[.slice a n cap, .slice b m cap'] w fun e w' => e = .returned (.bool (decide (l = r))) ∧ Below w.heap.size w w' := by
  subst hn hm
  by_cases hne : l.length = r.length
  case neg =>
    have h1 : ((l.length : Int) != (r.length : Int)) = true := by simp; omega
    go_enter Tryz.func14, Tryz.ntmps14
    go_wp2
    go_ret
    exact ⟨ret_bool (by simp; intro h; exact hne (by rw [h])), Below.refl _ _⟩
  have h1 : ((l.length : Int) != (r.length : Int)) = false := by simp [hne]
  have HNE := Lib.hid hne; clear hne
  go_enter Tryz.func14, Tryz.ntmps14
  go_wp2
  go_loopw [5] (fun i wr => ∃ k : Nat, k ≤ l.length ∧ i = .int .i64 k ∧ l.take k = r.take k ∧ Below w.heap.size w wr) (fun i _ => l.length - (intOf i).toNat)
  case atStart => exact ⟨0, Nat.zero_le _, rfl, rfl, Below.refl _ _⟩
  case round =>
    obtain ⟨k, hk, rfl, hall, hbw⟩ := hrel
    have H := Lib.hid hall; clear hall
    by_cases hlt : k < l.length
    · have hlt' : k < r.length := by have := HNE.out; omega
      obtain ⟨b1, o1, rfl, c0, c1, c2⟩ := (ha.below hbw).get k hlt
      obtain ⟨b2, o2, rfl, d0, d1, d2⟩ := (hb.below hbw).get k hlt'
      have HB := Lib.hid hbw; clear hbw
      have HA := Lib.hid ha; clear ha
      have HB2 := Lib.hid hb; clear hb
      have hneq := neq_gv l[k] r[k]
      go_wp2
      go_quiet (fail)
      go_wp2
      · go_ret
        have hd : (!decide (l[k] = r[k])) = true := by assumption
        exact ⟨ret_bool (decide_eq_false (ne_at l r k hlt hlt' (by simpa using hd))).symm, below_drewN HB.out _⟩
      · have hd : (!decide (l[k] = r[k])) = false := by assumption
        exact ⟨⟨k + 1, by omega, by go_num, take_eq_succ l r k hlt hlt' H.out (by simpa using hd), below_drewN HB.out _⟩, by simp [intOf]; omega⟩
    · have HB := Lib.hid hbw; clear hbw
      go_wp2
      go_ret
      refine ⟨ret_bool ?_, HB.out⟩
      have h3 := H.out
      have h4 := HNE.out
      rw [List.take_of_length_le (by omega), List.take_of_length_le (by omega)] at h3
      simp [h3]

set_option maxRecDepth 100000 in
set_option maxHeartbeats 4000000 in
theorem RSameI_any (a b : Option Addr) (n m cap cap' : Nat) (l r : List Int) (w : World) (hn : n = l.length) (hm : m = r.length) (hl : n ≤ 1000000) (hl' : m ≤ 1000000) (ha : InAt w a l) (hb : InAt w b r) :
    Calls Tryz.prog 15 #[.slice a n cap, .slice b m cap'] w fun e w' => e = .returned (.bool (decide (l = r))) ∧ Below w.heap.size w w' := by
  subst hn hm
  by_cases hne : l.length = r.length
  case neg =>
    have h1 : ((l.length : Int) != (r.length : Int)) = true := by simp; omega
    go_enter Tryz.func15, Tryz.ntmps15
    go_wp2
    go_ret
    exact ⟨ret_bool (by simp; intro h; exact hne (by rw [h])), Below.refl _ _⟩
  have h1 : ((l.length : Int) != (r.length : Int)) = false := by simp [hne]
  have HNE := Lib.hid hne; clear hne
  go_enter Tryz.func15, Tryz.ntmps15
  go_wp2
  go_loopw [5] (fun i wr => ∃ k : Nat, k ≤ l.length ∧ i = .int .i64 k ∧ l.take k = r.take k ∧ Below w.heap.size w wr) (fun i _ => l.length - (intOf i).toNat)
  case atStart => exact ⟨0, Nat.zero_le _, rfl, rfl, Below.refl _ _⟩
  case round =>
    obtain ⟨k, hk, rfl, hall, hbw⟩ := hrel
    have H := Lib.hid hall; clear hall
    by_cases hlt : k < l.length
    · have hlt' : k < r.length := by have := HNE.out; omega
      obtain ⟨b1, o1, rfl, c0⟩ := (ha.below hbw).get k hlt
      obtain ⟨b2, o2, rfl, d0⟩ := (hb.below hbw).get k hlt'
      have HB := Lib.hid hbw; clear hbw
      have HA := Lib.hid ha; clear ha
      have HB2 := Lib.hid hb; clear hb
      go_wp2
      go_quiet (fail)
      go_wp2
      · go_ret
        have hd : (l[k] != r[k]) = true := by assumption
        exact ⟨ret_bool (decide_eq_false (ne_at l r k hlt hlt' (by simpa using hd))).symm, below_drewN HB.out _⟩
      · have hd : (l[k] != r[k]) = false := by assumption
        exact ⟨⟨k + 1, by omega, by go_num, take_eq_succ l r k hlt hlt' H.out (by simpa using hd), below_drewN HB.out _⟩, by simp [intOf]; omega⟩
    · have HB := Lib.hid hbw; clear hbw
      go_wp2
      go_ret
      refine ⟨ret_bool ?_, HB.out⟩
      have h3 := H.out
      have h4 := HNE.out
      rw [List.take_of_length_le (by omega), List.take_of_length_le (by omega)] at h3
      simp [h3]

/-- Few, over plans. -/
def fewP (ds : List De) (cs : List Co) : Bool := fewH ds cs && decide (ds.length ≤ 7) && decide (cs.length ≤ 8)
set_option maxRecDepth 100000 in
set_option maxHeartbeats 4000000 in
theorem RFewP_any (a a2 : Option Addr) (cap cap2 : Nat) (ds : List De) (cs : List Co) (w : World) (hl : ds.length ≤ 9223372036854775807) (hl2 : cs.length ≤ 9223372036854775807) (hm : DeAt w a ds) (hb : ∀ d ∈ ds, d.eds.length ≤ 9223372036854775807) :
    Calls Tryz.prog 11 #[.slice a ds.length cap, .slice a2 cs.length cap2] w fun e w' => e = .returned (.bool (fewP ds cs)) ∧ w = w' := by
  have HM := Lib.hid hm; have HE := Lib.hid hb; clear hm hb
  go_enter Tryz.func11, Tryz.ntmps11
  go_wp2_with (fail)
  refine (RFewH_any a a2 cap cap2 ds cs w hl hl2 HM.out HE.out).mono ?_
  rintro e w1 ⟨rfl, rfl⟩
  generalize hF : fewH ds cs = F at *
  have HF := Lib.hid hF; clear hF
  cases F
  · go_wp2
    go_ret
    exact ⟨by simp [fewP, HF.out], rfl⟩
  · cases h7 : decide (ds.length ≤ 7)
    · have h7i : decide ((ds.length : Int) ≤ 7) = false := by simp at *; omega
      have H7 := Lib.hid h7
      clear h7
      go_wp2
      go_ret
      exact ⟨by simp only [fewP, HF.out, H7.out]; rfl, rfl⟩
    · have h7i : decide ((ds.length : Int) ≤ 7) = true := by simp at *; omega
      have H7 := Lib.hid h7
      clear h7
      go_wp2
      go_ret
      exact ⟨by simp only [fewP, HF.out, H7.out]; simp; omega, rfl⟩
end Go.Proofs.YtehdhbnbajfanaaGreat
