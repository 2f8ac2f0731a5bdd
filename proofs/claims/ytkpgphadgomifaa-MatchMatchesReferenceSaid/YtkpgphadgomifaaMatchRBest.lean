/- The reference's Best is the least matching of least cost: plain laws, walked; it says what match.Best says. For at most 10^14 rows. -/
import Derived.Test.YtkpgphadgomifaaMatchOnly
import Derived.Test.YtkpgphadgomifaaMatchLaw0
namespace Go.Proofs.Ytkpgphadgomifaa
set_option linter.unusedSimpArgs false
set_option linter.unusedVariables false
open Go.RowKit Go.Sort Go.Shelf

abbrev MtC (c : List (List Int)) (g : Nat → Nat) : Prop := Mt (may (cc c)) (fun i => i < c.length) (wideL c) g
abbrev costC (c : List (List Int)) (g : Nat → Nat) : Int := costOf (cc c) c.length g
theorem only_len (c : List (List Int)) (i k : Nat) : (onlyC c i k).length = c.length := tab_len _ _ _
theorem only_wide {c : List (List Int)} (h : 0 < c.length) (i k : Nat) : wideL (onlyC c i k) = wideL c := tab_wide h
theorem only_mt {c : List (List Int)} {i k : Nat} (hi : i < c.length) {g : Nat → Nat} : MtC (onlyC c i k) g ↔ MtC c g ∧ g i = k := by
  unfold MtC
  rw [only_len, only_wide (by omega)]
  constructor
  · intro h
    have hc : ∀ j, j < c.length → may (cc c) j (g j) = true ∧ (j = i → g j = k) := fun j hj => by
      have := (may_iff _ _ _).1 (h.can j hj)
      have e : cc (onlyC c i k) j (g j) = onlyF c i k j (g j) := tab_cc hj (h.lt j hj)
      rw [e] at this
      unfold onlyF at this
      split at this
      · omega
      · rename_i q
        refine ⟨(may_iff _ _ _).2 this, fun e => ?_⟩
        have := h.lt j hj
        exact Classical.byContradiction fun n => q ⟨e, n⟩
    exact ⟨⟨h.lt, fun j hj => (hc j hj).1, h.inj⟩, (hc i hi).2 rfl⟩
  · rintro ⟨h, hk⟩
    refine ⟨h.lt, fun j hj => ?_, h.inj⟩
    have e : cc (onlyC c i k) j (g j) = onlyF c i k j (g j) := tab_cc hj (h.lt j hj)
    rw [may_iff, e]
    unfold onlyF
    rw [if_neg (fun q => q.2 (by rw [q.1]; exact hk))]
    exact (may_iff _ _ _).1 (h.can j hj)
theorem only_cost {c : List (List Int)} {i k : Nat} (hi : i < c.length) {g : Nat → Nat} (h : MtC c g) (hk : g i = k) : costC (onlyC c i k) g = costC c g := by
  unfold costC costOf
  rw [only_len]
  refine sumN_congr fun j hj => ?_
  have e : cc (onlyC c i k) j (g j) = onlyF c i k j (g j) := tab_cc hj (h.lt j hj)
  rw [e]
  unfold onlyF
  rw [if_neg (fun q => q.2 (by rw [q.1]; exact hk))]
/-- Costs d in which the first rows can get the columns l alone; L is the least cost. -/
structure Cur (c : List (List Int)) (L : Int) (l : List Nat) (d : List (List Int)) : Prop where
  len : d.length = c.length
  wid : wideL d = wideL c
  frm : formE d = 0
  mt : ∀ g, MtC d g ↔ MtC c g ∧ ∀ j, j < l.length → g j = l.getD j 0
  cost : ∀ g, MtC d g → costC d g = costC c g
  ex : ∃ f, MtC d f ∧ costC c f = L
  low : ∀ g, MtC c g → L ≤ costC c g
  min : ∀ j, j < l.length → ∀ g, MtC c g → costC c g = L → (∀ j', j' < j → g j' = l.getD j' 0) → l.getD j 0 ≤ g j
  ll : l.length ≤ c.length
theorem Cur.start {c : List (List Int)} {L : Int} (he : formE c = 0) (h : LeastSays c L) (h0 : 0 ≤ L) : Cur c L [] c := by
  rcases h with ⟨e, _⟩ | ⟨_, ⟨f, h1, h2⟩, h3⟩
  · omega
  · exact ⟨rfl, rfl, he, fun g => ⟨fun h => ⟨h, fun j hj => absurd hj (Nat.not_lt_zero _)⟩, fun h => h.1⟩, fun _ _ => rfl, ⟨f, h1, h2⟩, h3, fun j hj => absurd hj (Nat.not_lt_zero _), Nat.zero_le _⟩
/-- The columns below k cannot come. -/
def NotR (c : List (List Int)) (L : Int) (l : List Nat) (k : Nat) : Prop := ∀ g, MtC c g → costC c g = L → (∀ j, j < l.length → g j = l.getD j 0) → k ≤ g l.length
theorem NotR.zero (c : List (List Int)) (L : Int) (l : List Nat) : NotR c L l 0 := fun _ _ _ _ => Nat.zero_le _
theorem Cur.bound {c d : List (List Int)} {L : Int} {l : List Nat} {k : Nat} (u : Cur c L l d) (n : NotR c L l k) (hl : l.length < c.length) : k < wideL c := by
  obtain ⟨f, h1, h2⟩ := u.ex
  obtain ⟨h3, h4⟩ := (u.mt f).1 h1
  have := n f h3 h2 h4
  have := h3.lt _ hl
  omega
theorem Cur.neg {c d : List (List Int)} {L : Int} {l : List Nat} {k : Nat} (u : Cur c L l d) (n : NotR c L l k) (hl : l.length < c.length) (h : cc d l.length k < 0) : NotR c L l (k + 1) := fun g h1 h2 h3 => by
  have h4 := n g h1 h2 h3
  have h5 := ((u.mt g).2 ⟨h1, h3⟩).can l.length (by rw [u.len]; exact hl)
  rw [may_iff] at h5
  have : g l.length ≠ k := fun e => by rw [e] at h5; omega
  omega
theorem Cur.other {c d : List (List Int)} {L X : Int} {l : List Nat} {k : Nat} (u : Cur c L l d) (n : NotR c L l k) (hl : l.length < c.length) (h : LeastSays (onlyC d l.length k) X) (hx : X ≠ L) : NotR c L l (k + 1) := fun g h1 h2 h3 => by
  have h4 := n g h1 h2 h3
  have hld : l.length < d.length := by rw [u.len]; exact hl
  have : g l.length ≠ k := fun e => by
    have hd := (u.mt g).2 ⟨h1, h3⟩
    have ho := (only_mt hld).2 ⟨hd, e⟩
    have hc := (only_cost hld hd e).trans (u.cost g hd)
    rcases h with ⟨_, h⟩ | ⟨_, ⟨f, f1, f2⟩, h⟩
    · exact h ⟨g, ho⟩
    · have q1 := h g ho
      obtain ⟨q2, q3⟩ := (only_mt hld).1 f1
      have q4 := (only_cost hld q2 q3).trans (u.cost f q2)
      have q5 := u.low f ((u.mt f).1 q2).1
      have f2 : costC (onlyC d l.length k) f = X := f2
      have q1 : X ≤ costC (onlyC d l.length k) g := q1
      omega
  omega
theorem Cur.take {c d : List (List Int)} {L : Int} {l : List Nat} {k : Nat} (u : Cur c L l d) (n : NotR c L l k) (hl : l.length < c.length) (h : LeastSays (onlyC d l.length k) L) (h0 : 0 ≤ L) : Cur c L (l ++ [k]) (onlyC d l.length k) := by
  have hld : l.length < d.length := by rw [u.len]; exact hl
  have pre : ∀ g : Nat → Nat, (∀ j, j < (l ++ [k]).length → g j = (l ++ [k]).getD j 0) ↔ (∀ j, j < l.length → g j = l.getD j 0) ∧ g l.length = k := fun g => by
    rw [List.length_append]
    constructor
    · intro q
      refine ⟨fun j hj => ?_, ?_⟩
      · have := q j (by simp; omega)
        rw [getD_app, if_pos hj] at this; exact this
      · have := q l.length (by simp)
        rw [getD_app, if_neg (by omega), if_pos rfl] at this; exact this
    · rintro ⟨q1, q2⟩ j hj
      rw [getD_app]
      by_cases e : j < l.length
      · rw [if_pos e]; exact q1 j e
      · have : j = l.length := by simp at hj; omega
        rw [if_neg e, if_pos this, this]; exact q2
  refine ⟨(only_len _ _ _).trans u.len, (only_wide (by omega) _ _).trans u.wid, only_form u.frm _ _, fun g => ?_, fun g hg => ?_, ?_, u.low, fun j hj g h1 h2 h3 => ?_, by rw [List.length_append]; simp; omega⟩
  · rw [only_mt hld, u.mt, pre, and_assoc]
  · obtain ⟨q2, q3⟩ := (only_mt hld).1 hg
    exact (only_cost hld q2 q3).trans (u.cost g q2)
  · rcases h with ⟨e, _⟩ | ⟨_, ⟨f, f1, f2⟩, _⟩
    · omega
    · obtain ⟨q2, q3⟩ := (only_mt hld).1 f1
      refine ⟨f, f1, ?_⟩
      rw [← u.cost f q2, ← only_cost hld q2 q3]; exact f2
  · rw [List.length_append] at hj
    by_cases e : j < l.length
    · rw [getD_app, if_pos e]
      exact u.min j e g h1 h2 fun j' hj' => by
        have := h3 j' hj'
        rw [getD_app, if_pos (by omega)] at this; exact this
    · have : j = l.length := by simp at hj; omega
      subst this
      rw [getD_app, if_neg (by omega), if_pos rfl]
      exact n g h1 h2 fun j' hj' => by
        have := h3 j' hj'
        rw [getD_app, if_pos hj'] at this; exact this
/-- What the reference's Best says. -/
def RBestSays (c : List (List Int)) (l : List Nat) (total : Int) (ok : Bool) (err : Int) : Prop :=
  (formE c ≠ 0 ∧ l = [] ∧ total = 0 ∧ ok = false ∧ err = formE c) ∨ (formE c = 0 ∧ err = 0 ∧ ¬ Mtd (may (cc c)) (fun i => i < c.length) (wideL c) ∧ l = [] ∧ total = 0 ∧ ok = false) ∨
    (formE c = 0 ∧ err = 0 ∧ ok = true ∧ l.length = c.length ∧ ∃ d, Cur c total l d)
/-- It is what match.Best says. -/
theorem best_same {c : List (List Int)} {l l' : List Nat} {t t' : Int} {ok ok' : Bool} {e e' : Int} (h : BestSays c l t ok e) (h' : RBestSays c l' t' ok' e') : l = l' ∧ t = t' ∧ ok = ok' ∧ e = e' := by
  have he := best_err h
  rcases h' with ⟨q1, q2, q3, q4, q5⟩ | ⟨q1, q2, q3, q4, q5, q6⟩ | ⟨q1, q2, q3, q4, d, u⟩
  · rcases h with ⟨h1, h2, h3, h4, h5⟩ | ⟨h1, _⟩ | ⟨h1, _⟩
    · exact ⟨by rw [h2, q2], by rw [h3, q3], by rw [h4, q4], by rw [h5, q5]⟩
    · exact absurd h1 q1
    · exact absurd h1 q1
  · have hok := best_no h q3
    obtain ⟨h1, h2, h3, h4⟩ := best_not h hok
    exact ⟨by rw [h1, q4], by rw [h2, q5], by rw [hok, q6], by rw [h3, q2, q1]⟩
  · obtain ⟨f, f1, f2⟩ := u.ex
    have f3 := ((u.mt f).1 f1).1
    have hok := best_ok h q1 ⟨f, f3⟩
    obtain ⟨a, b, _, H, _, h2, h3⟩ := best_has h hok
    have t1 := tight_eq H.fair H.tight
    have t2 := totL_cost H.len
    have ht : t = t' := by
      have g1 := H.least f3
      have g2 := u.low _ H.tight.mt
      have f2 : costC c f = t' := f2
      unfold costC at f2 g2
      omega
    subst ht
    refine ⟨?_, rfl, by rw [hok, q3], by rw [h2, q2]⟩
    -- the function of the reference's columns
    have m' : MtC c (fun i => l'.getD i 0) ∧ costC c (fun i => l'.getD i 0) = t := by
      have hcol := ((u.mt f).1 f1).2
      refine ⟨⟨fun i hi => ?_, fun i hi => ?_, fun i j hi hj e => ?_⟩, ?_⟩
      · rw [← hcol i (by omega)]; exact f3.lt i hi
      · rw [← hcol i (by omega)]; exact f3.can i hi
      · rw [← hcol i (by omega), ← hcol j (by omega)] at e; exact f3.inj i j hi hj e
      · rw [← f2]
        unfold costC costOf
        exact sumN_congr fun i hi => by
          show cc c i (l'.getD i 0) = cc c i (f i)
          rw [hcol i (by omega)]
    have key : ∀ j, j < c.length → l.getD j 0 = l'.getD j 0 := by
      intro j
      induction j using Nat.strongRecOn with
      | _ j ih =>
      intro hj
      have g1 := u.min j (by omega) (fun i => l.getD i 0) H.tight.mt (by unfold costC; rw [← t2, h3]) fun j' hj' => ih j' hj' (by omega)
      have g2 := H.min (fun i => l'.getD i 0) (H.tightOf m'.1 (by have := m'.2; unfold costC at this; omega)) j hj fun j' hj' => (ih j' hj' (by omega)).symm
      omega
    refine List.ext_getElem (by rw [H.len, q4]) fun i a1 a2 => ?_
    have := key i (by rw [← H.len]; exact a1)
    simpa [List.getD, a1, a2] using this
def RBestPost (c : List (List Int)) (w : World) (e : Ending) (w' : World) : Prop :=
  ∃ (l : List Nat) (total : Int) (ok : Bool) (err : Int) (a : Option Addr) (cap : Nat), e = .returned (.tuple #[.slice a l.length cap, .int .i64 total, .bool ok, .int .i64 err]) ∧ RBestSays c l total ok err ∧ SlOk a l.length cap ∧ SlAt w' a 1 (l.map metRow) ∧ Below w.heap.size w w'
set_option maxRecDepth 100000 in
set_option maxHeartbeats 8000000 in
theorem RBest_any (a : Option Addr) (cap : Nat) (c : List (List Int)) (w : World) (hl : c.length ≤ 100000000000000) (hm : MatAt w a c) :
    Calls Try.prog 12 #[.slice a c.length cap] w (RBestPost c w) := by
  have HM := Lib.hid hm; clear hm
  go_enter Try.func12, Try.ntmps12
  go_wp2_with (fail)
  refine (RForm_any a cap c w hl HM.out).mono ?_
  rintro e w1 ⟨rfl, hb1⟩
  have HB := Lib.hid hb1
  clear hb1
  by_cases he : formE c = 0
  · have HE := Lib.hid he
    rw [he]
    clear he
    obtain ⟨h200, hw200, hf, hf4⟩ := formE_ok HE.out
    clear hf hf4
    go_wp2_with (fail)
    refine (Rleast_any a cap c _ HE.out (HM.out.below HB.out)).mono ?_
    rintro e w2 ⟨L, rfl, hL, hb2⟩
    replace HB := Lib.hid (HB.out.trans (hb2.mono HB.out.size))
    have HLS := Lib.hid hL
    clear hb2 hL
    by_cases h0 : L < 0
    · go_wp2
      refine bodyPost_ret (v := .tuple #[.slice none 0 0, .int .i64 0, .bool false, .int .i64 0]) (by simp [results, Try.results12, go_sem]) rfl ?_
      refine ⟨[], 0, false, 0, none, 0, rfl, .inr (.inl ⟨HE.out, rfl, ?_, rfl, rfl, rfl⟩), SlOk.nil, SlAt.nil _ _ _, HB.out⟩
      rcases HLS.out with ⟨_, h⟩ | ⟨h, _⟩
      · exact h
      · omega
    · have hL0 : 0 ≤ L := by omega
      have HCU := Lib.hid (Cur.start HE.out HLS.out hL0)
      clear h0 HLS
      go_wp2
      go_loopw [0, 8, 9] (fun s0 s8 s9 wr => ∃ (a' : Option Addr) (cap' : Nat) (d : List (List Int)) (l : List Nat), s0 = .slice a' c.length cap' ∧ s9 = .int .i64 l.length ∧ OwnR wr w.heap.size 3 1 s8 (l.map metRow) ∧ MatAt wr a' d ∧ Cur c L l d ∧ Below w.heap.size w wr) (fun _ _ i _ => c.length - (intOf i).toNat)
      case atStart => exact ⟨a, cap, c, [], rfl, rfl, OwnR.nil _ _ _ _, HM.out.below HB.out, HCU.out, HB.out⟩
      case round =>
        clear HB HCU
        obtain ⟨a', cap', d, l, rfl, rfl, ho, hmd, hcu, hb⟩ := hrel
        have HO := Lib.hid ho; have HMD := Lib.hid hmd; have HCU := Lib.hid hcu; have HB := Lib.hid hb
        have hll := hcu.ll
        clear ho hmd hcu hb
        by_cases hlt : l.length < c.length
        · go_wp2
          go_loopw [10] (fun s10 wr => ∃ k : Nat, s10 = .int .i64 k ∧ k ≤ wideL c ∧ NotR c L l k ∧ OwnR wr w.heap.size 3 1 u8 (l.map metRow) ∧ MatAt wr a' d ∧ Below w.heap.size w wr) (fun i _ => wideL c - (intOf i).toNat)
          case atStart => exact ⟨0, rfl, Nat.zero_le _, NotR.zero _ _ _, HO.out, HMD.out, HB.out⟩
          case round =>
            clear HO HMD HB
            obtain ⟨k, rfl, _, hnr, ho, hmd, hb⟩ := hrel
            have HO := Lib.hid ho; have HMD := Lib.hid hmd; have HNR := Lib.hid hnr; have HB := Lib.hid hb
            have hkn := Cur.bound HCU.out hnr hlt
            clear ho hmd hnr hb
            have hld := Lib.hid (show l.length < d.length by rw [HCU.out.len]; exact hlt)
            obtain ⟨bc, oc, ai, ci, rfl, c0, _, hik⟩ := HMD.out.get l.length hld.out
            have hlen : (d[l.length]'hld.out).length = wideL c := by rw [← HCU.out.wid]; exact (formE_ok HCU.out.frm).2.2.1 _ (List.getElem_mem _)
            have HCI := Lib.hid (show ∃ ci', ci' = ci from ⟨_, rfl⟩)
            obtain ⟨b3, o3, rfl, e0⟩ := hik.get k (by omega)
            rw [← cc_get hld.out (by omega)] at e0
            replace c0 : wr.cell? ⟨bc, oc + l.length, none⟩ = some (.slice (some ⟨b3, o3, none⟩) (wideL c) ci) := by rw [← hlen]; exact c0
            clear hik hlen
            generalize hX : cc d l.length k = X at *
            have HX := Lib.hid hX; clear hX
            by_cases hx : X < 0
            · have HN2 := Lib.hid (HCU.out.neg HNR.out hlt (by rw [HX.out]; exact hx))
              go_wp2
              go_roundw
              case rel => exact ⟨k + 1, by go_num, by omega, HN2.out, HO.out, HMD.out, HB.out⟩
              case measure => simp [intOf]; omega
            · go_wp2_with (fail)
              have hon := Ronly_any (some ⟨bc, oc, none⟩) cap' d l.length k wr HCU.out.frm (by rw [HCU.out.wid]; omega) hld.out (by rw [HCU.out.wid]; exact hkn) HMD.out
              unfold OnlyPost at hon
              rw [HCU.out.len] at hon
              refine hon.mono ?_
              rintro e w3 ⟨a3, cap3, rfl, _, hm3, hb3, _⟩
              have HM3 := Lib.hid hm3; have HB3 := Lib.hid hb3
              clear hon hm3 hb3
              go_wp2_with (fail)
              have hle := Rleast_any a3 cap3 (onlyC d l.length k) w3 (only_form HCU.out.frm _ _) HM3.out
              rw [only_len, HCU.out.len] at hle
              refine hle.mono ?_
              rintro e w4 ⟨Y, rfl, hY, hb4⟩
              have HY := Lib.hid hY
              have HB4 := Lib.hid (HB3.out.trans (hb4.mono HB3.out.size))
              clear hle hY hb4 HB3 HM3
              replace HO := Lib.hid (HO.out.below HB4.out)
              replace HMD := Lib.hid (HMD.out.below HB4.out)
              replace HB := Lib.hid (HB.out.trans (HB4.out.mono HB.out.size))
              clear HB4
              by_cases hyl : Y = L
              · have e1 : (Y != L) = false := by simp [hyl]
                have HTK := Lib.hid (HCU.out.take HNR.out hlt (hyl ▸ HY.out) hL0)
                clear hyl
                go_wp2_with (fail)
                have hon := Ronly_any (some ⟨bc, oc, none⟩) cap' d l.length k w4 HCU.out.frm (by rw [HCU.out.wid]; omega) hld.out (by rw [HCU.out.wid]; exact hkn) HMD.out
                unfold OnlyPost at hon
                rw [HCU.out.len] at hon
                refine hon.mono ?_
                rintro e w5 ⟨a5, cap5, rfl, _, hm5, hb5, hk5⟩
                have HK5 := Lib.hid hk5; have HOL := Lib.hid (fun b e => (HO.out.lt b e).2); have HS5 := Lib.hid hb5.size
                have HM5 := Lib.hid hm5
                replace HO := Lib.hid (HO.out.below hb5)
                replace HB := Lib.hid (HB.out.trans (hb5.mono HB.out.size))
                clear hon hm5 hb5 hk5
                go_wp2_with (at_builtin; refine appE eltMet rfl (.tmp 49) (.tmp 51) rfl w.heap.size _ l rfl (HO.out.below ((Below.refl _ _).alloc (Nat.le_refl _) _)) _ _ _ [k] rfl rfl (fun e => by cases e) (eltMet.new _ _ _ _ rfl) (by simp; omega) (by have := HB.out.size; simp; omega) ?_; intro v1 w6 ho1 hg1; have HO1 := Lib.hid ho1; have HB1 := Lib.hid (below_grown (HB.out.alloc HB.out.size _) (HO.out.below ((Below.refl _ _).alloc (Nat.le_refl _) _)) (by have := HB.out.size; simp; omega) hg1); have HM6 := Lib.hid (HK5.out w6 fun b h1 h2 => (hg1.block b (by simp; omega) (fun e => by have := HOL.out b e.symm; omega)).trans (((Below.refl w5.heap.size w5).alloc (Nat.le_refl _) _).block b h2)); clear ho1 hg1)
                go_roundw
                case rel => exact ⟨a5, cap5, _, l ++ [k], rfl, by simp, HO1.out, HM6.out, HTK.out, HB1.out⟩
                case measure => simp [intOf]; omega
              · have e1 : (Y != L) = true := by simpa using hyl
                have HN2 := Lib.hid (HCU.out.other HNR.out hlt HY.out hyl)
                clear hyl
                go_wp2
                go_roundw
                case rel => exact ⟨k + 1, by go_num, by omega, HN2.out, HO.out, HMD.out, HB.out⟩
                case measure => simp [intOf]; omega
        · have hle : l.length = c.length := by omega
          have HLE := Lib.hid hle
          obtain ⟨a6, c6, rfl, s6, i6⟩ := HO.out.slAt
          rw [List.length_map] at s6
          have HS6 := Lib.hid s6; have HI6 := Lib.hid i6
          clear hle s6 i6
          go_wp2
          refine bodyPost_ret (v := .tuple #[.slice a6 (l.map metRow).length c6, .int .i64 L, .bool true, .int .i64 0]) (by simp [results, Try.results12, go_sem]) rfl ?_
          exact ⟨l, L, true, 0, a6, c6, by rw [List.length_map], .inr (.inr ⟨HE.out, rfl, rfl, HLE.out, d, HCU.out⟩), HS6.out, HI6.out, HB.out⟩
  · go_wp2
    refine bodyPost_ret (v := .tuple #[.slice none 0 0, .int .i64 0, .bool false, .int .i64 (formE c)]) (by simp [results, Try.results12, go_sem]) rfl ?_
    exact ⟨[], 0, false, formE c, none, 0, rfl, .inl ⟨he, rfl, rfl, rfl, rfl⟩, SlOk.nil, SlAt.nil _ _ _, HB.out⟩
end Go.Proofs.Ytkpgphadgomifaa
