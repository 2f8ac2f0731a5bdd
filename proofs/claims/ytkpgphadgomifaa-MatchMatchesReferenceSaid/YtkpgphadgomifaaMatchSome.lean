/- The reference functions over costs: Some, Without, Get. -/
import Derived.Test.YtkpgphadgomifaaMatchHead
namespace Go.Proofs.Ytkpgphadgomifaa
set_option linter.unusedSimpArgs false
set_option linter.unusedVariables false
open Go.RowKit Go.Sort Go.Shelf

/-- A slice's words. -/
abbrev Hd := Option Addr × Nat × Nat
def hdr (h : Hd) : List Value := [.slice h.1 h.2.1 h.2.2]
theorem eltHd : Elt Try.prog 22 23 1 24 hdr := ⟨Try.underlying22, ⟨.slice none 0 0, by kernel_rfl, rfl⟩, by decide, by decide, fun _ => rfl, fun x u hu => by simp [hdr] at hu; subst hu; rfl⟩
theorem mat_words {w : World} {a : Option Addr} {c : List (List Int)} (m : MatAt w a c) : ∃ H : Nat → Hd, ∀ i (hi : i < c.length), (H i).2.1 = c[i].length ∧ SlOk0 (H i).1 (c[i]).length (H i).2.2 ∧ InAt w (H i).1 c[i] ∧ ∃ b off, a = some ⟨b, off, none⟩ ∧ w.cell? ⟨b, off + i, none⟩ = some (.slice (H i).1 (H i).2.1 (H i).2.2) := by
  have h : ∀ i, ∃ h : Hd, ∀ hi : i < c.length, h.2.1 = c[i].length ∧ SlOk0 h.1 (c[i]).length h.2.2 ∧ InAt w h.1 c[i] ∧ ∃ b off, a = some ⟨b, off, none⟩ ∧ w.cell? ⟨b, off + i, none⟩ = some (.slice h.1 h.2.1 h.2.2) := fun i => by
    by_cases hi : i < c.length
    · obtain ⟨b, off, ai, ci, e, c0, hs, hin⟩ := m.get i hi
      exact ⟨(ai, (c[i]).length, ci), fun _ => ⟨rfl, hs, hin, b, off, e, c0⟩⟩
    · exact ⟨(none, 0, 0), fun h => absurd h hi⟩
  exact ⟨fun i => Classical.choose (h i), fun i hi => Classical.choose_spec (h i) hi⟩
/-- Some rows. -/
def pick (c : List (List Int)) (l : List Int) : List (List Int) := l.map fun r => c.getD r.toNat []
theorem pick_len (c : List (List Int)) (l : List Int) : (pick c l).length = l.length := by simp [pick]
theorem mat_hds {w : World} {a : Option Addr} {c : List (List Int)} {H : Nat → Hd} {l : List Int} (hH : ∀ i (hi : i < c.length), (H i).2.1 = c[i].length ∧ SlOk0 (H i).1 (c[i]).length (H i).2.2 ∧ InAt w (H i).1 c[i]) (hl : ∀ r ∈ l, 0 ≤ r ∧ r < c.length)
    (h : SlAt w a 1 ((l.map fun r => H r.toNat).map hdr)) : MatAt w a (pick c l) := by
  refine ⟨(l.map fun r => H r.toNat).map fun h => .slice h.1 h.2.1 h.2.2, ?_, by simp [pick], fun i hi => ?_⟩
  · rw [List.map_map]; exact h
  · rw [pick_len] at hi
    have hr := hl l[i] (List.getElem_mem _)
    obtain ⟨h1, h2, h3⟩ := hH l[i].toNat (by omega)
    have e : (pick c l)[i]'(by rw [pick_len]; exact hi) = c[l[i].toNat]'(by omega) := by
      simp [pick, List.getD, show l[i].toNat < c.length by omega]
    refine ⟨(H l[i].toNat).1, (H l[i].toNat).2.2, ?_, ?_, ?_⟩
    · simp [hi, e, h1]
    · rw [e]; exact h2
    · rw [e]; exact h3
def SomePost (c : List (List Int)) (l : List Int) (w : World) (e : Ending) (w' : World) : Prop :=
  ∃ a cap, e = .returned (.slice a (pick c l).length cap) ∧ SlOk a (pick c l).length cap ∧ MatAt w' a (pick c l) ∧ Below w.heap.size w w'
set_option maxRecDepth 100000 in
set_option maxHeartbeats 2000000 in
theorem RSome_any (a a2 : Option Addr) (cap cap2 : Nat) (c : List (List Int)) (l : List Int) (w : World) (hc : c.length ≤ 100000000000000) (hll : l.length ≤ 200) (hm : MatAt w a c) (hi : InAt w a2 l) (hl : ∀ r ∈ l, 0 ≤ r ∧ r < c.length) :
    Calls Try.prog 21 #[.slice a c.length cap, .slice a2 l.length cap2] w (SomePost c l w) := by
  obtain ⟨H, hH⟩ := mat_words hm
  have HM := Lib.hid hm; have HI := Lib.hid hi; have HH := Lib.hid hH; have HL := Lib.hid hl
  clear hm hi hH hl
  go_enter Try.func21, Try.ntmps21
  go_wp2
  go_loopw [5, 6] (fun s5 s6 wr => ∃ k : Nat, k ≤ l.length ∧ s6 = .int .i64 k ∧ OwnR wr w.heap.size 23 1 s5 (((l.take k).map fun r => H r.toNat).map hdr) ∧ Below w.heap.size w wr) (fun _ i _ => l.length - (intOf i).toNat)
  case atStart => exact ⟨0, Nat.zero_le _, rfl, OwnR.nil _ _ _ _, Below.refl _ _⟩
  case round =>
    obtain ⟨k, hk, rfl, ho, hb⟩ := hrel
    have HO := Lib.hid ho; have HB := Lib.hid hb
    clear ho hb
    by_cases hlt : k < l.length
    · obtain ⟨b2, o2, rfl, d0⟩ := HI.out.get k hlt
      obtain ⟨hr1, hr2⟩ := HL.out l[k] (List.getElem_mem _)
      have hx : ∃ j : Nat, l[k] = j ∧ j < c.length := ⟨l[k].toNat, by omega, by omega⟩
      obtain ⟨j, hj, hjc⟩ := hx
      rw [hj] at d0
      clear hr1 hr2
      obtain ⟨q1, q2, q3, b, off, rfl, c0⟩ := HH.out j hjc
      clear q1 q2 q3
      have HJ := Lib.hid hj; clear hj
      have g0 := keepC d0 HB.out; have g1 := keepC c0 HB.out
      go_wp2_with (at_builtin; go_must (refine appE eltHd rfl (.tmp 13) (.tmp 21) rfl w.heap.size _ ((l.take k).map fun r => H r.toNat) rfl (HO.out.below ((Below.refl _ _).alloc (Nat.le_refl _) _)) _ _ _ [H j] rfl rfl (fun e => by cases e) (eltHd.new _ _ _ _ rfl) (by simp; omega) (by have := HB.out.size; simp; omega) ?_); intro v1 w1 ho1 hg1; have HO1 := Lib.hid ho1; have HB1 := Lib.hid (below_grown (HB.out.alloc HB.out.size _) (HO.out.below ((Below.refl _ _).alloc (Nat.le_refl _) _)) (by have := HB.out.size; simp; omega) hg1); clear ho1 hg1)
      refine ⟨⟨k + 1, by omega, by go_num, ?_, HB1.out⟩, by simp [intOf]; omega⟩
      have := HO1.out
      rw [List.take_succ_eq_append_getElem hlt, List.map_append]
      rw [show List.map (fun r : Int => H r.toNat) [l[k]] = [H j] by simp [HJ.out]]
      exact this
    · have hke : k = l.length := by omega
      have HO2 := Lib.hid (show OwnR wr w.heap.size 23 1 u5 ((l.map fun r => H r.toNat).map hdr) by have := HO.out; rw [hke, List.take_length] at this; exact this)
      obtain ⟨a6, c6, e6, s6, i6⟩ := HO2.out.slAt
      have HE6 := Lib.hid e6; have HS6 := Lib.hid s6; have HI6 := Lib.hid i6
      clear e6 s6 i6
      go_wp2
      go_ret
      refine ⟨a6, c6, ?_, ?_, mat_hds (fun i hi => ⟨(HH.out i hi).1, (HH.out i hi).2.1, (HH.out i hi).2.2.1.below HB.out⟩) HL.out HI6.out, HB.out⟩
      · have := HE6.out
        rw [List.length_map, List.length_map] at this
        rw [pick_len, ← this]; rfl
      · have := HS6.out
        rw [List.length_map, List.length_map] at this
        rw [pick_len]; exact this
set_option maxRecDepth 100000 in
set_option maxHeartbeats 2000000 in
theorem RWithout_any (a : Option Addr) (cap : Nat) (l : List Int) (i : Nat) (w : World) (hll : l.length ≤ 200) (hil : i < l.length) (hs : SlOk a l.length cap) (hi : InAt w a l) :
    Calls Try.prog 22 #[.slice a l.length cap, .int .i64 i] w (RetSl 1 ((l.eraseIdx i).map inRow) w) := by
  obtain ⟨b, off, rfl, d0⟩ := hi.get i hil
  have HI := Lib.hid hi; have hcap := hs.le
  clear hi hs d0
  have h1 : i ≤ cap := by omega
  have h2 : i + 1 ≤ l.length := by omega
  by_cases hcap2 : cap = i + 1
  · have hdr0 : l.drop (i + 1) = [] := List.drop_eq_nil_of_le (by omega)
    have HD := Lib.hid (fun (w' : World) (hb : Below w.heap.size w w') => (show InAt w' (some ⟨b, off, none⟩) (l.drop (i + 1)) by rw [hdr0]; exact SlAt.nil _ _ _))
    have HC := Lib.hid hdr0
    clear hdr0
    subst hcap2
    go_enter Try.func22, Try.ntmps22
    go_wp2_with (first | (at_builtin; refine appE eltInt rfl (.tmp 6) (.tmp 9) rfl w.heap.size _ [] rfl (OwnR.nil _ _ _ _) _ _ _ (l.take i) rfl (len_take l _ (by omega)) (fun e => by cases e) (HI.out.take' i) (by simp; omega) (Nat.le_refl _) ?_; intro v1 w1 ho1 hg1; have HB1 := Lib.hid (below_grown (Below.refl _ _) (OwnR.nil _ _ 3 1) (Nat.le_refl _) hg1); have HO1 := Lib.hid ho1; clear ho1 hg1) | (at_builtin; go_must (refine appE eltInt rfl (.tmp 11) (.tmp 15) rfl w.heap.size _ (l.take i) rfl HO1.out _ _ _ (l.drop (i + 1)) rfl (by simp <;> omega) (fun e => by cases e) (HD.out _ HB1.out) (by simp; omega) HB1.out.size ?_); intro v2 w2 ho2 hg2; have HB2 := Lib.hid (below_grown HB1.out HO1.out HB1.out.size hg2); have HO2 := Lib.hid ho2; clear ho2 hg2))
    go_ret
    exact HO2.out.retSl (by rw [List.eraseIdx_eq_take_drop_succ]) HB2.out
  · have hc3 : i + 1 < cap := by omega
    have hc4 : cap - (i + 1) ≠ 0 := by omega
    have HD := Lib.hid (fun (w' : World) (hb : Below w.heap.size w w') => (HI.out.drop' (i + 1)).below hb)
    go_enter Try.func22, Try.ntmps22
    go_wp2_with (first | (at_builtin; refine appE eltInt rfl (.tmp 6) (.tmp 9) rfl w.heap.size _ [] rfl (OwnR.nil _ _ _ _) _ _ _ (l.take i) rfl (len_take l _ (by omega)) (fun e => by cases e) (HI.out.take' i) (by simp; omega) (Nat.le_refl _) ?_; intro v1 w1 ho1 hg1; have HB1 := Lib.hid (below_grown (Below.refl _ _) (OwnR.nil _ _ 3 1) (Nat.le_refl _) hg1); have HO1 := Lib.hid ho1; clear ho1 hg1) | (at_builtin; go_must (refine appE eltInt rfl (.tmp 11) (.tmp 15) rfl w.heap.size _ (l.take i) rfl HO1.out _ _ _ (l.drop (i + 1)) rfl (by simp <;> omega) (fun e => by cases e) (HD.out _ HB1.out) (by simp; omega) HB1.out.size ?_); intro v2 w2 ho2 hg2; have HB2 := Lib.hid (below_grown HB1.out HO1.out HB1.out.size hg2); have HO2 := Lib.hid ho2; clear ho2 hg2))
    go_ret
    exact HO2.out.retSl (by rw [List.eraseIdx_eq_take_drop_succ]) HB2.out
/-- How many columns some rows can get. -/
def getB (c : List (List Int)) (l : List Int) (k : Nat) : Bool := l.any fun r => decide (0 ≤ cc c r.toNat k)
def getN (c : List (List Int)) (l : List Int) (n : Nat) : Nat := ((List.range n).filter (getB c l)).length
theorem getN_succ (c : List (List Int)) (l : List Int) (n : Nat) : getN c l (n + 1) = getN c l n + if getB c l n then 1 else 0 := by
  unfold getN
  rw [List.range_succ, List.filter_append, List.length_append]
  cases h : getB c l n <;> simp [h]
theorem getN_le (c : List (List Int)) (l : List Int) (n : Nat) : getN c l n ≤ n := by
  have := List.length_filter_le (getB c l) (List.range n)
  simpa [getN] using this
theorem any_take_succ {l : List Int} {m : Nat} (h : m < l.length) (p : Int → Bool) : (l.take (m + 1)).any p = ((l.take m).any p || p l[m]) := by
  rw [List.take_succ_eq_append_getElem h, List.any_append]; simp
set_option maxRecDepth 100000 in
set_option maxHeartbeats 4000000 in
theorem RGet_any (a a2 : Option Addr) (cap cap2 : Nat) (c : List (List Int)) (l : List Int) (w : World) (he : formE c = 0) (hll : l.length ≤ 200) (hm : MatAt w a c) (hi : InAt w a2 l) (hl : ∀ r ∈ l, 0 ≤ r ∧ r < c.length) :
    Calls Try.prog 23 #[.slice a c.length cap, .slice a2 l.length cap2] w fun e w' => e = .returned (.int .i64 (getN c l (wideL c) : Nat)) ∧ Below w.heap.size w w' := by
  obtain ⟨f1, f2, f3, f4⟩ := formE_ok he
  have HM := Lib.hid hm; have HI := Lib.hid hi; have HL := Lib.hid hl; have HF3 := Lib.hid f3
  clear hm hi hl f3 f4 he
  go_enter Try.func23, Try.ntmps23
  go_wp2
  go_loopw [5, 6] (fun s5 s6 wr => ∃ k : Nat, k ≤ wideL c ∧ s6 = .int .i64 k ∧ s5 = .int .i64 (getN c l k : Nat) ∧ Below w.heap.size w wr) (fun _ i _ => wideL c - (intOf i).toNat)
  case atStart => exact ⟨0, Nat.zero_le _, rfl, rfl, Below.refl _ _⟩
  case round =>
    obtain ⟨k, hk, rfl, rfl, hb⟩ := hrel
    have HB := Lib.hid hb; clear hb
    have hgk := getN_le c l k
    go_wp2_with (fail)
    refine (Rcols_any _ _ c _ (by omega) (HM.out.below HB.out)).mono ?_
    rintro e w1 ⟨rfl, hww⟩
    subst hww
    by_cases hlt : k < wideL c
    · go_wp2
      go_loopw [7, 8] (fun s7 s8 wr => ∃ m : Nat, m ≤ l.length ∧ s8 = .int .i64 m ∧ s7 = .bool (getB c (l.take m) k) ∧ Below w.heap.size w wr) (fun _ i _ => l.length - (intOf i).toNat)
      case atStart => exact ⟨0, Nat.zero_le _, rfl, rfl, HB.out⟩
      case round =>
        clear HB
        obtain ⟨m, hm, rfl, rfl, hb⟩ := hrel
        have HB := Lib.hid hb; clear hb
        by_cases hml : m < l.length
        · have hsucc := Lib.hid (any_take_succ hml fun r => decide (0 ≤ cc c r.toNat k))
          generalize hG : getB c (l.take m) k = G at *
          have HG := Lib.hid hG; clear hG
          cases G
          · obtain ⟨b2, o2, rfl, d0⟩ := HI.out.get m hml
            obtain ⟨hr1, hr2⟩ := HL.out l[m] (List.getElem_mem _)
            obtain ⟨j, hj, hjc⟩ : ∃ j : Nat, l[m] = j ∧ j < c.length := ⟨l[m].toNat, by omega, by omega⟩
            obtain ⟨b, off, ai, ci, rfl, c0, hsk, hik⟩ := HM.out.get j hjc
            have hlen := HF3.out c[j] (List.getElem_mem _)
            obtain ⟨b3, o3, rfl, e0⟩ := hik.get k (by omega)
            rw [← cc_get hjc (by omega)] at e0
            rw [hlen] at c0
            rw [hj] at d0
            have HJ := Lib.hid hj
            clear hr1 hr2 hsk hik hlen hj
            generalize hN : cc c j k = N at *
            have HN := Lib.hid hN; clear hN
            have g0 := keepC d0 HB.out; have g1 := keepC c0 HB.out; have g2 := keepC e0 HB.out
            go_wp2
            go_roundw
            case rel => exact ⟨m + 1, by omega, by go_num, by
              have h1 := hsucc.out
              have h2 : ((l.take m).any fun r => decide (0 ≤ cc c r.toNat k)) = false := HG.out
              rw [h2, Bool.false_or, HJ.out] at h1
              rw [show getB c (l.take (m + 1)) k = decide (0 ≤ N) by rw [← HN.out]; simpa [getB] using h1], HB.out⟩
            case measure => simp [intOf]; omega
          · go_wp2
            go_roundw
            case rel => exact ⟨m + 1, by omega, by go_num, by
              have h1 := hsucc.out
              have h2 : ((l.take m).any fun r => decide (0 ≤ cc c r.toNat k)) = true := HG.out
              rw [h2, Bool.true_or] at h1
              rw [show getB c (l.take (m + 1)) k = true from h1], HB.out⟩
            case measure => simp [intOf]; omega
        · have hml2 : m = l.length := by omega
          have hG : getB c (l.take m) k = getB c l k := by rw [hml2, List.take_length]
          have hS := getN_succ c l k
          rw [hG]
          cases hB : getB c l k
          · rw [hB] at hS
            have HS := Lib.hid hS; clear hS hG hml2
            go_wp2
            go_roundw
            case rel => exact ⟨k + 1, by omega, by go_num, by rw [HS.out]; simp, HB.out⟩
            case measure => simp [intOf]; omega
          · rw [hB] at hS
            have HS := Lib.hid hS; clear hS hG hml2
            go_wp2
            go_roundw
            case rel => exact ⟨k + 1, by omega, by go_num, by rw [HS.out]; simp, HB.out⟩
            case measure => simp [intOf]; omega
    · have hke : k = wideL c := by omega
      have HE := Lib.hid hke; clear hke
      go_wp2
      go_ret
      exact ⟨by rw [← HE.out]; rfl, HB.out⟩
end Go.Proofs.Ytkpgphadgomifaa
