
/- Contract of (*reader).read. -/
import Derived.Test.YtfppijjjaleiaaaDoorCallRd2
namespace Go.Proofs.YtfppijjjaleiaaaDoor
set_option linter.unusedSimpArgs false
set_option linter.unusedVariables false
open Go.RowKit Go.Sort

def ReadPost (n0 b : Nat) (ws : List Bs) (w : World) (e : Ending) (w' : World) : Prop :=
  match readC ws with
  | some c => e = .returned (.tuple #[]) ∧ RdAt n0 b c [] w' ∧ Turn1 b w w'
  | none => e = failE ∧ Turn1 b w w'
theorem ReadPost.fail {n0 b : Nat} {ws : List Bs} {w w' : World} (h : readC ws = none) (hb : Turn1 b w w') : ReadPost n0 b ws w failE w' := by
  unfold ReadPost; rw [h]; exact ⟨rfl, hb⟩
theorem ReadPost.ok {n0 b : Nat} {ws : List Bs} {c : Cl} {w w' : World} (h : readC ws = some c) (hr : RdAt n0 b c [] w') (hb : Turn1 b w w') : ReadPost n0 b ws w (.returned (.tuple #[])) w' := by
  unfold ReadPost; rw [h]; exact ⟨rfl, hr, hb⟩
theorem read_no1 {ws : List Bs} (h : barsP ws = none) : readC ws = none := by simp [readC, h]
theorem read_no2 {ws w1 : List Bs} {k : Int} (h : barsP ws = some (k, w1)) (h2 : placeP w1 = none) : readC ws = none := by simp [readC, h, h2]
theorem read_no3 {ws w1 w2 : List Bs} {k : Int} {l : Bs × Int} (h : barsP ws = some (k, w1)) (h2 : placeP w1 = some (l, w2)) (h3 : beatP w2 = none) : readC ws = none := by simp [readC, h, h2, h3]
theorem read_no4 {ws w1 w2 w3 : List Bs} {k : Int} {l : Bs × Int} {f : Int × Int} (h : barsP ws = some (k, w1)) (h2 : placeP w1 = some (l, w2)) (h3 : beatP w2 = some (f, w3)) (h4 : passP w3 = none) : readC ws = none := by simp [readC, h, h2, h3, h4]
theorem read_end {ws w1 w2 w3 w4 : List Bs} {k p : Int} {l : Bs × Int} {f : Int × Int} (h : barsP ws = some (k, w1)) (h2 : placeP w1 = some (l, w2)) (h3 : beatP w2 = some (f, w3)) (h4 : passP w3 = some (p, w4)) :
    readC ws = if w4 = [] ∧ validC ⟨l.1, l.2, k, f.1, f.2, p⟩ = true then some ⟨l.1, l.2, k, f.1, f.2, p⟩ else none := by simp [readC, h, h2, h3, h4]
theorem frac_go {z : Bs} {n : Int} (h : numP (cutP z).1 = some n) : fracP z = (if (cutP z).2.isSome then (numP ((cutP z).2.getD [])).bind fun d => if 1 < d then (if 0 < n then some (n, d) else none) else none else if 0 < n then some (n, 1) else none) := by
  unfold fracP posP
  rw [h]
  cases hc : (cutP z).2 with
  | none => simp only [Option.isSome_none, Bool.false_eq_true, if_false, Option.bind_some]; split <;> rfl
  | some d =>
    simp only [Option.isSome_some, if_true, Option.bind_some, Option.getD_some]
    by_cases hn : 0 < n
    · simp only [if_pos hn, Option.bind_some]
    · simp only [if_neg hn, Option.bind_none]
      cases numP d with
      | none => rfl
      | some k => simp
theorem frac_bad {z : Bs} (h : numP (cutP z).1 = none) : fracP z = none := by
  unfold fracP posP
  rw [h]
  cases (cutP z).2 <;> rfl
theorem cutP_len : ∀ (z : Bs), (cutP z).1.length ≤ z.length ∧ ((cutP z).2.getD []).length ≤ z.length
  | [] => by simp [cutP]
  | c :: r => by
    have ih := cutP_len r
    rw [cutP]
    split
    · simp
    · simp only [List.length_cons]
      omega
theorem beat_yes (z : Bs) (r : List Bs) : beatP ([44] :: beatW :: z :: r) = (fracP z).map fun p => (p, r) := by simp [beatP]
theorem beat_end : beatP [[44], beatW] = none := by simp [beatP]
theorem beat_no {ws : List Bs} (h : ∀ r, ws ≠ [44] :: beatW :: r) : beatP ws = some ((0, 1), ws) := by
  match ws, h with
  | [], _ => rfl
  | [x], _ => rfl
  | x :: y :: r, h =>
    have : ¬ (x = [44] ∧ y = beatW) := fun ⟨a, b⟩ => h r (by rw [a, b])
    simp [beatP, this]
theorem pass_yes (z : Bs) (r : List Bs) : passP ([44] :: timeW :: z :: r) = (posP z).map fun p => (p, r) := by simp [passP]
theorem pass_end : passP [[44], timeW] = none := by simp [passP]
theorem pass_no {ws : List Bs} (h : ∀ r, ws ≠ [44] :: timeW :: r) : passP ws = some (0, ws) := by
  match ws, h with
  | [], _ => rfl
  | [x], _ => rfl
  | x :: y :: r, h =>
    have : ¬ (x = [44] ∧ y = timeW) := fun ⟨a, b⟩ => h r (by rw [a, b])
    simp [passP, this]
set_option maxRecDepth 100000 in
set_option maxHeartbeats 8000000 in
theorem read_any {n0 b : Nat} {ws : List Bs} {w : World} (h : RdAt n0 b ⟨[], 0, 0, 0, 1, 0⟩ ws w) (hE : EnvB n0 w) : Calls Tryd.prog 28 #[.pointer (some ⟨b, 0, none⟩)] w (ReadPost n0 b ws w) := by
  have HRd := Lib.hid h; have HE := Lib.hid hE
  have HB := Lib.hid (Turn1.refl b w)
  clear h hE
  go_enter Tryd.func28, Tryd.ntmps28
  go_wp2_with (fail)
  refine (bars_any HRd.out HE.out rfl).mono ?_
  intro e w1 hp
  unfold BarsPost at hp
  cases h1 : barsP ws with
  | none =>
    rw [h1] at hp
    obtain ⟨rfl, hb⟩ := hp
    exact ⟨rfl, ReadPost.fail (read_no1 h1) hb⟩
  | some kr =>
  obtain ⟨k, ws1⟩ := kr
  rw [h1] at hp
  obtain ⟨rfl, hr, hb⟩ := hp
  replace HRd := Lib.hid hr; replace HB := Lib.hid (HB.out.trans hb); clear hr hb
  have H1 := Lib.hid h1; clear h1
  go_wp2_with (fail)
  cases ws1 with
  | nil =>
    refine (next_none HRd.out).mono ?_
    rintro e w2 ⟨rfl, rfl⟩
    exact ⟨rfl, ReadPost.fail (read_no2 H1.out rfl) HB.out⟩
  | cons p ws2 =>
  refine (next_some HRd.out).mono ?_
  have hpl := HRd.out.short p (by simp)
  rintro e w2 ⟨rfl, hr, hb⟩
  replace HRd := Lib.hid hr; replace HB := Lib.hid (HB.out.trans hb); clear hr hb
  go_wp2_with (fail)
  refine (cname_any _ _).mono ?_
  rw [bs_mk]
  rintro e w3 ⟨rfl, hb⟩
  replace HB := Lib.hid (HB.out.trans (Turn1.of_below hb)); replace HRd := Lib.hid (HRd.out.below hb); clear hb
  go_upto_if 11 with (fail)
  go_cut [2] from 3 (fun s2 V => s2 = .string (mkS p) ∧ ∃ (lt : Bs) (nu : Int), Hid (placeP (p :: ws2) = some ((lt, nu), ws2)) ∧ RdAt n0 b ⟨lt, nu, k, 0, 1, 0⟩ ws2 V ∧ Turn1 b w V)
  case first =>
    cases hn : nameB p with
    | true =>
      have HP := Lib.hid (show placeP (p :: ws2) = some ((p, 0), ws2) by simp [placeP, hn])
      clear hn
      (obtain ⟨q1, cp1, d1, d2, d3, d4, d5⟩ := HRd.out.at_; have hc := box_cells d1; have hf := box_free d1; clear d1 d2 d3 d4 d5)
      obtain ⟨hr, hb⟩ := HRd.out.setLetter p
      replace HRd := Lib.hid hr; replace HB := Lib.hid (HB.out.trans hb); clear hr hb
      go_wp2
      go_meet
      case rel => exact ⟨rfl, _, _, HP, HRd.out, HB.out⟩
    | false =>
      have HP := Lib.hid (show placeP (p :: ws2) = (numP p).map fun k => (([], k), ws2) by simp [placeP, hn])
      clear hn
      go_wp2_with (fail)
      refine (number_any p _ hpl (HE.out.turn HB.out HRd.out.le).env).mono ?_
      rintro e w4 ⟨he, hb⟩
      replace HB := Lib.hid (HB.out.trans (Turn1.of_below hb)); replace HRd := Lib.hid (HRd.out.below hb); clear hb
      cases hn : numP p with
      | none =>
        rw [hn] at he HP
        subst he
        exact ⟨rfl, ReadPost.fail (read_no2 H1.out HP.out) HB.out⟩
      | some v =>
        rw [hn] at he HP
        subst he
        clear hn
        (obtain ⟨q1, cp1, d1, d2, d3, d4, d5⟩ := HRd.out.at_; have hc := box_cells d1; have hf := box_free d1; clear d1 d2 d3 d4 d5)
        obtain ⟨hr, hb⟩ := HRd.out.setNumber v
        replace HRd := Lib.hid hr; replace HB := Lib.hid (HB.out.trans hb); clear hr hb
        go_wp2
        go_meet
        case rel => exact ⟨rfl, _, _, HP, HRd.out, HB.out⟩
  case rest =>
  obtain ⟨rfl, lt, nu, H2, hr, hb⟩ := hcut
  replace HRd := Lib.hid hr; replace HB := Lib.hid hb; clear hr hb
  generalize (wc : World) = W3 at *
  go_upto_region 5 with (fail)
  go_cut [24] from 25 (fun s V => ∃ (t : Bool) (wt : List Bs), s = .bool t ∧ RdAt n0 b ⟨lt, nu, k, 0, 1, 0⟩ wt V ∧ Turn1 b w V ∧ Hid ((t = true ∧ ws2 = [44] :: beatW :: wt) ∨ (t = false ∧ wt = ws2 ∧ ∀ r, ws2 ≠ [44] :: beatW :: r)))
  case first =>
    go_wp2_with (fail)
    by_cases hy : ∃ r, ws2 = [44] :: beatW :: r
    · obtain ⟨r, rfl⟩ := hy
      refine (take_yes HRd.out).mono ?_
      rintro e w4 ⟨rfl, hr, hb⟩
      replace HRd := Lib.hid hr; replace HB := Lib.hid (HB.out.trans hb); clear hr hb
      go_wp2
      go_meet
      case rel => exact ⟨_, _, rfl, HRd.out, HB.out, Lib.hid (.inl ⟨rfl, rfl⟩)⟩
    · have hno : ∀ r, ws2 ≠ [44] :: beatW :: r := fun r e => hy ⟨r, e⟩
      refine (take_no HRd.out hno).mono ?_
      rintro e w4 ⟨rfl, rfl⟩
      have HN := Lib.hid hno
      clear hy hno
      go_wp2
      go_meet
      case rel => exact ⟨_, _, rfl, HRd.out, HB.out, Lib.hid (.inr ⟨rfl, rfl, HN.out⟩)⟩
  case rest =>
  obtain ⟨t, wt, rfl, hr, hb, hT⟩ := hcut
  replace HRd := Lib.hid hr; replace HB := Lib.hid hb; clear hr hb
  generalize (wc : World) = WT5 at *
  go_upto_if 24 with (fail)
  go_cut [2] from 3 (fun s2 V => s2 = .string (mkS p) ∧ ∃ (n d : Int) (ws3 : List Bs), Hid (beatP ws2 = some ((n, d), ws3)) ∧ RdAt n0 b ⟨lt, nu, k, n, d, 0⟩ ws3 V ∧ Turn1 b w V)
  case first =>
    rcases hT.out with ⟨rfl, hw⟩ | ⟨rfl, hw, hno⟩
    · have HW := Lib.hid hw
      clear hT hw
      generalize wt = r at *
      go_wp2_with (fail)
      cases r with
      | nil =>
        refine (next_none HRd.out).mono ?_
        rintro e w5 ⟨rfl, rfl⟩
        exact ⟨rfl, ReadPost.fail (read_no3 H1.out H2.out (by rw [HW.out]; exact beat_end)) HB.out⟩
      | cons z ws3 =>
      refine (next_some HRd.out).mono ?_
      have hzl := HRd.out.short z (by simp)
      rintro e w5 ⟨rfl, hr, hb⟩
      replace HRd := Lib.hid hr; replace HB := Lib.hid (HB.out.trans hb); clear hr hb
      have HP := Lib.hid (show beatP ws2 = (fracP z).map fun p => (p, ws3) by rw [HW.out]; exact beat_yes z ws3)
      have hl1 := (cutP_len z).1; have hl2 := (cutP_len z).2
      go_wp2_with (fail)
      refine (cut_any _ _ (show (mkS z).size ≤ 1000 from hzl) (HE.out.turn HB.out HRd.out.le).env).mono ?_
      rw [bs_mk]
      rintro e w6 ⟨rfl, hb⟩
      replace HB := Lib.hid (HB.out.trans (Turn1.of_below hb)); replace HRd := Lib.hid (HRd.out.below hb); clear hb
      go_wp2_with (fail)
      refine (number_any _ _ (by omega) (HE.out.turn HB.out HRd.out.le).env).mono ?_
      rintro e w7 ⟨he, hb⟩
      replace HB := Lib.hid (HB.out.trans (Turn1.of_below hb)); replace HRd := Lib.hid (HRd.out.below hb); clear hb
      cases hn : numP (cutP z).1 with
      | none =>
        rw [hn] at he
        subst he
        rw [frac_bad hn] at HP
        exact ⟨rfl, ReadPost.fail (read_no3 H1.out H2.out HP.out) HB.out⟩
      | some n =>
        rw [hn] at he
        subst he
        rw [frac_go hn] at HP
        clear hn
        (obtain ⟨q1, cp1, d1, d2, d3, d4, d5⟩ := HRd.out.at_; have hc := box_cells d1; have hf := box_free d1; clear d1 d2 d3 d4 d5)
        obtain ⟨hr, hb⟩ := HRd.out.setN n
        replace HRd := Lib.hid hr; replace HB := Lib.hid (HB.out.trans hb); clear hr hb
        cases hs : (cutP z).2.isSome with
        | true =>
          rw [hs, if_pos rfl] at HP
          clear hs
          generalize (cutP z).2.getD [] = dd at *
          go_wp2_with (fail)
          refine (number_any dd _ (by omega) (HE.out.turn HB.out HRd.out.le).env).mono ?_
          clear hc hf
          rintro e w8 ⟨he, hb⟩
          replace HB := Lib.hid (HB.out.trans (Turn1.of_below hb)); replace HRd := Lib.hid (HRd.out.below hb); clear hb
          cases hn : numP dd with
          | none =>
            rw [hn] at he HP
            subst he
            exact ⟨rfl, ReadPost.fail (read_no3 H1.out H2.out HP.out) HB.out⟩
          | some d =>
            rw [hn, Option.bind_some] at HP
            rw [hn] at he
            subst he
            clear hn
            (obtain ⟨q1, cp1, d1, d2, d3, d4, d5⟩ := HRd.out.at_; have hc := box_cells d1; have hf := box_free d1; clear d1 d2 d3 d4 d5)
            obtain ⟨hr, hb⟩ := HRd.out.setD d
            replace HRd := Lib.hid hr; replace HB := Lib.hid (HB.out.trans hb); clear hr hb
            by_cases hd : 1 < d
            · rw [if_pos hd] at HP
              have hdd : decide (1 < d) = true := decide_eq_true hd
              clear hd
              go_wp2_with (fail)
              (try rw [hdd])
              refine (must_true _).mono ?_
              rintro e w9 ⟨rfl, hw⟩
              rw [hw] at HRd HB
              clear hw hc hf
              (obtain ⟨q1, cp1, d1, d2, d3, d4, d5⟩ := HRd.out.at_; have hc := box_cells d1; have hf := box_free d1; clear d1 d2 d3 d4 d5)
              by_cases hn : 0 < n; (· rw [if_pos hn] at HP; have hnd : decide (0 < n) = true := decide_eq_true hn; clear hn; go_wp2_with (fail); (try rw [hnd]); refine (must_true _).mono ?_; rintro e w10 ⟨rfl, hw⟩; rw [hw] at HRd HB; clear hw hc hf; go_wp2; go_meet; case rel => exact ⟨rfl, _, _, _, HP, HRd.out, HB.out⟩); (· rw [if_neg hn] at HP; have hnd : decide (0 < n) = false := decide_eq_false hn; clear hn; go_wp2_with (fail); (try rw [hnd]); refine (must_false _).mono ?_; rintro e w10 ⟨rfl, hw⟩; rw [hw] at HB; exact ⟨rfl, ReadPost.fail (read_no3 H1.out H2.out HP.out) HB.out⟩)
            · rw [if_neg hd] at HP
              have hdd : decide (1 < d) = false := decide_eq_false hd
              clear hd
              go_wp2_with (fail)
              (try rw [hdd])
              refine (must_false _).mono ?_
              rintro e w9 ⟨rfl, hw⟩
              rw [hw] at HB
              exact ⟨rfl, ReadPost.fail (read_no3 H1.out H2.out HP.out) HB.out⟩
        | false =>
          rw [hs, if_neg (by decide)] at HP
          clear hs
          by_cases hn : 0 < n; (· rw [if_pos hn] at HP; have hnd : decide (0 < n) = true := decide_eq_true hn; clear hn; go_wp2_with (fail); (try rw [hnd]); refine (must_true _).mono ?_; rintro e w10 ⟨rfl, hw⟩; rw [hw] at HRd HB; clear hw hc hf; go_wp2; go_meet; case rel => exact ⟨rfl, _, _, _, HP, HRd.out, HB.out⟩); (· rw [if_neg hn] at HP; have hnd : decide (0 < n) = false := decide_eq_false hn; clear hn; go_wp2_with (fail); (try rw [hnd]); refine (must_false _).mono ?_; rintro e w10 ⟨rfl, hw⟩; rw [hw] at HB; exact ⟨rfl, ReadPost.fail (read_no3 H1.out H2.out HP.out) HB.out⟩)
    · have HP := Lib.hid (beat_no hno)
      rw [hw] at HRd
      clear hT hw hno
      go_wp2
      go_meet
      case rel => exact ⟨rfl, _, _, _, HP, HRd.out, HB.out⟩
  case rest =>
  obtain ⟨rfl, n, d, ws3, H3, hr, hb⟩ := hcut
  replace HRd := Lib.hid hr; replace HB := Lib.hid hb; clear hr hb
  generalize (wc : World) = W4 at *
  go_upto_region 12 with (fail)
  go_cut [64] from 65 (fun s V => ∃ (t : Bool) (wt : List Bs), s = .bool t ∧ RdAt n0 b ⟨lt, nu, k, n, d, 0⟩ wt V ∧ Turn1 b w V ∧ Hid ((t = true ∧ ws3 = [44] :: timeW :: wt) ∨ (t = false ∧ wt = ws3 ∧ ∀ r, ws3 ≠ [44] :: timeW :: r)))
  case first =>
    go_wp2_with (fail)
    by_cases hy : ∃ r, ws3 = [44] :: timeW :: r
    · obtain ⟨r, rfl⟩ := hy
      refine (take_yes HRd.out).mono ?_
      rintro e w4 ⟨rfl, hr, hb⟩
      replace HRd := Lib.hid hr; replace HB := Lib.hid (HB.out.trans hb); clear hr hb
      go_wp2
      go_meet
      case rel => exact ⟨_, _, rfl, HRd.out, HB.out, Lib.hid (.inl ⟨rfl, rfl⟩)⟩
    · have hno : ∀ r, ws3 ≠ [44] :: timeW :: r := fun r e => hy ⟨r, e⟩
      refine (take_no HRd.out hno).mono ?_
      rintro e w4 ⟨rfl, rfl⟩
      have HN := Lib.hid hno
      clear hy hno
      go_wp2
      go_meet
      case rel => exact ⟨_, _, rfl, HRd.out, HB.out, Lib.hid (.inr ⟨rfl, rfl, HN.out⟩)⟩
  case rest =>
  obtain ⟨t, wt, rfl, hr, hb, hT⟩ := hcut
  replace HRd := Lib.hid hr; replace HB := Lib.hid hb; clear hr hb
  generalize (wc : World) = WT12 at *
  go_upto_if 64 with (fail)
  go_cut [2] from 3 (fun s2 V => s2 = .string (mkS p) ∧ ∃ (pa : Int) (ws4 : List Bs), Hid (passP ws3 = some (pa, ws4)) ∧ RdAt n0 b ⟨lt, nu, k, n, d, pa⟩ ws4 V ∧ Turn1 b w V)
  case first =>
    rcases hT.out with ⟨rfl, hw⟩ | ⟨rfl, hw, hno⟩
    · have HW := Lib.hid hw
      clear hT hw
      generalize wt = r at *
      go_wp2_with (fail)
      cases r with
      | nil =>
        refine (next_none HRd.out).mono ?_
        rintro e w5 ⟨rfl, rfl⟩
        exact ⟨rfl, ReadPost.fail (read_no4 H1.out H2.out H3.out (by rw [HW.out]; exact pass_end)) HB.out⟩
      | cons z ws4 =>
      refine (next_some HRd.out).mono ?_
      have hzl := HRd.out.short z (by simp)
      rintro e w5 ⟨rfl, hr, hb⟩
      replace HRd := Lib.hid hr; replace HB := Lib.hid (HB.out.trans hb); clear hr hb
      have HP := Lib.hid (show passP ws3 = (posP z).map fun p => (p, ws4) by rw [HW.out]; exact pass_yes z ws4)
      have HX := Lib.hid (show posP z = (numP z).bind fun k => if 0 < k then some k else none from rfl)
      go_wp2_with (fail)
      refine (number_any _ _ hzl (HE.out.turn HB.out HRd.out.le).env).mono ?_
      rintro e w7 ⟨he, hb⟩
      replace HB := Lib.hid (HB.out.trans (Turn1.of_below hb)); replace HRd := Lib.hid (HRd.out.below hb); clear hb
      cases hn : numP z with
      | none =>
        rw [hn] at he HX
        subst he
        rw [HX.out] at HP
        exact ⟨rfl, ReadPost.fail (read_no4 H1.out H2.out H3.out HP.out) HB.out⟩
      | some v =>
        rw [hn] at he HX
        subst he
        clear hn
        (obtain ⟨q1, cp1, d1, d2, d3, d4, d5⟩ := HRd.out.at_; have hc := box_cells d1; have hf := box_free d1; clear d1 d2 d3 d4 d5)
        obtain ⟨hr, hb⟩ := HRd.out.setPass v
        replace HRd := Lib.hid hr; replace HB := Lib.hid (HB.out.trans hb); clear hr hb
        by_cases hk : 0 < v
        · have hkd : decide (0 < v) = true := decide_eq_true hk
          rw [Option.bind_some, if_pos hk] at HX
          rw [HX.out] at HP
          clear hk
          go_wp2_with (go_at_call 45; (try rw [hkd]); refine (must_true _).mono ?_; rintro e w' ⟨rfl, hw⟩; rw [hw] at HRd HB; clear hw)
          go_meet
          case rel => exact ⟨rfl, _, _, HP, HRd.out, HB.out⟩
        · have hkd : decide (0 < v) = false := decide_eq_false hk
          rw [Option.bind_some, if_neg hk] at HX
          rw [HX.out] at HP
          clear hk
          go_wp2_with (go_at_call 45; (try rw [hkd]); refine (must_false _).mono ?_; rintro e w' ⟨rfl, rfl⟩)
          exact ⟨rfl, ReadPost.fail (read_no4 H1.out H2.out H3.out HP.out) HB.out⟩
    · have HP := Lib.hid (pass_no hno)
      rw [hw] at HRd
      clear hT hw hno
      go_wp2
      go_meet
      case rel => exact ⟨rfl, _, _, HP, HRd.out, HB.out⟩
  case rest =>
  obtain ⟨rfl, pa, ws4, H4, hr, hb⟩ := hcut
  replace HRd := Lib.hid hr; replace HB := Lib.hid hb; clear hr hb
  generalize (wc : World) = W5 at *
  have HF := Lib.hid (read_end H1.out H2.out H3.out H4.out)
  dsimp only at HF
  obtain ⟨q1, cp1, d1, d2, d3, d4, d5⟩ := HRd.out.at_
  have hfew := HRd.out.few
  by_cases h0 : ws4 = []
  · subst h0
    have hc := box_cells d1
    clear d1 d2 d3 d4 d5 hfew
    have HV := Lib.hid (fun W => cvalid_any ⟨lt, nu, k, n, d, pa⟩ W)
    cases hv : validC ⟨lt, nu, k, n, d, pa⟩
    · rw [hv] at HV
      rw [if_neg (fun h => by rw [hv] at h; cases h.2)] at HF
      clear hv
      go_wp2_with (first | (go_at_call 12; refine (HV.out _).mono ?_; rintro e w' ⟨rfl, hb⟩; replace HB := Lib.hid (HB.out.trans (Turn1.of_below hb)); replace HRd := Lib.hid (HRd.out.below hb); clear hb) | (go_at_call 45; refine (must_false _).mono ?_; rintro e w' ⟨rfl, rfl⟩))
      exact ⟨rfl, ReadPost.fail HF.out HB.out⟩
    · rw [hv] at HV
      rw [if_pos ⟨rfl, hv⟩] at HF
      clear hv
      go_wp2_with (first | (go_at_call 12; refine (HV.out _).mono ?_; rintro e w' ⟨rfl, hb⟩; replace HB := Lib.hid (HB.out.trans (Turn1.of_below hb)); replace HRd := Lib.hid (HRd.out.below hb); clear hb) | (go_at_call 45; refine (must_true _).mono ?_; rintro e w' ⟨rfl, rfl⟩))
      go_end0
      exact ReadPost.ok HF.out HRd.out HB.out
  · have hc := box_cells d1
    clear d1 d2 d3 d4 d5
    have hz : ((ws4.length : Int) == 0) = false := by
      have : ws4.length ≠ 0 := fun e => h0 (List.length_eq_zero_iff.1 e)
      rw [beq_eq_false_iff_ne]; omega
    rw [if_neg (fun h => h0 h.1)] at HF
    clear h0
    go_wp2_with (go_at_call 45; refine (must_false _).mono ?_; rintro e w' ⟨rfl, rfl⟩)
    exact ⟨rfl, ReadPost.fail HF.out HB.out⟩
end Go.Proofs.YtfppijjjaleiaaaDoor
