/- The reference's Short: rows without a matching, of which each one is needed; they are the rows that match.Short names. Walked; for at most 10^14 rows. -/
import Derived.Test.YtkpgphadgomifaaMatchMatched
import Derived.Test.YtkpgphadgomifaaMatchLaw3
namespace Go.Proofs.Ytkpgphadgomifaa
set_option linter.unusedSimpArgs false
set_option linter.unusedVariables false
open Go.RowKit Go.Sort Go.Shelf

abbrev MtR (c : List (List Int)) (R : Nat → Prop) : Prop := Mtd (may (cc c)) R (wideL c)
/-- Some rows have a matching, read from their own costs. -/
theorem picked_iff {c : List (List Int)} {l : List Int} (he : formE c = 0) (hl : ∀ r ∈ l, 0 ≤ r ∧ r < c.length) (hnd : l.Nodup) : MtR (pick c l) (fun i => i < (pick c l).length) ↔ MtR c fun i => (i : Int) ∈ l := by
  constructor
  · rintro ⟨f, hf⟩
    obtain ⟨f1, f2, f3, f4⟩ := formE_ok he
    have key : ∀ i : Nat, (i : Int) ∈ l → ∃ k, ∃ hk : k < l.length, l.idxOf (i : Int) = k ∧ l[k] = (i : Int) := fun i hi =>
      ⟨l.idxOf (i : Int), List.idxOf_lt_length_of_mem hi, rfl, List.getElem_idxOf (List.idxOf_lt_length_of_mem hi)⟩
    refine ⟨fun i => f (l.idxOf (i : Int)), fun i hi => ?_, fun i hi => ?_, fun i j hi hj e => ?_⟩
    · obtain ⟨k, hk, e1, e2⟩ := key i hi
      have hne : l ≠ [] := by rintro rfl; simp at hk
      rw [← wide_pick f3 hl hne]
      exact hf.lt _ (by rw [pick_len]; simp only [e1]; exact hk)
    · obtain ⟨k, hk, e1, e2⟩ := key i hi
      have := hf.can k (by rw [pick_len]; exact hk)
      rw [may_iff, cc_pick hk, e2] at this
      rw [may_iff]
      simp only [e1]
      exact this
    · obtain ⟨k, hk, e1, e2⟩ := key i hi
      obtain ⟨k', hk', e1', e2'⟩ := key j hj
      simp only [e1, e1'] at e
      have := hf.inj k k' (by rw [pick_len]; exact hk) (by rw [pick_len]; exact hk') e
      subst this
      omega
  · rintro ⟨f, hf⟩
    exact ⟨_, mt_pick he hl hnd hf⟩
/-- Rows without a matching, of which each one is needed. -/
structure RMin (c : List (List Int)) (l : List Int) : Prop where
  asc : l.Pairwise (· < ·)
  top : ∃ j, j < c.length ∧ MtR c (fun i => i < j) ∧ ∀ x ∈ l, 0 ≤ x ∧ x ≤ j
  no : ¬ MtR c fun i => (i : Int) ∈ l
  each : ∀ x : Nat, (x : Int) ∈ l → MtR c fun i => (i : Int) ∈ l ∧ i ≠ x
theorem asc_eq : ∀ {l l' : List Int}, l.Pairwise (· < ·) → l'.Pairwise (· < ·) → (∀ x, x ∈ l ↔ x ∈ l') → l = l'
  | [], [], _, _, _ => rfl
  | [], y :: l', _, _, h => absurd ((h y).2 (by simp)) (by simp)
  | x :: l, [], _, _, h => absurd ((h x).1 (by simp)) (by simp)
  | x :: l, y :: l', h1, h2, h => by
    rw [List.pairwise_cons] at h1 h2
    have hxy : x = y := by
      rcases List.mem_cons.1 ((h x).1 (by simp)) with e | e
      · exact e
      · have q := h2.1 x e
        rcases List.mem_cons.1 ((h y).2 (by simp)) with e' | e'
        · exact e'.symm
        · have := h1.1 y e'; omega
    subst hxy
    rw [asc_eq h1.2 h2.2 fun z => ?_]
    constructor
    · intro hz
      rcases List.mem_cons.1 ((h z).1 (by simp [hz])) with e | e
      · subst e; have := h1.1 z hz; omega
      · exact e
    · intro hz
      rcases List.mem_cons.1 ((h z).2 (by simp [hz])) with e | e
      · subst e; have := h2.1 z hz; omega
      · exact e
/-- They are the rows that were met. -/
theorem min_circ {c : List (List Int)} {l : List Int} {j : Nat} {ms : List Nat} (h : RMin c l) (C : Circ (canC c) (wideL c) c.length j ms) : l = isort (ms.map fun i : Nat => (i : Int)) := by
  have hnd : (ms.map fun i : Nat => (i : Int)).Nodup := List.Pairwise.map (R := fun a b => a ≠ b) (fun i : Nat => (i : Int)) (fun a b h e => h (by omega)) C.nodup
  obtain ⟨s1, s2⟩ := isort_nodup hnd
  refine asc_eq h.asc s1 fun x => ?_
  rw [s2.mem_iff, List.mem_map]
  obtain ⟨j', hj', hb, hx⟩ := h.top
  have hjj : j' = j := by
    rcases Nat.lt_trichotomy j' j with q | q | q
    · exact absurd (Mtd.sub (R' := fun i : Nat => (i : Int) ∈ l) C.before fun i hi => by have := hx _ hi; omega) h.no
    · exact q
    · exact absurd (Mtd.sub (R' := fun i : Nat => i ∈ ms) hb fun i hi => by have := C.le i hi; omega) C.no
  subst hjj
  have sub : ∀ m ∈ ms, (m : Int) ∈ l := fun m hm => Classical.byContradiction fun hn =>
    h.no (Mtd.sub (R' := fun i : Nat => (i : Int) ∈ l) (C.others m hm) fun i hi => ⟨by have := hx _ hi; omega, fun e => hn (e ▸ hi)⟩)
  constructor
  · intro hxl
    obtain ⟨n, rfl⟩ : ∃ n : Nat, x = n := ⟨x.toNat, by have := hx x hxl; omega⟩
    refine Classical.byContradiction fun hn => C.no (Mtd.sub (R' := fun i : Nat => i ∈ ms) (h.each n hxl) fun i hi => ⟨sub i hi, fun e => hn ⟨i, hi, by omega⟩⟩)
  · rintro ⟨m, hm, rfl⟩
    exact sub m hm
/-- What the reference's Short says. -/
def RShortSays (c : List (List Int)) (l : List Int) (short : Bool) (err : Int) : Prop :=
  err = formE c ∧ ((short = false ∧ l = [] ∧ (err = 0 → MtR c fun i => i < c.length)) ∨ (err = 0 ∧ short = true ∧ RMin c l))
theorem short_same {c : List (List Int)} {l l' : List Int} {s s' : Bool} {e e' : Int} (h : ShortSays c l s e) (h' : RShortSays c l' s' e') : l = l' ∧ s = s' ∧ e = e' := by
  obtain ⟨h1, h⟩ := h
  obtain ⟨h2, h'⟩ := h'
  have he : e = e' := by rw [h1, h2]
  subst he
  rcases h with ⟨a1, a2, a3⟩ | ⟨a1, a2, j, ms, C, rfl⟩
  · rcases h' with ⟨b1, b2, b3⟩ | ⟨b1, b2, b3⟩
    · exact ⟨by rw [a2, b2], by rw [a1, b1], rfl⟩
    · obtain ⟨j', hj', _, hx⟩ := b3.top
      exact absurd (Mtd.sub (R' := fun i : Nat => (i : Int) ∈ l') (a3 b1) fun i hi => by have := hx _ hi; omega) b3.no
  · rcases h' with ⟨b1, b2, b3⟩ | ⟨b1, b2, b3⟩
    · exact absurd (Mtd.sub (R' := fun i : Nat => i ∈ ms) (b3 a1) fun i hi => by have := C.le i hi; have := C.lt; omega) C.no
    · exact ⟨(min_circ b3 C).symm, by rw [a2, b2], rfl⟩
/-- Rows without a matching; the first i of them are needed. -/
structure RMid (c : List (List Int)) (l : List Int) (i : Nat) : Prop where
  asc : l.Pairwise (· < ·)
  top : ∃ j, j < c.length ∧ MtR c (fun i => i < j) ∧ ∀ x ∈ l, 0 ≤ x ∧ x ≤ j
  no : ¬ MtR c fun i => (i : Int) ∈ l
  each : ∀ k (hk : k < l.length), k < i → MtR c fun x => (x : Int) ∈ l ∧ (x : Int) ≠ l[k]
theorem RMid.in_ {c : List (List Int)} {l : List Int} {i : Nat} (h : RMid c l i) : ∀ r ∈ l, 0 ≤ r ∧ r < c.length := fun r hr => by
  obtain ⟨j, hj, _, hx⟩ := h.top
  have := hx r hr; omega
theorem asc_nodup {l : List Int} (h : l.Pairwise (· < ·)) : l.Nodup := h.imp fun {a b} h => by omega
theorem asc_len {c : List (List Int)} {l : List Int} (h : l.Pairwise (· < ·)) (hin : ∀ r ∈ l, 0 ≤ r ∧ r < c.length) : l.length ≤ c.length := by
  have := pigeon (l.map Int.toNat) (List.range c.length) id ((List.pairwise_map.2 (h.imp_of_mem fun {a b} ha hb hab e => by
    have := hin a ha; have := hin b hb; omega))) (fun _ _ _ _ e => e) fun x hx => by
    obtain ⟨r, hr, rfl⟩ := List.mem_map.1 hx
    have := hin r hr
    exact List.mem_range.2 (by show r.toNat < c.length; omega)
  simpa using this
theorem mem_erase {l : List Int} (hn : l.Nodup) {i : Nat} (hi : i < l.length) (x : Int) : x ∈ l.eraseIdx i ↔ x ∈ l ∧ x ≠ l[i] := by
  rw [List.mem_eraseIdx_iff_getElem]
  constructor
  · rintro ⟨m, hm, hme, rfl⟩
    exact ⟨List.getElem_mem _, fun e => hme ((List.getElem_inj hn).1 e)⟩
  · rintro ⟨h1, h2⟩
    obtain ⟨m, hm, rfl⟩ := List.mem_iff_getElem.1 h1
    exact ⟨m, hm, fun e => h2 (by subst e; rfl), rfl⟩
theorem RMid.keep {c : List (List Int)} {l : List Int} {i : Nat} (h : RMid c l i) (hi : i < l.length) (hm : MtR c fun x => (x : Int) ∈ l.eraseIdx i) : RMid c l (i + 1) :=
  ⟨h.asc, h.top, h.no, fun k hk hki => by
    by_cases e : k = i
    · subst e
      exact hm.sub fun x hx => (mem_erase (asc_nodup h.asc) hk _).2 hx
    · exact h.each k hk (by omega)⟩
theorem RMid.drop {c : List (List Int)} {l : List Int} {i : Nat} (h : RMid c l i) (hi : i < l.length) (hm : ¬ MtR c fun x => (x : Int) ∈ l.eraseIdx i) : RMid c (l.eraseIdx i) i := by
  have hsub : ∀ x, x ∈ l.eraseIdx i → x ∈ l := fun x hx => List.mem_of_mem_eraseIdx hx
  obtain ⟨j, hj, hb, hx⟩ := h.top
  refine ⟨h.asc.sublist (List.eraseIdx_sublist _ _), ⟨j, hj, hb, fun x q => hx x (hsub x q)⟩, hm, fun k hk hki => ?_⟩
  have hkl : k < l.length := by omega
  have e : (l.eraseIdx i)[k] = l[k] := List.getElem_eraseIdx_of_lt hk hki
  rw [e]
  exact (h.each k hkl hki).sub fun x hx => ⟨hsub _ hx.1, hx.2⟩
theorem RMid.fin {c : List (List Int)} {l : List Int} {i : Nat} (h : RMid c l i) (hi : l.length ≤ i) : RMin c l :=
  ⟨h.asc, h.top, h.no, fun x hx => by
    obtain ⟨k, hk, e⟩ := List.mem_iff_getElem.1 hx
    have := h.each k hk (by omega)
    rw [e] at this
    exact this.sub fun y hy => ⟨hy.1, fun q => hy.2 (by omega)⟩⟩
def upL (m : Nat) : List Int := (List.range m).map fun i : Nat => (i : Int)
theorem upL_len (m : Nat) : (upL m).length = m := by simp [upL]
theorem upL_succ (m : Nat) : upL (m + 1) = upL m ++ [(m : Int)] := by simp [upL, List.range_succ]
theorem upL_mem (m : Nat) (x : Int) : x ∈ upL m ↔ 0 ≤ x ∧ x < m := by
  simp only [upL, List.mem_map, List.mem_range]
  constructor
  · rintro ⟨k, hk, rfl⟩; omega
  · intro h; exact ⟨x.toNat, by omega, by omega⟩
theorem upL_asc (m : Nat) : (upL m).Pairwise (· < ·) := by
  unfold upL
  rw [List.pairwise_map]
  exact List.pairwise_lt_range.imp fun {a b} h => by omega
theorem upL_mt {c : List (List Int)} (m : Nat) : (MtR c fun i => (i : Int) ∈ upL m) ↔ MtR c fun i => i < m :=
  ⟨fun h => h.sub fun i hi => (upL_mem m _).2 (by omega), fun h => h.sub fun i hi => by have := (upL_mem m _).1 hi; omega⟩
def RShortPost (c : List (List Int)) (w : World) (e : Ending) (w' : World) : Prop :=
  ∃ (l : List Int) (short : Bool) (err : Int) (a : Option Addr) (cap : Nat), e = .returned (.tuple #[.slice a l.length cap, .bool short, .int .i64 err]) ∧ RShortSays c l short err ∧ SlOk a l.length cap ∧ InAt w' a l ∧ Below w.heap.size w w'
/-- Whether some rows have a matching, as the reference asks it. -/
theorem asked {c : List (List Int)} {l : List Int} (he : formE c = 0) (hl : ∀ r ∈ l, 0 ≤ r ∧ r < c.length) (hasc : l.Pairwise (· < ·)) (a : Option Addr) (cap : Nat) (w : World) (hm : MatAt w a (pick c l)) :
    Calls Try.prog 34 #[.slice a (pick c l).length cap] w fun e w' => ∃ ok : Bool, e = .returned (.bool ok) ∧ (ok = true ↔ MtR c fun i => (i : Int) ∈ l) ∧ Below w.heap.size w w' := by
  obtain ⟨f1, f2, f3, f4⟩ := formE_ok (form_pick he hl (Nat.le_trans (asc_len hasc hl) (formE_ok he).1))
  refine (RMatched_any a cap (pick c l) w ⟨f1, f2⟩ f3 hm).mono ?_
  rintro e w' ⟨ok, rfl, h, hb⟩
  exact ⟨ok, rfl, h.trans (picked_iff he hl (asc_nodup hasc)), hb⟩
set_option maxRecDepth 100000 in
set_option maxHeartbeats 8000000 in
theorem RShort_any (a : Option Addr) (cap : Nat) (c : List (List Int)) (w : World) (hl : c.length ≤ 100000000000000) (hm : MatAt w a c) :
    Calls Try.prog 17 #[.slice a c.length cap] w (RShortPost c w) := by
  have HM := Lib.hid hm; clear hm
  go_enter Try.func17, Try.ntmps17
  go_wp2_with (fail)
  refine (RForm_any a cap c w hl HM.out).mono ?_
  rintro e w1 ⟨rfl, hb1⟩
  have HB := Lib.hid hb1
  clear hb1
  by_cases he : formE c = 0
  · have HE := Lib.hid he
    rw [he]
    clear he
    obtain ⟨h200, hw200, hf, hf4⟩ := formE_ok HE.out
    go_wp2_with (fail)
    refine (RMatched_any a cap c _ ⟨h200, hw200⟩ hf (HM.out.below HB.out)).mono ?_
    rintro e w2 ⟨ok, rfl, hok, hb2⟩
    replace HB := Lib.hid (HB.out.trans (hb2.mono HB.out.size))
    have HOK := Lib.hid hok
    clear hb2 hok hf hf4
    cases ok
    · have HNO := Lib.hid (show ¬ MtR c (fun i => i < c.length) from fun h => by have := HOK.out.2 h; cases this)
      clear HOK
      go_wp2
      go_loopg [7, 8] (2 * c.length + 1) (fun g s7 s8 wr => ∃ (m : Nat) (more : Bool), m ≤ c.length ∧ s8 = .bool more ∧ OwnR wr w.heap.size 3 1 s7 ((upL m).map inRow) ∧ g = 2 * (c.length - m) + (if more then 1 else 0) ∧ (more = true → MtR c fun i => i < m) ∧ (more = false → ∃ j, m = j + 1 ∧ (MtR c fun i => i < j) ∧ ¬ MtR c fun i => i < m) ∧ Below w.heap.size w wr)
      case atStart => exact ⟨0, true, Nat.zero_le _, rfl, OwnR.nil _ _ _ _, rfl, fun _ => ⟨fun _ => 0, fun i hi => by omega, fun i hi => by omega, fun i j hi => by omega⟩, (fun h => by cases h), HB.out⟩
      case round =>
        clear HB
        obtain ⟨m, more, hmc, rfl, ho, hg, hyes, hno, hb⟩ := hrel
        have HO := Lib.hid ho; have HG := Lib.hid hg; have HY := Lib.hid hyes; have HN := Lib.hid hno; have HB := Lib.hid hb
        clear ho hg hyes hno hb
        cases more
        · obtain ⟨j, hmj, hbj, hnj⟩ := HN.out rfl
          obtain ⟨a7, c7, e7, s7, i7⟩ := HO.out.slAt
          rw [List.length_map, upL_len] at e7 s7
          subst e7
          have HST := Lib.hid (show RMid c (upL m) 0 from ⟨upL_asc m, ⟨j, by omega, hbj, fun x hx => by have := (upL_mem m x).1 hx; omega⟩, fun h => hnj ((upL_mt m).1 h), fun k _ hk => by omega⟩)
          have HS7 := Lib.hid s7; have HI7 := Lib.hid i7
          clear hmj hbj hnj s7 i7 HO HG HY HN
          go_wp2
          go_loopg [7, 9] m (fun g s7 s9 wr => ∃ (a7 : Option Addr) (l : List Int) (c7 i : Nat), s7 = .slice a7 l.length c7 ∧ s9 = .int .i64 i ∧ i ≤ l.length ∧ l.length ≤ 200 ∧ SlOk a7 l.length c7 ∧ InAt wr a7 l ∧ RMid c l i ∧ g = l.length - i ∧ Below w.heap.size w wr)
          case atStart => exact ⟨a7, upL m, c7, 0, by rw [upL_len], rfl, Nat.zero_le _, by rw [upL_len]; omega, by rw [upL_len]; exact HS7.out, HI7.out, HST.out, by rw [upL_len]; rfl, HB.out⟩
          case round =>
            clear HB HS7 HI7 HST
            obtain ⟨a7, l, c7, i, rfl, rfl, hil, hl200, hs7, hi7, hmid, hg, hb⟩ := hrel
            have HS := Lib.hid hs7; have HI := Lib.hid hi7; have HMI := Lib.hid hmid; have HG := Lib.hid hg; have HB := Lib.hid hb
            clear hs7 hi7 hmid hg hb
            by_cases hlt : i < l.length
            · have HER := Lib.hid (fun r (hr : r ∈ l.eraseIdx i) => HMI.out.in_ r (List.mem_of_mem_eraseIdx hr))
              have HEA := Lib.hid (HMI.out.asc.sublist (List.eraseIdx_sublist l i))
              have HEL := Lib.hid (List.length_eraseIdx_of_lt hlt)
              have hwo := RWithout_any a7 c7 l i wr hl200 hlt HS.out HI.out
              unfold RetSl at hwo
              rw [List.length_map] at hwo
              generalize hLX : l.eraseIdx i = lx at *
              have HLX := Lib.hid hLX; clear hLX
              have hlx : lx.length ≤ 200 := by have := HEL.out; omega
              go_wp2_with (fail)
              refine hwo.mono ?_
              rintro e w3 ⟨ar, cr, rfl, sr, ir, hbr⟩
              have HSR := Lib.hid sr; have HIR := Lib.hid ir
              replace HB := Lib.hid (HB.out.trans (hbr.mono HB.out.size))
              replace HI := Lib.hid (HI.out.below hbr)
              clear sr ir hbr hwo
              go_wp2_with (fail)
              have hso := RSome_any a ar cap cr c lx w3 (by omega) hlx (HM.out.below HB.out) HIR.out HER.out
              refine hso.mono ?_
              rintro e w4 ⟨a9, c9, rfl, _, hm9, hb9⟩
              have HM9 := Lib.hid hm9
              replace HB := Lib.hid (HB.out.trans (hb9.mono HB.out.size))
              replace HI := Lib.hid (HI.out.below hb9); replace HIR := Lib.hid (HIR.out.below hb9)
              clear hso hm9 hb9
              go_wp2_with (fail)
              refine (asked HE.out HER.out HEA.out a9 c9 w4 HM9.out).mono ?_
              rintro e w5 ⟨ok2, rfl, hok2, hb10⟩
              have HOK := Lib.hid hok2
              replace HB := Lib.hid (HB.out.trans (hb10.mono HB.out.size))
              replace HI := Lib.hid (HI.out.below hb10); replace HIR := Lib.hid (HIR.out.below hb10)
              clear hok2 hb10 HM9
              cases ok2
              · have HDR := Lib.hid (HMI.out.drop hlt (fun q => by rw [HLX.out] at q; have := HOK.out.2 q; cases this))
                rw [HLX.out] at HDR
                go_wp2
                go_roundg (lx.length - i)
                case measure => have := HG.out; have := HEL.out; omega
                case rel => exact ⟨ar, lx, cr, i, rfl, rfl, by have := HEL.out; omega, hlx, HSR.out, HIR.out, HDR.out, rfl, HB.out⟩
              · have HKP := Lib.hid (HMI.out.keep hlt (by rw [HLX.out]; exact HOK.out.1 rfl))
                go_wp2
                go_roundg (l.length - (i + 1))
                case measure => have := HG.out; omega
                case rel => exact ⟨a7, l, c7, i + 1, rfl, by go_num, by omega, hl200, HS.out, HI.out, HKP.out, rfl, HB.out⟩
            · go_wp2
              go_ret3
              exact ⟨l, true, 0, a7, c7, rfl, ⟨HE.out.symm, .inr ⟨rfl, rfl, HMI.out.fin (by omega)⟩⟩, HS.out, HI.out, HB.out⟩
        · have hmlt : m < c.length := by
            rcases Nat.lt_or_ge m c.length with q | q
            · exact q
            · exact absurd ((HY.out rfl).sub fun i hi => by omega) HNO.out
          obtain ⟨a7, c7, e7, s7, i7⟩ := HO.out.slAt
          rw [List.length_map, upL_len] at e7
          subst e7
          clear s7 i7
          go_wp2_with (at_builtin; refine appE eltInt rfl (.tmp 21) (.tmp 24) rfl w.heap.size _ (upL m) rfl (HO.out.below ((Below.refl _ _).alloc (Nat.le_refl _) _)) _ _ _ [(m : Int)] rfl rfl (fun e => by cases e) (eltInt.new _ _ _ _ rfl) (by rw [upL_len]; simp; omega) (by have := HB.out.size; simp; omega) ?_; intro v1 w3 ho1 hg1; have HB1 := Lib.hid (below_grown (HB.out.alloc HB.out.size _) (HO.out.below ((Below.refl _ _).alloc (Nat.le_refl _) _)) (by have := HB.out.size; simp; omega) hg1); rw [← upL_succ] at ho1; obtain ⟨a8, c8, e8, s8, i8⟩ := ho1.slAt; rw [List.length_map, upL_len] at e8; subst e8; have HO1 := Lib.hid ho1; have HI8 := Lib.hid i8; clear ho1 hg1 s8 i8)
          have hin : ∀ r ∈ upL (m + 1), 0 ≤ r ∧ r < c.length := fun r hr => by have := (upL_mem _ r).1 hr; omega
          have HIN := Lib.hid hin
          have hso := RSome_any a a8 cap c8 c (upL (m + 1)) w3 (by omega) (by rw [upL_len]; omega) (HM.out.below HB1.out) HI8.out hin
          rw [upL_len] at hso
          clear hin
          refine hso.mono ?_
          rintro e w4 ⟨a9, c9, rfl, _, hm9, hb9⟩
          have HM9 := Lib.hid hm9
          replace HB1 := Lib.hid (HB1.out.trans (hb9.mono HB1.out.size))
          replace HO1 := Lib.hid (HO1.out.below hb9)
          clear hso hm9 hb9
          go_wp2_with (fail)
          refine (asked HE.out HIN.out (upL_asc _) a9 c9 w4 HM9.out).mono ?_
          rintro e w5 ⟨ok2, rfl, hok2, hb10⟩
          have HOK := Lib.hid hok2
          replace HB1 := Lib.hid (HB1.out.trans (hb10.mono HB1.out.size))
          replace HO1 := Lib.hid (HO1.out.below hb10)
          clear hok2 hb10 HM9
          go_wp2
          go_roundg (2 * (c.length - (m + 1)) + (if ok2 then 1 else 0))
          case measure => have := HG.out; simp at this; split <;> omega
          case rel => exact ⟨m + 1, ok2, by omega, rfl, HO1.out, rfl, fun h => (upL_mt _).1 (HOK.out.1 h), fun h => ⟨m, rfl, HY.out trivial, fun q => by have := HOK.out.2 ((upL_mt _).2 q); rw [h] at this; cases this⟩, HB1.out⟩
    · go_wp2
      go_ret3
      exact ⟨[], false, 0, none, 0, rfl, ⟨HE.out.symm, .inl ⟨rfl, rfl, fun _ => HOK.out.1 trivial⟩⟩, SlOk.nil, SlAt.nil _ _ _, HB.out⟩
  · go_wp2
    go_ret3
    exact ⟨[], false, formE c, none, 0, rfl, ⟨rfl, .inl ⟨rfl, rfl, fun h => absurd h he⟩⟩, SlOk.nil, SlAt.nil _ _ _, HB.out⟩
end Go.Proofs.Ytkpgphadgomifaa
