/- Texts of this seat, laid together: MatchShort, MatchLay, MatchShort2, MatchShort3. -/
import Derived.Test.YtehdhbnbajfanaaGreatGA
import Derived.Shelf.SortM.Plain
import Derived.Sort.OwnSortedInts

/- Contracts of match.formed, match.wide, match.nobody, match.finder, match.Short. -/
namespace Go.Proofs.YtehdhbnbajfanaaGreat
set_option linter.unusedSimpArgs false
set_option linter.unusedVariables false
open Go.RowKit Go.Sort

theorem wide_any (a : Option Addr) (cap : Nat) (c : List (List Int)) (w : World) (hl : c.length ≤ 100000000000000) (hm : MatAt w a c) :
    Calls Tryz.prog 67 #[.slice a c.length cap] w fun e w' => e = .returned (.int .i64 (wideL c : Nat)) ∧ w = w' := by
  have HM := Lib.hid hm; clear hm
  cases c with
  | nil =>
    go_enter Tryz.func67, Tryz.ntmps67
    go_wp2
    go_ret
    exact ⟨rfl, rfl⟩
  | cons l c =>
    obtain ⟨b, off, ai, ci, rfl, c0, _, _⟩ := HM.out.get 0 (by simp)
    have hc0 : w.cell? ⟨b, off, none⟩ = some (.slice ai l.length ci) := by simpa using c0
    have hne : ((c.length + 1 : Nat) : Int) ≠ 0 := by omega
    have hne2 : (((c.length : Int) + 1) == 0) = false := by simp; omega
    clear c0
    go_enter Tryz.func67, Tryz.ntmps67
    go_wp2
    go_ret
    exact ⟨rfl, rfl⟩
theorem form_bad {c : List (List Int)} {i : Nat} (hi : i < c.length) (h1 : c.length ≤ 200) (h2 : (c.any fun l => decide (200 < l.length)) = false) (h3 : rowOk (wideL c) c[i] = false) : formE c = 1 := by
  unfold formE
  rw [if_pos, if_neg]
  · intro h
    have := List.all_eq_true.1 h c[i] (List.getElem_mem _)
    rw [h3] at this; cases this
  · simp only [Bool.and_eq_true, decide_eq_true_eq, List.all_eq_true]
    refine ⟨h1, fun l hl => ?_⟩
    have := List.any_eq_false.1 h2 l hl
    simpa using this
theorem form_ok {c : List (List Int)} (h1 : c.length ≤ 200) (h2 : (c.any fun l => decide (200 < l.length)) = false) (h3 : ∀ i (hi : i < c.length), rowOk (wideL c) c[i] = true) : formE c = 0 := by
  unfold formE
  rw [if_pos, if_pos]
  · rw [List.all_eq_true]
    intro l hl
    obtain ⟨i, hi, rfl⟩ := List.mem_iff_getElem.1 hl
    exact h3 i hi
  · simp only [Bool.and_eq_true, decide_eq_true_eq, List.all_eq_true]
    refine ⟨h1, fun l hl => ?_⟩
    have := List.any_eq_false.1 h2 l hl
    simpa using this
theorem form_long {c : List (List Int)} (h : ¬ c.length ≤ 200 ∨ (c.any fun l => decide (200 < l.length)) = true) : formE c = 2 := by
  unfold formE
  rw [if_neg]
  simp only [Bool.and_eq_true, decide_eq_true_eq, List.all_eq_true]
  rintro ⟨h1, h2⟩
  rcases h with h | h
  · exact h h1
  · obtain ⟨l, hl, hd⟩ := List.any_eq_true.1 h
    have := h2 l hl
    simp at hd; omega
set_option maxHeartbeats 2000000 in
theorem formed_any (a : Option Addr) (cap : Nat) (c : List (List Int)) (w : World) (hl : c.length ≤ 100000000000000) (hm : MatAt w a c) (hs : SlOk a c.length cap) :
    Calls Tryz.prog 88 #[.slice a c.length cap] w fun e w' => e = .returned (.int .i64 (formE c)) ∧ w = w' := by
  have HS := Lib.hid hs; have HM := Lib.hid hm; clear hs hm
  by_cases h1 : c.length ≤ 200
  case neg =>
    have HE := Lib.hid (form_long (.inl h1))
    have h1' : 200 < c.length := by omega
    go_enter Tryz.func88, Tryz.ntmps88
    go_wp2
    go_ret
    exact ⟨by rw [HE.out]; rfl, rfl⟩
  cases hA : c.any fun l => decide (200 < l.length)
  case true =>
    have HE := Lib.hid (form_long (.inr hA))
    have HAA := Lib.hid hA; clear hA
    go_enter Tryz.func88, Tryz.ntmps88
    go_wp2_with (fail)
    refine (hasRows_any a cap c w hl HM.out HS.out).mono ?_; rw [HAA.out]; rintro e w' ⟨rfl, rfl⟩
    go_wp2
    go_ret
    exact ⟨by rw [HE.out]; rfl, rfl⟩
  have HAA := Lib.hid hA; clear hA
  go_enter Tryz.func88, Tryz.ntmps88
  go_wp2_with (fail)
  refine (hasRows_any a cap c w hl HM.out HS.out).mono ?_; rw [HAA.out]; rintro e w' ⟨rfl, rfl⟩
  go_wp2
  go_loop [16] (fun i => ∃ k : Nat, k ≤ c.length ∧ i = .int .i64 k ∧ ∀ j (hj : j < c.length), j < k → rowOk (wideL c) c[j] = true) (fun i => c.length - (intOf i).toNat)
  case atStart => exact ⟨0, Nat.zero_le _, rfl, fun j hj hk => by omega⟩
  case round =>
    obtain ⟨k, hk, rfl, hall⟩ := hrel
    have HAl := Lib.hid hall; clear hall
    by_cases hlt : k < c.length
    · obtain ⟨b, off, ai, ci, rfl, c0, hsk, hik⟩ := HM.out.get k hlt
      obtain ⟨b', off', a0, ci0, e, d0, _, _⟩ := HM.out.get 0 (by omega)
      cases e
      have hwl : (c[0]'(by omega)).length = wideL c := by
        cases c with
        | nil => simp at hlt
        | cons l c => rfl
      rw [Nat.add_zero, hwl] at d0
      clear hwl
      have HSK := Lib.hid hsk; have HIK := Lib.hid hik; clear hsk hik
      have hrl : (c[k]).length ≤ 100000000000000 := by
        have := List.any_eq_false.1 HAA.out c[k] (List.getElem_mem _)
        simp at this; omega
      have hpos : 0 < c.length := by omega
      generalize hL : c[k] = L at *
      have HLL := Lib.hid hL; clear hL
      by_cases he : L.length = wideL c
      · have hb : ((L.length : Int) != (wideL c : Int)) = false := by simp; omega
        have HE := Lib.hid he; clear he
        cases hX : L.any fun n => !costOk n
        · have HX := Lib.hid hX; clear hX
          go_wp2_with (fail)
          refine (hasInts_any ai ci L _ hrl HIK.out HSK.out).mono ?_; rw [HX.out]; rintro e w' ⟨rfl, rfl⟩
          go_wp2
          go_round
          case rel => exact ⟨k + 1, by omega, by go_num, fun j hj hjk => by
            by_cases e : j = k
            · subst e
              rw [HLL.out]
              simp only [rowOk, Bool.and_eq_true, decide_eq_true_eq, List.all_eq_true]
              refine ⟨HE.out, fun n hn => ?_⟩
              have := List.any_eq_false.1 HX.out n hn
              simpa using this
            · exact HAl.out j hj (by omega)⟩
          case measure => simp [intOf]; omega
        · have HX := Lib.hid hX; clear hX
          have HE1 := Lib.hid (form_bad (c := c) (i := k) hlt h1 HAA.out (by
            rw [HLL.out]
            obtain ⟨n, hn, hc⟩ := List.any_eq_true.1 HX.out
            rw [Bool.eq_false_iff]
            intro hr
            simp only [rowOk, Bool.and_eq_true, decide_eq_true_eq, List.all_eq_true] at hr
            rw [hr.2 n hn] at hc; cases hc))
          go_wp2_with (fail)
          refine (hasInts_any ai ci L _ hrl HIK.out HSK.out).mono ?_; rw [HX.out]; rintro e w' ⟨rfl, rfl⟩
          go_wp2
          go_ret
          exact ⟨by rw [HE1.out]; rfl, rfl⟩
      · have hb : ((L.length : Int) != (wideL c : Int)) = true := by simp; omega
        have HE1 := Lib.hid (form_bad (c := c) (i := k) hlt h1 HAA.out (by
          rw [HLL.out]
          rw [Bool.eq_false_iff]
          intro hr
          simp only [rowOk, Bool.and_eq_true, decide_eq_true_eq] at hr
          exact he hr.1))
        clear he
        go_wp2
        go_ret
        exact ⟨by rw [HE1.out]; rfl, rfl⟩
    · have HE := Lib.hid (form_ok h1 HAA.out fun i hi => HAl.out i hi (by omega))
      go_wp2
      go_ret
      exact ⟨by rw [HE.out]; rfl, rfl⟩
/-- A new list of nobodies. -/
def NobPost (n : Nat) (w : World) (e : Ending) (w' : World) : Prop := ∃ b, e = .returned (.slice (some ⟨b, 0, none⟩) n n) ∧ w.heap.size ≤ b ∧ RowAt w' b n 3 (fun _ => .int .i64 (-1)) ∧ Below w.heap.size w w'
set_option maxHeartbeats 1000000 in
theorem nobody_any (n : Nat) (w : World) (hn : n ≤ 100000) : Calls Tryz.prog 83 #[.int .i64 n] w (NobPost n w) := by
  have hmk := fun w => run_make_row' (P := Tryz.prog) 24 3 (.int .i64 0) 8 Tryz.underlying24 (by kernel_rfl) rfl .i64 .i64 n (by omega) (by omega) w
  go_enter Tryz.func83, Tryz.ntmps83
  go_wp2
  have r0 := RowAt.made w n 3 (.int .i64 0)
  have hb := (Below.refl w.heap.size w).alloc (Nat.le_refl _) (.cells (madeCells #[.int .i64 0] n) 3)
  generalize w.alloc (.cells (madeCells #[.int .i64 0] n) 3) = W at *
  have HR := Lib.hid r0; have HB := Lib.hid hb
  clear r0 hb hmk
  go_loopw [9] (fun i wr => ∃ k : Nat, k ≤ n ∧ i = .int .i64 k ∧ RowAt wr w.heap.size n 3 (fun j => .int .i64 (if j < k then -1 else 0)) ∧ Below w.heap.size w wr) (fun i _ => n - (intOf i).toNat)
  case atStart => exact ⟨0, Nat.zero_le _, rfl, HR.out.congr fun k hk => by simp, HB.out⟩
  case round =>
    obtain ⟨k, hk, rfl, r1, b1⟩ := hrel
    have HR1 := Lib.hid r1; have HB1 := Lib.hid b1; clear r1 b1
    by_cases hlt : k < n
    · have hc := HR1.out.cell hlt
      have hf := HR1.out.free k
      go_wp2
      go_roundw
      case rel => exact ⟨k + 1, by omega, by go_num, (HR1.out.set hlt (.int .i64 (-1))).congr fun j hj => by
          by_cases e : j = k
          · subst e; simp [upd_same]
          · rw [upd_ne _ _ e]
            have e2 : (j < k) = (j < k + 1) := by rw [eq_iff_iff]; omega
            simp only [e2], HB1.out.setCell (by simp) _⟩
      case measure => simp [intOf]; omega
    · go_wp2
      go_ret
      exact ⟨_, rfl, Nat.le_refl _, HR1.out.congr fun j hj => by rw [if_pos (by omega)], HB1.out⟩
end Go.Proofs.YtehdhbnbajfanaaGreat

/- Library contracts laid at this program (written by the shelf's plain mode). -/
namespace Go.Proofs.YtehdhbnbajfanaaGreat
set_option linter.unusedSimpArgs false
set_option linter.unusedVariables false
open Go.Shelf
def Lay.sortA_ren : Go.Shelf.Ren := ⟨fun | 5 => 90 | 8 => 86 | 7 => 106 | 19 => 101 | 20 => 102 | 10 => 113 | 11 => 114 | 12 => 115 | 13 => 116 | 14 => 117 | 15 => 118 | 16 => 119 | 17 => 120 | 18 => 121 | 30 => 123 | 31 => 108 | 32 => 109 | 33 => 124 | 34 => 125 | 35 => 126 | 40 => 127 | n => n, fun | 23 => 24 | 25 => 3 | 3 => 3 | 32 => 118 | 22 => 24 | 0 => 0 | 44 => 128 | 46 => 130 | 4 => 4 | 36 => 121 | 35 => 120 | 41 => 125 | 5 => 5 | 9 => 9 | 53 => 134 | 57 => 138 | 63 => 146 | 64 => 147 | n => n, fun | n => n⟩
theorem Lay.sortA : Go.Proofs.SlLaysM.n5 Tryz.prog Lay.sortA_ren := {
  mixed := by kernel_rfl
  f5 := ⟨Tryz.f90.name, by decide, Tryz.func90.trans (congrArg some (by kernel_rfl))⟩
  f7 := ⟨Tryz.f106.name, by decide, Tryz.func106.trans (congrArg some (by kernel_rfl))⟩
  f8 := Tryz.func86.trans (congrArg some (by kernel_rfl))
  f10 := ⟨Tryz.f113.name, by decide, Tryz.func113.trans (congrArg some (by kernel_rfl))⟩
  f11 := ⟨Tryz.f114.name, by decide, Tryz.func114.trans (congrArg some (by kernel_rfl))⟩
  f12 := ⟨Tryz.f115.name, by decide, Tryz.func115.trans (congrArg some (by kernel_rfl))⟩
  f13 := ⟨Tryz.f116.name, by decide, Tryz.func116.trans (congrArg some (by kernel_rfl))⟩
  f14 := ⟨Tryz.f117.name, by decide, Tryz.func117.trans (congrArg some (by kernel_rfl))⟩
  f15 := ⟨Tryz.f118.name, by decide, Tryz.func118.trans (congrArg some (by kernel_rfl))⟩
  f16 := ⟨Tryz.f119.name, by decide, Tryz.func119.trans (congrArg some (by kernel_rfl))⟩
  f17 := ⟨Tryz.f120.name, by decide, Tryz.func120.trans (congrArg some (by kernel_rfl))⟩
  f18 := ⟨Tryz.f121.name, by decide, Tryz.func121.trans (congrArg some (by kernel_rfl))⟩
  f19 := Tryz.func101.trans (congrArg some (by kernel_rfl))
  f20 := Tryz.func102.trans (congrArg some (by kernel_rfl))
  f30 := ⟨Tryz.f123.name, by decide, Tryz.func123.trans (congrArg some (by kernel_rfl))⟩
  f31 := Tryz.func108.trans (congrArg some (by kernel_rfl))
  f32 := Tryz.func109.trans (congrArg some (by kernel_rfl))
  f33 := ⟨Tryz.f124.name, by decide, Tryz.func124.trans (congrArg some (by kernel_rfl))⟩
  f34 := ⟨Tryz.f125.name, by decide, Tryz.func125.trans (congrArg some (by kernel_rfl))⟩
  f35 := ⟨Tryz.f126.name, by decide, Tryz.func126.trans (congrArg some (by kernel_rfl))⟩
  f40 := ⟨Tryz.f127.name, by decide, Tryz.func127.trans (congrArg some (by kernel_rfl))⟩
  t0 := Tryz.underlying0
  a0 := Tryz.isAgg0
  z0 := Tryz.sizeOf0
  v0 := Tryz.zeroValue0
  t3 := Tryz.underlying3
  a3 := Tryz.isAgg3
  z3 := Tryz.sizeOf3
  v3 := Tryz.zeroValue3
  t4 := Tryz.underlying4
  a4 := Tryz.isAgg4
  z4 := Tryz.sizeOf4
  v4 := Tryz.zeroValue4
  t5 := Tryz.underlying5
  a5 := Tryz.isAgg5
  z5 := Tryz.sizeOf5
  v5 := Tryz.zeroValue5
  t9 := Tryz.underlying9
  a9 := Tryz.isAgg9
  z9 := Tryz.sizeOf9
  v9 := Tryz.zeroValue9
  t22 := Tryz.underlying24
  a22 := Tryz.isAgg24
  z22 := Tryz.sizeOf24
  v22 := Tryz.zeroValue24
  t23 := Tryz.underlying24
  a23 := Tryz.isAgg24
  z23 := Tryz.sizeOf24
  v23 := Tryz.zeroValue24
  t25 := Tryz.underlying3
  a25 := Tryz.isAgg3
  z25 := Tryz.sizeOf3
  v25 := Tryz.zeroValue3
  t32 := Tryz.underlying118
  a32 := Tryz.isAgg118
  z32 := Tryz.sizeOf118
  v32 := Tryz.zeroValue118
  t35 := Tryz.underlying120
  a35 := Tryz.isAgg120
  z35 := Tryz.sizeOf120
  v35 := Tryz.zeroValue120
  t36 := Tryz.underlying121
  a36 := Tryz.isAgg121
  z36 := Tryz.sizeOf121
  v36 := Tryz.zeroValue121
  t41 := Tryz.underlying125
  a41 := Tryz.isAgg125
  z41 := Tryz.sizeOf125
  v41 := Tryz.zeroValue125
  t44 := Tryz.underlying128
  a44 := Tryz.isAgg128
  z44 := Tryz.sizeOf128
  v44 := Tryz.zeroValue128
  t46 := Tryz.underlying130
  a46 := Tryz.isAgg130
  z46 := Tryz.sizeOf130
  v46 := Tryz.zeroValue130
  t53 := Tryz.underlying134
  a53 := Tryz.isAgg134
  z53 := Tryz.sizeOf134
  v53 := Tryz.zeroValue134
  t57 := Tryz.underlying138
  a57 := Tryz.isAgg138
  z57 := Tryz.sizeOf138
  v57 := Tryz.zeroValue138
  t63 := Tryz.underlying146
  a63 := Tryz.isAgg146
  z63 := Tryz.sizeOf146
  v63 := Tryz.zeroValue146
  t64 := Tryz.underlying147
  a64 := Tryz.isAgg147
  z64 := Tryz.sizeOf147
  v64 := Tryz.zeroValue147 }
end Go.Proofs.YtehdhbnbajfanaaGreat


/- Contracts of slices.Sort at what a call owns, of match.finder, of match.Short. -/
namespace Go.Proofs.YtehdhbnbajfanaaGreat
set_option linter.unusedSimpArgs false
set_option linter.unusedVariables false
open Go.RowKit Go.Sort Go.Shelf

def isort (l : List Int) : List Int := l.mergeSort fun x y => decide (x ≤ y)
theorem flat_in (l : List Int) : (l.map inRow).flatten = l.map (Value.int .i64) := by
  induction l with
  | nil => rfl
  | cons x l ih => simp [inRow, ih]
theorem met_in (l : List Nat) : l.map metRow = (l.map fun i : Nat => (i : Int)).map inRow := by simp [metRow]
/-- What slices.Sort does to a slice of the call's own. -/
def SortPost (B : Nat) (v : Value) (l : List Int) (w : World) (e : Ending) (w' : World) : Prop := e = .returned (.tuple #[]) ∧ OwnR w' B 3 1 v ((isort l).map inRow) ∧ w.grownBy w' v.ownBlock
theorem sort_any (B : Nat) (v : Value) (l : List Int) (w : World) (hne : l ≠ []) (hl : l.length ≤ 1000000) (o : OwnR w B 3 1 v (l.map inRow)) : Calls Tryz.prog 90 #[v] w (SortPost B v l w) := by
  obtain ⟨_, h1, h2⟩ := o
  rcases h2 with ⟨_, h2⟩ | ⟨g, cap, cur, rfl, hg, hc, h3, h4, h5, h6⟩
  · exact absurd (List.length_eq_zero_iff.1 (by simpa using h2)) hne
  · rw [List.length_map] at h3 h6 ⊢
    rw [Nat.mul_one, flat_in] at h6
    have hlt : g < w.heap.size := lt_blk hc
    have := AnyM.slices_Sort_int (P := Tryz.prog) Lay.sortA g 0 cap l w (holds_of_blockI hc h6) hlt (by omega)
    refine Calls.mono this ?_
    rintro e w' ⟨rfl, n, os, rfl⟩
    have hlen : (isort l).length = l.length := by simp [isort, List.length_mergeSort]
    refine ⟨rfl, ⟨by simp [inRow], ?_⟩, grownBy_sortedI _⟩
    have := ownsRow_sortedI (w := w) (n := n) (os := os) (ss := l) (ts := isort l) hlen hg hc h3 h4 h5
    rw [flat_in, List.length_map, hlen]
    exact this
/-- match.finder: its variables lie in three new cells. -/
def FinPost (m : Int) (v f : Value) (w : World) (e : Ending) (w' : World) : Prop :=
  ∃ s : Nat, s = w.heap.size ∧ e = .returned (.func (Fn.func 91) #[] #[.pointer (some ⟨s + 1, 0, none⟩), .pointer (some ⟨s + 1 + 1, 0, none⟩), .pointer (some ⟨s, 0, none⟩)]) ∧
    w'.heap[s]? = some (.cells #[.int .i64 m] 3 (0, 0)) ∧ w'.heap[s + 1]? = some (.cells #[v] 24 (0, 0)) ∧ w'.heap[s + 1 + 1]? = some (.cells #[f] 111 (0, 0)) ∧ Below w.heap.size w w'
theorem finder_any (m : Int) (a : Option Addr) (n cap cf : Nat) (caps : Array Value) (w : World) : Calls Tryz.prog 82 #[.int .i64 m, .slice a n cap, .func (Fn.func cf) #[] caps] w (FinPost m (.slice a n cap) (.func (Fn.func cf) #[] caps) w) := by
  go_enter Tryz.func82, Tryz.ntmps82
  go_wp2
  go_ret
  obtain ⟨x1, x2, x3, x4⟩ := box3 (Below.refl (((w.alloc (.cells #[.int .i64 m] 3)).alloc (.cells #[.slice a n cap] 24)).alloc (.cells #[.func (Fn.func cf) #[] caps] 111)).heap.size _)
  exact ⟨w.heap.size, rfl, rfl, x1, x2, x3, x4⟩
/-- Can row i have column k? -/
def canC (c : List (List Int)) (i k : Nat) : Bool := decide (0 ≤ (c.getD i []).getD k (-1))
theorem short1_any (b : Nat) (a : Option Addr) (cap : Nat) (c : List (List Int)) (i k : Nat) (w : World) (hl : c.length ≤ 200) (hwd : ∀ l ∈ c, l.length = wideL c) (hn : wideL c ≤ 200) (hi : i < c.length) (hk : k < wideL c)
    (hx : w.heap[b]? = some (.cells #[.slice a c.length cap] 37 (0, 0))) (hm : MatAt w a c) :
    Calls Tryz.prog 89 #[.int .i64 i, .int .i64 k, .pointer (some ⟨b, 0, none⟩)] w fun e w' => e = .returned (.bool (canC c i k)) ∧ Below w.heap.size w w' := by
  obtain ⟨b1, off, ai, ci, rfl, c0, hsk, hik⟩ := hm.get i hi
  have hlen := hwd c[i] (List.getElem_mem _)
  obtain ⟨b2, off2, rfl, d0⟩ := hik.get k (by omega)
  have hC := Lib.hid (show canC c i k = decide (0 ≤ (c[i])[k]'(by omega)) by simp [canC, List.getD, hi, hlen, hk])
  have hcx := box_cells hx
  rw [hlen] at c0
  clear hx hm hik hsk
  generalize (c[i])[k]'(by omega) = N at *
  clear hlen hwd
  go_enter Tryz.func89, Tryz.ntmps89
  go_wp2
  go_ret
  exact ⟨by rw [hC.out]; rfl, Below.refl _ _⟩
end Go.Proofs.YtehdhbnbajfanaaGreat


/- match.Short, walked. -/
namespace Go.Proofs.YtehdhbnbajfanaaGreat
set_option linter.unusedSimpArgs false
set_option linter.unusedVariables false
open Go.RowKit Go.Sort Go.Shelf

/-- What Short says: no matching, and rows that show it; or there is one. -/
def ShortSays (c : List (List Int)) (l : List Int) (short : Bool) (err : Int) : Prop :=
  err = formE c ∧ ((short = false ∧ l = [] ∧ (err = 0 → Mtd (canC c) (fun i => i < c.length) (wideL c))) ∨ (err = 0 ∧ short = true ∧ ∃ j ms, Circ (canC c) (wideL c) c.length j ms ∧ l = isort (ms.map fun i : Nat => (i : Int))))
def ShortPost (c : List (List Int)) (w : World) (e : Ending) (w' : World) : Prop :=
  ∃ (l : List Int) (short : Bool) (err : Int) (a : Option Addr) (cap : Nat), e = .returned (.tuple #[.slice a l.length cap, .bool short, .int .i64 err]) ∧ ShortSays c l short err ∧ SlOk a l.length cap ∧ InAt w' a l ∧ Below w.heap.size w w'
/-- The finder of Short. -/
def shortGi (c : List (List Int)) (B bO bC bR bow bc : Nat) (w0 : World) : Gi :=
  { n := wideL c, m := c.length, B := B, bO := bO, bC := bC, bR := bR, bow := bow, cf := 89, caps := #[.pointer (some ⟨bc, 0, none⟩)], can := canC c, S := fun w => Below w0.heap.size w0 w }
theorem short_gi {c : List (List Int)} {B bO bC bR bow bc cap : Nat} {a : Option Addr} {w0 : World} (he : formE c = 0) (hB : w0.heap.size ≤ B) (l1 : bO < B) (l2 : bC < B) (l3 : bR < B) (l4 : bow < B) (n1 : bO ≠ bow) (n2 : bC ≠ bow) (n3 : bR ≠ bow) (hw : w0.heap.size ≤ bow)
    (hx : w0.heap[bc]? = some (.cells #[.slice a c.length cap] 37 (0, 0))) (hm : MatAt w0 a c) : GiOk (shortGi c B bO bC bR bow bc w0) := by
  obtain ⟨h1, h2, h3, _⟩ := formE_ok he
  refine ⟨⟨by simp only [shortGi]; omega, by simp only [shortGi]; omega⟩, ⟨l1, l2, l3, l4⟩, ⟨n1, n2, n3⟩, fun w w' hs k => ?_, fun args w => by kernel_rfl, fun w i k hs hi hk => ?_⟩
  · have hs : Below w0.heap.size w0 w := hs
    exact ⟨k.os.trans hs.os, k.tape.trans hs.tape, k.output.trans hs.output, Nat.le_trans hs.size k.size, fun b hb => (k.block b (Nat.lt_of_lt_of_le hb hB) (by simp only [shortGi, List.mem_singleton]; omega)).trans (hs.block b hb)⟩
  · have hs : Below w0.heap.size w0 w := hs
    have := short1_any bc a cap c i k w h1 h3 h2 hi hk (blk_keep hx hs) (hm.below hs)
    exact this
def ShortInv (c : List (List Int)) (g : Gi) (w0 : World) (k : Nat) (w : World) : Prop :=
  ∃ ow : Nat → Int, GSt g w ow ∧ Own (canC c) (wideL c) (fun _ => True) (fun i => i < k) ow ∧ Below w0.heap.size w0 w
theorem short_start (can : Nat → Nat → Bool) (n : Nat) : Own can n (fun _ => True) (fun i => i < 0) (fun _ => -1) :=
  ⟨fun _ _ _ => .inl rfl, fun i hi => by omega, fun _ _ i _ _ _ _ e _ => by omega⟩
theorem short_val {can : Nat → Nat → Bool} {n m k : Nat} {ow : Nat → Int} (O : Own can n (fun _ => True) (fun i => i < k) ow) (hk : k < m) : ∀ j, j < n → ow j = -1 ∨ ∃ i : Nat, ow j = i ∧ i < m ∧ can i j = true := fun j hj => by
  rcases O.val j hj trivial with e | ⟨i, e, h1, h2⟩
  · exact .inl e
  · exact .inr ⟨i, e, by omega, h2⟩
set_option maxRecDepth 100000 in
set_option maxHeartbeats 4000000 in
theorem Short_any (a : Option Addr) (cap : Nat) (c : List (List Int)) (w : World) (hl : c.length ≤ 100000000000000) (hm : MatAt w a c) (hs : SlOk a c.length cap) :
    Calls Tryz.prog 79 #[.slice a c.length cap] w (ShortPost c w) := by
  have HS := Lib.hid hs; have HM := Lib.hid hm; clear hs hm
  by_cases he : formE c = 0
  · obtain ⟨f1, f2, f3, f4⟩ := formE_ok he
    have HE := Lib.hid he; have HF3 := Lib.hid f3; clear he f3 f4
    go_enter Tryz.func79, Tryz.ntmps79
    go_wp2_with (fail)
    have x0 := heap_alloc_new w (.cells #[.slice a c.length cap] 37)
    have hb := (Below.refl w.heap.size w).alloc (Nat.le_refl _) (.cells #[.slice a c.length cap] 37)
    generalize w.alloc (.cells #[.slice a c.length cap] 37) = w0 at *
    have HX1 := Lib.hid x0; have HB := Lib.hid hb; replace HM := Lib.hid (HM.out.below hb); clear x0 hb
    have HX0 := Lib.hid HX1.out
    have hc1 := box_cells HX1.out; have hf1 := box_free HX1.out; have hz1 := lt_blk HX1.out
    refine (formed_any a cap c w0 hl HM.out HS.out).mono ?_; rw [HE.out]; rintro e w' ⟨rfl, rfl⟩
    go_wp2
    have HB0 := Lib.hid (Below.refl w0.heap.size w0)
    go_region_held3 (fun W => W.cell? ⟨w.heap.size, 0, none⟩ = some (.slice a c.length cap)) (first | exact hc1 0 | go_keep)
      (first
        | (go_at_call 67; refine (wide_any a cap c _ hl (HM.out.below (by first | exact HB0.out | exact HB0.out.drew))).mono ?_; rintro e w2 ⟨rfl, rfl⟩)
        | (go_at_call 83; refine (nobody_any _ _ (by omega)).mono ?_; rintro e w2 ⟨bn, rfl, hbn, hr, hb⟩; (try replace hb := drewB hb); have HBN := Lib.hid hbn; have HRN := Lib.hid hr; replace HB0 := Lib.hid (HB0.out.trans (hb.mono HB0.out.size)); replace HX1 := Lib.hid (blk_keep HX1.out hb); replace hc1 := box_cells HX1.out; clear hb hr hbn)
        | (go_at_call 82; refine (finder_any _ _ _ _ _ _ _).mono ?_; rintro e w3 ⟨sN, hsN, rfl, x1, x2, x3, hb⟩; have hbs : bn < sN := (by have := HRN.out.lt; rw [hsN]; exact this); (try replace hb := drewB hb); replace HRN := Lib.hid (HRN.out.below hb); replace HB0 := Lib.hid (HB0.out.trans (hb.mono HB0.out.size)); replace HX1 := Lib.hid (blk_keep HX1.out hb); replace hc1 := box_cells HX1.out; have HSN := Lib.hid hsN; have HY1 := Lib.hid x1; have HY2 := Lib.hid x2; have HY3 := Lib.hid x3; clear hb hsN x1 x2 x3))
    all_goals
      have hB := lt_blk HY3.out
      have hB0 : w0.heap.size ≤ bn := HBN.out
      have G := short_gi (a := a) (cap := cap) (bc := w.heap.size) (B := sN + 1 + 1 + 1) (bO := sN + 1) (bC := sN + 1 + 1) (bR := sN) (bow := bn) HE.out (by omega) (by omega) (by omega) (by omega) (by omega) (by omega) (by omega) (by omega) hB0 HX0.out HM.out
      have S0 : GSt (shortGi c (sN + 1 + 1 + 1) (sN + 1) (sN + 1 + 1) sN bn w.heap.size w0) w3 (fun _ => -1) := ⟨by simp only [shortGi]; omega, HY2.out, HY3.out, HY1.out, HRN.out, HB0.out⟩
      have HG := Lib.hid G; have HS0 := Lib.hid S0
      clear G S0 HBN HRN HY1 HY2 HY3 HSN
      go_wp2
      go_loopw [24] (fun i wr => ∃ k : Nat, k ≤ c.length ∧ i = .int .i64 k ∧ ShortInv c (shortGi c (sN + 1 + 1 + 1) (sN + 1) (sN + 1 + 1) sN bn w.heap.size w0) w0 k wr) (fun i _ => c.length - (intOf i).toNat)
      case atStart => exact ⟨0, Nat.zero_le _, rfl, _, HS0.out, short_start _ _, HB0.out⟩
      case round =>
        obtain ⟨k, hk, rfl, ow, S, O, b⟩ := hrel
        have HSt := Lib.hid S; have HO := Lib.hid O; have HBB := Lib.hid b
        clear S O b
        by_cases hlt : k < c.length
        · go_wp2_with (fail)
          refine (search_any _ HG.out k ow wr hlt (short_val HO.out hlt) HSt.out).mono ?_
          rintro e w5 ⟨ok, ow', mv, met, rfl, S5, K5, o5, v5, l5, Y5⟩
          have HS5 := Lib.hid S5; have HO5 := Lib.hid o5
          have hB5 := HBB.out.size
          have HK5 := Lib.hid (HBB.out.trans (K5.weaken (S' := []) hB5 (fun x hx hlt => by simp only [shortGi, List.mem_singleton] at hx; omega)).below)
          have hbig5 := K5.size
          clear S5 K5 o5 v5
          rcases Y5 with ⟨rfl, Y⟩ | ⟨rfl, rfl, ks, seen', rfl, N⟩
          · have HY := Lib.hid Y; clear Y
            go_wp2
            go_roundw
            case rel => exact ⟨k + 1, by omega, by go_num, ow', HS5.out, own_yes HY.out HO.out, HK5.out⟩
            case measure => simp [intOf]; omega
          · have HN := Lib.hid N; have hml : (k :: rows ow' ks).length ≤ 100000 := (by have := l5; simp only [shortGi] at this; omega); clear N l5
            have HC := Lib.hid (circ_of HN.out HO.out hlt)
            rw [met_in] at HO5
            go_wp2_with (fail)
            refine (sort_any wr.heap.size mv ((k :: rows ow' ks).map fun i : Nat => (i : Int)) w5 (by simp) (by rw [List.length_map]; omega) HO5.out).mono ?_
            rintro e w6 ⟨rfl, o6, g6⟩
            have HB6 := Lib.hid (below_grown (HK5.out.mono (show w0.heap.size ≤ w0.heap.size from Nat.le_refl _)) (OwnR.lower HO5.out (show w0.heap.size ≤ wr.heap.size from hB5)) (by omega) g6)
            obtain ⟨a6, c6, e6, s6, i6⟩ := o6.slAt
            have HE6 := Lib.hid e6; have HS6 := Lib.hid s6; have HI6 := Lib.hid i6
            clear o6 g6 e6 s6 i6
            go_wp2
            go_ret3
            refine ⟨isort ((k :: rows ow' ks).map fun i : Nat => (i : Int)), true, 0, a6, c6, ?_, ⟨HE.out.symm, .inr ⟨rfl, rfl, k, _, HC.out, rfl⟩⟩, ?_, HI6.out, HB.out.trans (HB6.out.mono HB.out.size)⟩
            · have := HE6.out
              rw [List.length_map] at this
              rw [← this]; rfl
            · have := HS6.out
              rw [List.length_map] at this
              exact this
        · have HOk := Lib.hid (show Mtd (canC c) (fun i => i < c.length) (wideL c) from HO.out.mt.sub fun i hi => by omega)
          go_wp2
          go_ret3
          exact ⟨[], false, 0, none, 0, rfl, ⟨HE.out.symm, .inl ⟨rfl, rfl, fun _ => HOk.out⟩⟩, SlOk.nil, SlAt.nil _ _ _, HB.out.trans (HBB.out.mono HB.out.size)⟩
  · have hne : (formE c != 0) = true := by simpa using he
    go_enter Tryz.func79, Tryz.ntmps79
    go_wp2_with (fail)
    have x0 := heap_alloc_new w (.cells #[.slice a c.length cap] 37)
    have hb := (Below.refl w.heap.size w).alloc (Nat.le_refl _) (.cells #[.slice a c.length cap] 37)
    generalize w.alloc (.cells #[.slice a c.length cap] 37) = w0 at *
    have HX1 := Lib.hid x0; have HB := Lib.hid hb; replace HM := Lib.hid (HM.out.below hb); clear x0 hb
    refine (formed_any a cap c w0 hl HM.out HS.out).mono ?_; rintro e w' ⟨rfl, rfl⟩
    go_wp2
    go_ret3
    exact ⟨[], false, formE c, none, 0, rfl, ⟨rfl, .inl ⟨rfl, rfl, fun h0 => absurd h0 he⟩⟩, SlOk.nil, SlAt.nil _ _ _, HB.out⟩
end Go.Proofs.YtehdhbnbajfanaaGreat
