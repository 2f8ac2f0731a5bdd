
/- strings.IndexAny at " ,", every string: the long road is the shelf's, the short one is walked (IndexRune at every rune). -/
import Derived.Test.YtfppijjjaleiaaaDoorCallLay
import Derived.Test.YtfppijjjaleiaaaDoorCallPure3
import Derived.Test.YtfppijjjaleiaaaDoorCallStr
import Derived.Test.YtfppijjjaleiaaaDoorRegLib
import Derived.Test.YtfppijjjaleiaaaDoorLib2
import Derived.Lib.SpaceUEq
import Derived.WalkMore
import Derived.Lib.OthersKept
import Derived.Stop.FmtQuoteTie
namespace Go.Proofs.YtfppijjjaleiaaaDoor
set_option linter.unusedSimpArgs false
set_option linter.unusedVariables false
open Go.RowKit Go.Sort

theorem getD_at (s : ByteArray) (j : Nat) (h : j < s.size) : s.data.toList.getD j 0 = s[j]'h := by
  have : s.data.toList[j]? = some (s[j]'h) := Lib.data_getElem? s j h
  simp [List.getD, this]
/-- The bytes of a rune that is no ASCII byte. -/
theorem conts_at (s : ByteArray) (pos : Nat) (h : pos < s.size) (ha : 128 ≤ (s[pos]'h).toNat) (j : Nat) (h1 : pos ≤ j) (h2 : j < pos + (Utf8.decode s pos).2) : ∃ hj : j < s.size, 128 ≤ (s[j]'hj).toNat := by
  have hc := Lib.decodeN_conts (s.data.toList.length - pos) (s.data.toList.getD pos 0).toNat (s.data.toList.getD (pos + 1) 0).toNat (s.data.toList.getD (pos + 2) 0).toNat (s.data.toList.getD (pos + 3) 0).toNat
  rw [← Lib.decode_N] at hc
  obtain ⟨c2, c3, c4, c5⟩ := hc
  have hl : s.data.toList.length = s.size := rfl
  rw [hl] at c2 c3 c4
  have hj : j = pos ∨ j = pos + 1 ∨ j = pos + 2 ∨ j = pos + 3 := by omega
  rcases hj with rfl | rfl | rfl | rfl
  · exact ⟨h, ha⟩
  · obtain ⟨a, b⟩ := c2 (by omega)
    have hj : pos + 1 < s.size := by omega
    rw [getD_at s _ hj] at a
    exact ⟨hj, by omega⟩
  · obtain ⟨a, b⟩ := c3 (by omega)
    have hj : pos + 2 < s.size := by omega
    rw [getD_at s _ hj] at a
    exact ⟨hj, by omega⟩
  · obtain ⟨a, b⟩ := c4 (by omega)
    have hj : pos + 3 < s.size := by omega
    rw [getD_at s _ hj] at a
    exact ⟨hj, by omega⟩
theorem noany_far {s : ByteArray} {pos k : Nat} (h : Lib.NoAny s.data.toList [32, 44] pos) (hk : ∀ j, pos ≤ j → j < pos + k → ∃ hj : j < s.size, 128 ≤ (s[j]'hj).toNat) : Lib.NoAny s.data.toList [32, 44] (pos + k) := fun j b hj hb => by
  by_cases hlt : j < pos
  · exact h j b hlt hb
  · obtain ⟨hjs, hge⟩ := hk j (by omega) hj
    have := Lib.data_getElem? s j hjs
    rw [hb] at this
    cases this
    rw [seps_contains]
    cases hs : sepB s[j] with
    | false => rfl
    | true =>
      simp only [sepB, Bool.or_eq_true, beq_iff_eq] at hs
      rcases hs with hs | hs <;> (rw [hs] at hge; revert hge; decide)

def sepS : ByteArray := ⟨#[32, 44]⟩
theorem sep_lt : ∀ pos (h : pos < 2), (sepS[pos]'h).toNat < 128 := by decide
theorem enc_high (r : Int) (h : 128 ≤ r) : ∃ m : Nat, (Utf8.encode r).size = m + 2 ∧ m ≤ 2 ∧ ∃ c : UInt8, (Utf8.encode r).data.toList[m + 1]? = some c ∧ 128 ≤ c.toNat := by
  obtain ⟨n, rfl⟩ := Int.eq_ofNat_of_zero_le (show 0 ≤ r by omega)
  have hz : ∀ b : ByteArray, b.size = b.data.toList.length := fun b => rfl
  have hk : ∀ x, 128 ≤ (UInt8.ofNat (128 + x % 64)).toNat := fun x => by simp; omega
  by_cases h2 : n < 2048
  · refine ⟨0, by rw [hz, Go.Extern.FmtText.enc2 n (by omega) h2]; rfl, by omega, _, by rw [Go.Extern.FmtText.enc2 n (by omega) h2]; rfl, hk _⟩
  by_cases hb : (55296 ≤ n ∧ n ≤ 57343) ∨ 1114111 < n
  · refine ⟨1, by rw [hz, Go.Extern.FmtText.encBad n hb]; rfl, by omega, 189, by rw [Go.Extern.FmtText.encBad n hb]; rfl, by decide⟩
  by_cases h3 : n < 65536
  · refine ⟨1, by rw [hz, Go.Extern.FmtText.enc3 n h2 h3 (by omega)]; rfl, by omega, _, by rw [Go.Extern.FmtText.enc3 n h2 h3 (by omega)]; rfl, hk _⟩
  · refine ⟨2, by rw [hz, Go.Extern.FmtText.enc4 n h3 (by omega)]; rfl, by omega, _, by rw [Go.Extern.FmtText.enc4 n h3 (by omega)]; rfl, hk _⟩
def NoRune (w : World) (e : Ending) (w' : World) : Prop := e = .returned (.int .i64 (-1)) ∧ Below w.heap.size w w'
theorem indexByte_none (l : List UInt8) (c : UInt8) (h : ∀ x ∈ l, x ≠ c) : Lib.indexByte l c = -1 := by
  induction l with
  | nil => rfl
  | cons b l ih =>
    have hb : (b == c) = false := by simpa using h b (by simp)
    simp [Lib.indexByte, hb, ih fun x hx => h x (by simp [hx])]
theorem indexByte_hi (s : ByteArray) (c : Int) (w : World) (hs : ∀ x ∈ s.data.toList, x.toNat < 128) (hc : 128 ≤ c) (hc2 : c < 256) : Calls Tryd.prog 63 #[.string s, .int .u8 c] w fun e w' => e = .returned (.int .i64 (-1)) ∧ w = w' := by
  have h := Any.strings_IndexByte Lay.p137 s c w
  rw [indexByte_none] at h
  · exact h.mono fun e w' h => ⟨h.1, h.2.symm⟩
  · intro x hx e
    have h1 := hs x hx
    rw [e] at h1
    simp at h1
    omega
set_option maxRecDepth 100000 in
set_option maxHeartbeats 4000000 in
theorem sep_enc (r : Int) (w : World) (E : ByteArray) (k : Nat) (hm : E.size = k + 1) (hk1 : 1 ≤ k) (hk2 : k ≤ 3) (c : UInt8) (hc : E.data.toList[k]? = some c) (hlast : 128 ≤ c.toNat) (he1 : (r == 65533) = false) (hno : (decide ((0 : Int) ≤ r) && decide (r < 128)) = false) (hv : Lib.validRune r = true)
    (hcv : ∀ w, (convert 21 9 (.int .i32 r)).run Tryd.prog w = .ok (.string E) w) (hr : 128 ≤ r) : Calls Tryd.prog 55 #[.string ⟨#[32, 44]⟩, .int .i32 r] w (NoRune w) := by
  have e44 : ((⟨#[32, 44]⟩ : ByteArray)[1]'(by decide)).toNat = 44 := by decide
  have hks : k < E.size := by omega
  have hEk : E[k] = c := by
    have h1 := List.getElem?_eq_some_iff.1 hc
    obtain ⟨_, h2⟩ := h1
    exact h2
  have hk3 : k = 1 ∨ k = 2 ∨ k = 3 := by omega
  clear hc
  have hc256 : c.toNat < 256 := c.toNat_lt
  rcases hk3 with rfl | rfl | rfl
  · have hne : ((((⟨#[32, 44]⟩ : ByteArray)[1]).toNat : Int) != (c.toNat : Int)) = true := by
      rw [e44]; simp; omega
    go_enter Tryd.func55, Tryd.ntmps55; go_wp2_with (go_at_call 64; refine (Any.utf8_ValidRune Lay.p119 r _).mono ?_; rw [hv]; rintro e w' ⟨rfl, rfl⟩); go_step3; go_wp2; refine wp_loop_rounds 1 ?_; rw [rounds_succ]; go_wp2; go_step3; go_wp2; refine wp_quietB (by kernel_rfl) (by kernel_rfl) ?_; (repeat (go_big_quiet_step (fail))); refine wpQuiet_nil ?_; intro w2 hb; have HB := Lib.hid hb; clear hb; go_wp2; refine wp_quietB (by kernel_rfl) (by kernel_rfl) ?_; (repeat (go_big_quiet_step (first | (go_at_call 63; exact Calls.regrown (indexByte_hi _ _ _ (by decide) (by omega) (by omega)))))); refine wpQuiet_nil ?_; intro w3 hb; replace HB := Lib.hid (HB.out.trans (hb.mono HB.out.size)); clear hb; go_wp2; rw [Exit.noGoto_ret]; go_ret; exact ⟨rfl, HB.out⟩
  · go_enter Tryd.func55, Tryd.ntmps55; go_wp2_with (go_at_call 64; refine (Any.utf8_ValidRune Lay.p119 r _).mono ?_; rw [hv]; rintro e w' ⟨rfl, rfl⟩); go_step3; go_wp2
    refine wp_loop_rounds 1 ?_
    rw [rounds_succ]
    go_wp2
    rw [Exit.noGoto_ret]
    go_ret
    exact ⟨rfl, Below.refl _ _⟩
  · go_enter Tryd.func55, Tryd.ntmps55; go_wp2_with (go_at_call 64; refine (Any.utf8_ValidRune Lay.p119 r _).mono ?_; rw [hv]; rintro e w' ⟨rfl, rfl⟩); go_step3; go_wp2
    refine wp_loop_rounds 1 ?_
    rw [rounds_succ]
    go_wp2
    rw [Exit.noGoto_ret]
    go_ret
    exact ⟨rfl, Below.refl _ _⟩
set_option maxRecDepth 100000 in
set_option maxHeartbeats 4000000 in
theorem sep_high (r : Int) (w : World) (h : 128 ≤ r) (h2 : r ≤ 2147483647) : Calls Tryd.prog 55 #[.string ⟨#[32, 44]⟩, .int .i32 r] w (NoRune w) := by
  have hno : (decide ((0 : Int) ≤ r) && decide (r < 128)) = false := by simp; omega
  by_cases he : r = 65533
  · subst he
    go_enter Tryd.func55, Tryd.ntmps55
    go_wp2
    go_loopw [5] (fun _ w' => ∃ pos, pos ≤ 2 ∧ w' = w.iter sepS pos) (fun _ w' => 2 - w'.iterPos w.heap.size)
    case atStart => exact ⟨0, by omega, rfl⟩
    case round =>
      obtain ⟨pos, hp, rfl⟩ := hrel
      by_cases hlt : pos < 2
      · obtain ⟨v, hv1, hv2⟩ : ∃ v : Nat, v < 128 ∧ ∀ ty, (Instr.next (.pointer (some ⟨w.heap.size, 0, none⟩)) true ty).run Tryd.prog (w.iter sepS pos) = .ok (.tuple #[.bool true, .int .i64 pos, .int .i32 v]) (w.iter sepS (pos + 1)) := by
          have hs : pos < sepS.size := hlt
          have ha := sep_lt pos hlt
          exact ⟨_, ha, fun ty => run_next_ascii w sepS pos ty hs ha⟩
        have hne : ((v : Int) == 65533) = false := by simp; omega
        go_wp2
        exact ⟨⟨pos + 1, by omega, rfl⟩, by simp; omega⟩
      · have hnx : ∀ ty, (Instr.next (.pointer (some ⟨w.heap.size, 0, none⟩)) true ty).run Tryd.prog (w.iter sepS pos) = _ := fun ty => run_next_end w sepS pos ty (by show ¬ pos < 2; exact hlt)
        go_wp2
        go_ret
        exact ⟨rfl, (Below.refl _ _).alloc (Nat.le_refl _) _⟩
  · have he1 : (r == 65533) = false := by simpa using he
    cases hv : Lib.validRune r
    · go_enter Tryd.func55, Tryd.ntmps55
      go_wp2_with (go_at_call 64; refine (Any.utf8_ValidRune Lay.p119 r _).mono ?_; rw [hv]; rintro e w' ⟨rfl, rfl⟩)
      go_ret
      exact ⟨rfl, Below.refl _ _⟩
    · have hcv : ∀ w, (convert 21 9 (.int .i32 r)).run Tryd.prog w = .ok (.string (Utf8.encode r)) w := fun w => by kernel_rfl
      obtain ⟨m, hm, hm2, c, hc, hlast⟩ := enc_high r h
      generalize Utf8.encode r = E at *
      have hm3 : m = 0 ∨ m = 1 ∨ m = 2 := by omega
      rcases hm3 with rfl | rfl | rfl
      · exact sep_enc r w E 1 hm (by omega) (by omega) c hc hlast he1 hno hv hcv h
      · exact sep_enc r w E 2 hm (by omega) (by omega) c hc hlast he1 hno hv hcv h
      · exact sep_enc r w E 3 hm (by omega) (by omega) c hc hlast he1 hno hv hcv h
theorem sep_low (x : UInt8) (w : World) (h : x.toNat < 128) : Calls Tryd.prog 55 #[.string ⟨#[32, 44]⟩, .int .i32 (x.toNat : Int)] w fun e w' => e = .returned (.int .i64 (Lib.indexByte [32, 44] x)) ∧ w = w' := by
  refine (Any.strings_IndexRune_ascii Lay.p152 ⟨#[32, 44]⟩ (x.toNat : Int) w (by omega) (by omega)).mono ?_
  rintro e w' ⟨rfl, rfl⟩
  have : ((x.toNat : Int)).toNat.toUInt8 = x := by simp
  rw [this]
  exact ⟨rfl, rfl⟩
set_option maxRecDepth 100000 in
set_option maxHeartbeats 4000000 in
/-- The short road: rune by rune. -/
theorem any_short (s : ByteArray) (w : World) (h8 : s.size ≤ 8) : Calls Tryd.prog 39 #[.string s, .string ⟨#[32, 44]⟩] w fun e w' => e = .returned (.int .i64 (Lib.indexAny (bsS s) [32, 44])) ∧ Below w.heap.size w w' := by
  have h8z : decide ((8 : Int) < (s.size : Int)) = false := decide_eq_false (by omega)
  have hU := fun w => Any.strings_shouldUseASCIISet (P := Tryd.prog) (ρ := Lay.p153_ren) { Lay.p153 with } s.size w
  have HU := Lib.hid hU; clear hU
  go_enter Tryd.func39, Tryd.ntmps39
  go_wp2_with (go_at_call 56; refine (HU.out _).mono ?_; rintro e w' ⟨rfl, hw⟩; rw [hw, h8z])
  go_loopg [9, 10] s.size (fun g _ _ wx => ∃ pos : Nat, wx.heap[w.heap.size]? = some (.stringIter s pos) ∧ Below w.heap.size w wx ∧ Lib.NoAny s.data.toList [32, 44] pos ∧ s.size ≤ pos + g)
  case atStart => exact ⟨0, World.iter_heap w s 0, (Below.refl _ w).alloc (Nat.le_refl _) _, Lib.NoAny.zero _ _, by omega⟩
  case round =>
    obtain ⟨pos, hit, hbw, hno, hfu⟩ := hrel
    have HN := Lib.hid hno; clear hno
    by_cases hps : pos < s.size
    · have hnx : ∀ ty, (Instr.next (.pointer (some ⟨w.heap.size, 0, none⟩)) true ty).run Tryd.prog wr = _ := fun ty => Lib.run_next_any_at wr w.heap.size s pos ty hit hps
      obtain ⟨g', rfl⟩ : ∃ g', gk = g' + 1 := ⟨gk - 1, by omega⟩
      have hxl : s.data.toList[pos]? = some s[pos] := Lib.data_getElem? s pos hps
      by_cases ha : (s[pos]'hps).toNat < 128
      · have hd := decode_ascii s pos hps ha
        rw [hd] at hnx
        have hit2 := Lib.iterAt_heap wr w.heap.size s pos (pos + 1) hit
        have hbw2 := Lib.below_iterAt hbw (k := w.heap.size) (Nat.le_refl _) s (pos + 1)
        dsimp only at hnx
        generalize wr.iterAt w.heap.size s (pos + 1) = W at *
        have HL := Lib.hid (fun W => sep_low (s[pos]'hps) W ha)
        have Hx := Lib.hid hxl
        clear hxl hd
        generalize s[pos]'hps = x at *
        have hcon := Lib.contains_iff_indexByte [32, 44] x
        cases hin : ([32, 44] : Bs).contains x
        · rw [hin] at hcon
          have hlt : ¬ ((0 : Int) ≤ Lib.indexByte [32, 44] x) := of_decide_eq_false hcon.symm
          have HNx := Lib.hid (HN.out.succ Hx.out hin)
          clear hcon hin
          go_wp2_with (go_at_call 55; refine (HL.out _).mono ?_; rintro e w' ⟨rfl, rfl⟩)
          go_roundg g'
          case measure => omega
          case rel => exact ⟨pos + 1, hit2, hbw2, HNx.out, by omega⟩
        · rw [hin] at hcon
          have hge : (0 : Int) ≤ Lib.indexByte [32, 44] x := of_decide_eq_true hcon.symm
          have HR := Lib.hid (Lib.indexAny_hit HN.out Hx.out hin)
          clear hcon hin
          go_wp2_with (go_at_call 55; refine (HL.out _).mono ?_; rintro e w' ⟨rfl, rfl⟩)
          go_ret
          exact ⟨ret_int HR.out.symm, hbw2⟩
      · obtain ⟨hr1, hr2⟩ := decode_high s pos hps (by omega)
        have hr3 := decode_le s pos
        have hcs := conts_at s pos hps (by omega)
        have HNx := Lib.hid (noany_far HN.out hcs)
        have hit2 := Lib.iterAt_heap wr w.heap.size s pos (pos + (Utf8.decode s pos).2) hit
        have hbw2 := Lib.below_iterAt hbw (k := w.heap.size) (Nat.le_refl _) s (pos + (Utf8.decode s pos).2)
        clear hcs hxl
        generalize (Utf8.decode s pos).1 = R at *
        generalize (Utf8.decode s pos).2 = K at *
        generalize wr.iterAt w.heap.size s (pos + K) = W at *
        have HL := Lib.hid (fun W => sep_high (R : Int) W (by omega) (by omega))
        have hlt0 := lt_blk hit2
        go_wp2_with (go_at_call 55; refine (HL.out _).mono ?_; rintro e w3 ⟨rfl, hb3⟩)
        go_roundg g'
        case measure => omega
        case rel => exact ⟨pos + K, (hb3.block _ hlt0).trans hit2, hbw2.trans (hb3.mono hbw2.size), HNx.out, by omega⟩
    · have hnx : ∀ ty, (Instr.next (.pointer (some ⟨w.heap.size, 0, none⟩)) true ty).run Tryd.prog wr = _ := fun ty => Lib.run_next_end_at wr w.heap.size s pos ty hit hps
      have HR := Lib.hid (show Lib.indexAny (bsS s) [32, 44] = -1 from Lib.indexAny_none (fun j b hj hb => HN.out j b (by have : (bsS s).length = s.size := rfl; omega) hb))
      go_wp2
      go_ret
      exact ⟨ret_int HR.out.symm, hbw⟩
theorem any_any (s : ByteArray) (w : World) (hs : s.size ≤ 1000) : Calls Tryd.prog 39 #[.string s, .string ⟨#[32, 44]⟩] w fun e w' => e = .returned (.int .i64 (Lib.indexAny (bsS s) [32, 44])) ∧ Below w.heap.size w w' := by
  by_cases h8 : s.size ≤ 8
  · exact any_short s w h8
  · have h116 := zero_of_info (P := Tryd.prog) (t := 82) (v := .agg (Array.replicate 256 (.bool false))) (n := 256) (by kernel_rfl)
    refine (Any.strings_IndexAny_long Lay.p153 h116.1 h116.2 s ⟨#[32, 44]⟩ w (by decide) (by omega) (by omega) (by decide) ?_).mono ?_
    · intro j b hj
      have hm : b ∈ ([32, 44] : Bs) := List.mem_of_getElem? hj
      simp at hm
      rcases hm with rfl | rfl <;> decide
    · rintro e w' ⟨rfl, rfl⟩
      exact ⟨rfl, ((Below.refl _ _).alloc (Nat.le_refl _) _).alloc (by simp) _⟩
end Go.Proofs.YtfppijjjaleiaaaDoor
