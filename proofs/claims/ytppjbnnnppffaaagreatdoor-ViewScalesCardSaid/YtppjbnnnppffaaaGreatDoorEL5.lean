/- Texts of this seat, laid together: ScKey2, ScPure16, ScL14i, ScL14j. -/
import Derived.Test.YtppjbnnnppffaaaGreatDoorSC
import Derived.Test.YtppjbnnnppffaaaGreatDoorSB
import Derived.Test.YtppjbnnnppffaaaGreatDoorSD
import Derived.Test.YtppjbnnnppffaaaGreatDoorEL7
import Derived.Test.YtppjbnnnppffaaaGreatDoorEL6
import Derived.Test.YtppjbnnnppffaaaGreatDoorSO
import Derived.IntWalk

/- key.Alter: walked; the row of sharps lies in memory. -/
namespace Go.Proofs.YtppjbnnnppffaaaGreatDoor
set_option linter.unusedSimpArgs false
set_option linter.unusedVariables false
open Go.RowKit Go.Sort

def shL : List Int := [3, 0, 4, 1, 5, 2, 6]
/-- The row of sharps lies in memory. -/
def EnvS (w : World) : Prop := InAt w (some ⟨1, 0, none⟩) shL
theorem EnvS.below {w w' : World} (h : EnvS w) (hb : Below w.heap.size w w') : EnvS w' := InAt.below h hb
set_option maxHeartbeats 1000000 in
theorem IndexI_any (a : Option Addr) (cap : Nat) (l : List Int) (x : Int) (w : World) (hl : l.length ≤ 1000) (hm : InAt w a l) : Calls Tryz.prog 152 #[.slice a l.length cap, .int .i64 x] w fun e w' => e = .returned (.int .i64 (idxO (fun y => x == y) l)) ∧ w = w' := by
  have HM := Lib.hid hm; clear hm
  go_enter Tryz.func152, Tryz.ntmps152
  go_wp2
  go_loopw [5, 8] (fun _ i wr => ∃ k : Nat, k ≤ l.length ∧ i = .int .i64 k ∧ (∀ j (hj : j < l.length), j < k → (x == l[j]) = false) ∧ wr = w) (fun _ i _ => l.length - (intOf i).toNat)
  case atStart => exact ⟨0, Nat.zero_le _, rfl, (fun j hj h => by omega), rfl⟩
  case round =>
    obtain ⟨k, hk, rfl, hz, rfl⟩ := hrel
    have HZ := Lib.hid hz; clear hz
    by_cases hlt : k < l.length
    · obtain ⟨b, off, rfl, c0⟩ := HM.out.get k hlt
      cases hX : (x == l[k])
      · have HS := Lib.hid (show ∀ j (hj : j < l.length), j < k + 1 → (x == l[j]) = false from fun j hj h => by
          by_cases e : j = k
          · subst e; exact hX
          · exact HZ.out j hj (by omega))
        generalize l[k] = X at *
        go_wp2
        go_roundw
        case rel => exact ⟨k + 1, by omega, by go_num, HS.out, by first | rfl | trivial⟩
        case measure => simp [intOf]; omega
      · have HT := Lib.hid (idxO_hit (p := fun y => x == y) hlt hX HZ.out)
        generalize l[k] = X at *
        go_wp2
        go_ret
        exact ⟨ret_int HT.out.symm, rfl⟩
    · have HR := Lib.hid (idxO_miss (p := fun y => x == y) (l := l) fun j hj => HZ.out j hj (by omega))
      go_wp2
      go_ret
      exact ⟨ret_int HR.out.symm, rfl⟩
theorem place_idx {s : Int} (h0 : 0 ≤ s) (h1 : s ≤ 6) : idxO (fun y => s == y) shL = placeI s := by
  have hs : s = 0 ∨ s = 1 ∨ s = 2 ∨ s = 3 ∨ s = 4 ∨ s = 5 ∨ s = 6 := by omega
  rcases hs with rfl | rfl | rfl | rfl | rfl | rfl | rfl <;> decide
theorem kalter_any (k s : Int) (w : World) (h0 : 0 ≤ s) (h1 : s ≤ 6) (hk : keyB k = true) (hS : EnvS w) : Calls Tryz.prog 96 #[.int .i64 k, .int .i64 s] w fun e w' => e = .returned (.int .i64 (altI k s)) ∧ w = w' := by
  have hI := IndexI_any (some ⟨1, 0, none⟩) 7 shL s w (by decide) hS
  rw [place_idx h0 h1] at hI
  have hp : 0 ≤ placeI s ∧ placeI s ≤ 6 := by
    have hs : s = 0 ∨ s = 1 ∨ s = 2 ∨ s = 3 ∨ s = 4 ∨ s = 5 ∨ s = 6 := by omega
    rcases hs with rfl | rfl | rfl | rfl | rfl | rfl | rfl <;> decide
  obtain ⟨hp0, hp1⟩ := hp
  obtain ⟨hk0, hk1⟩ := (inB_iff _ _ _).1 hk
  have HR := Lib.hid (show altI k s = if placeI s < k then 1 else if k < placeI s - 6 then -1 else 0 from rfl)
  have HI := Lib.hid hI
  clear hI hk h0 h1 hS
  generalize altI k s = R at *
  generalize placeI s = P at *
  by_cases c1 : P < k
  · rw [if_pos c1] at HR
    go_enter Tryz.func96, Tryz.ntmps96
    go_wp2_with (go_at_call 152; refine HI.out.mono ?_; rintro e w' ⟨rfl, rfl⟩)
    go_ret
    exact ⟨ret_int HR.out.symm, rfl⟩
  · rw [if_neg c1] at HR
    by_cases c2 : k < P - 6
    · rw [if_pos c2] at HR
      have c3 : k < P - 7 + 1 := by omega
      go_enter Tryz.func96, Tryz.ntmps96
      go_wp2_with (go_at_call 152; refine HI.out.mono ?_; rintro e w' ⟨rfl, rfl⟩)
      go_ret
      exact ⟨ret_int HR.out.symm, rfl⟩
    · rw [if_neg c2] at HR
      have c3 : ¬ k < P - 7 + 1 := by omega
      go_enter Tryz.func96, Tryz.ntmps96
      go_wp2_with (go_at_call 152; refine HI.out.mono ?_; rintro e w' ⟨rfl, rfl⟩)
      go_ret
      exact ⟨ret_int HR.out.symm, rfl⟩
/-- Within keys and steps it says how the key alters the step. -/
theorem Alter_any (k s : Int) (w : World) (h0 : 0 ≤ s) (h1 : s ≤ 6) (hk : keyB k = true) (hS : EnvS w) : Calls Tryz.prog 39 #[.int .i64 k, .int .i64 s] w fun e w' => e = .returned (.tuple #[.int .i64 (altI k s), .int .i64 0]) ∧ w = w' := by
  have HA := Lib.hid (kalter_any k s w h0 h1 hk hS)
  have HK := Lib.hid (show ∀ w, Calls Tryz.prog 95 #[.int .i64 k] w fun e w' => e = .returned (.bool true) ∧ w = w' from fun w => by have := isKey_any k w; rwa [show inB k (-7) 7 = true from hk] at this)
  have h2 : ¬ s < 0 := by omega
  have h3 : ¬ 7 ≤ s := by omega
  clear hS hk
  go_enter Tryz.func39, Tryz.ntmps39
  go_wp2_with (first | (go_at_call 95; refine (HK.out _).mono ?_; rintro e w' ⟨rfl, rfl⟩) | (go_at_call 96; refine HA.out.mono ?_; rintro e w' ⟨rfl, rfl⟩))
  go_ret2
  exact ⟨rfl, rfl⟩
end Go.Proofs.YtppjbnnnppffaaaGreatDoor


/- Where in what a part plays a note of its view stands, and how both are altered; no condition. -/
namespace Go.Proofs.YtppjbnnnppffaaaGreatDoor
set_option linter.unusedSimpArgs false
set_option linter.unusedVariables false
open Go.RowKit Go.Sort

theorem scales_me {s : Sc} (hvs : validS s = true) {p : Pa} (hp : p ∈ s.parts) {ms : List Me} (e : ms.map Me.says = viewL s p) :
    ms.length = s.bars.length ∧ sumK ms ms.length = (playedL s p).length ∧ ∀ k (h1 : k < s.bars.length) (h2 : k < ms.length), keyB s.bars[k].key = true ∧ keyB ms[k].key = true ∧ sumK ms k + ms[k].notes.length ≤ (playedL s p).length ∧
      ∀ j (hj : j < ms[k].notes.length) (hjl : sumK ms k + j < (playedL s p).length), ((playedL s p)[sumK ms k + j].pitch.a = altI s.bars[k].key (playedL s p)[sumK ms k + j].pitch.s ↔ ms[k].notes[j].pitch.a = altI ms[k].key ms[k].notes[j].pitch.s) ∧ (0 ≤ (playedL s p)[sumK ms k + j].pitch.s ∧ (playedL s p)[sumK ms k + j].pitch.s ≤ 6) ∧ (0 ≤ ms[k].notes[j].pitch.s ∧ ms[k].notes[j].pitch.s ≤ 6) := by
  have v := scV hvs
  obtain ⟨hl, hme⟩ := view_me e
  have hsd := view_sounds hvs hp
  obtain ⟨p', _, hp', hS, _⟩ := sounds_zero (s := s) (part := p.id) (l := viewL s p) (by rw [hsd])
  rw [partAt_mem v.parts hp] at hp'
  cases hp'
  rw [hsd] at hS
  have hL : playedL s p = sndK p s.bars (ms.map Me.says) ms.length := by
    have h9 : playedL s p = sndK p s.bars (viewL s p) (viewL s p).length := hS
    rw [view_len] at h9
    rw [e, hl]; exact h9
  refine ⟨hl, ?_, fun k h1 h2 => ?_⟩
  · rw [← sndM_len (p := p) hl ms.length (Nat.le_refl _), ← hL]
  · obtain ⟨a1, a2⟩ := sndM_at (p := p) hl hL h1 h2
    obtain ⟨c1, c2, _⟩ := hme k h2 h1
    have hb := List.getElem_mem h1
    refine ⟨(v.key _ hb).1, ?_, a1, fun j hj hjl => ?_⟩
    · rw [c2]
      have hw := written_ok v hp
      have hk := (v.key _ hb).1
      have hs : shiftB p.shift = true := by simp only [writtenB, Bool.and_eq_true] at hw; exact hw.1.1.1
      have e0 : keyR p s.bars[k].key = (mvK p s.bars[k].key, 0) := by unfold keyR; rw [hw, hk]; rfl
      rw [e0]; exact (move_ok hs hk).2.1
    · have hj' : j < (inBar s.bars[k] (playedL s p)).length := by rw [c1] at hj; unfold barW at hj; rw [List.length_map] at hj; exact hj
      have hn := List.getElem_mem hj'
      generalize hnn : (inBar s.bars[k] (playedL s p))[j] = n at hn
      have ew : ms[k].notes[j] = writtenW p s.bars[k] n := by
        have : ms[k].notes[j] = (barW s p s.bars[k])[j]'(by rw [← c1]; exact hj) := by simp only [c1]
        rw [this]
        unfold barW
        rw [List.getElem_map, hnn]
      have e1 := a2 j hj hjl
      have e2 : (playedL s p)[sumK ms k + j].pitch = n.pitch := by
        rw [e1, ew]
        show (soundR p s.bars[k].key (writtenW p s.bars[k] n).pitch).1 = n.pitch
        rw [(written_says v hp hb hn).2.2.2.2]
      obtain ⟨s1, s2, s3, _⟩ := scale_written v hp hb hn
      rw [e2, ew, c2]
      exact ⟨s1, s2, s3⟩
end Go.Proofs.YtppjbnnnppffaaaGreatDoor


/- The law ViewScales: what it rests on; its inner loop: walked. -/
namespace Go.Proofs.YtppjbnnnppffaaaGreatDoor
set_option linter.unusedSimpArgs false
set_option linter.unusedVariables false
open Go.RowKit Go.Sort Go.Shelf

noncomputable def scalesBody (i : Nat) : Code := ((Tryz.f12.body.map loopsOf).getD []).getD i .skip
/-- What the inner loop of ViewScales rests on. -/
structure SlL (L : List No) (al : Option Addr) (M : Me) (b : Ba) (C mb sb k bb boff nb cb : Nat) (wo : World) : Prop where
  m : wo.heap[mb]? = some (.cells #[.int .i64 M.bar, .int .i64 M.key, .int .i64 M.len.n, .int .i64 M.len.d, .slice M.na M.notes.length M.ncap] 65)
  s1 : wo.cell? ⟨sb, 1, none⟩ = some (.slice (some ⟨bb, boff, none⟩) nb cb)
  s2 : wo.cell? ⟨bb, boff + k * 4 + 3, none⟩ = some (.int .i64 b.key)
  kn : k < nb
  l : ∀ W, Below wo.heap.size wo W → NoAt W al L
  n : ∀ W, Below wo.heap.size wo W → WrAt W M.na M.notes
  len : C + M.notes.length ≤ L.length
  few : L.length ≤ 50000
  nf : nb ≤ 1000
  al1 : ∀ j (hj : j < M.notes.length) W, Below wo.heap.size wo W → Calls Tryz.prog 39 #[.int .i64 b.key, .int .i64 (L[C + j]'(by omega)).pitch.s] W fun e w' => e = .returned (.tuple #[.int .i64 (altI b.key (L[C + j]'(by omega)).pitch.s), .int .i64 0]) ∧ Below W.heap.size W w'
  al2 : ∀ j (hj : j < M.notes.length) W, Below wo.heap.size wo W → Calls Tryz.prog 39 #[.int .i64 M.key, .int .i64 M.notes[j].pitch.s] W fun e w' => e = .returned (.tuple #[.int .i64 (altI M.key M.notes[j].pitch.s), .int .i64 0]) ∧ Below W.heap.size W w'
  iff_ : ∀ j (hj : j < M.notes.length), ((L[C + j]'(by omega)).pitch.a = altI b.key (L[C + j]'(by omega)).pitch.s ↔ M.notes[j].pitch.a = altI M.key M.notes[j].pitch.s)
set_option maxRecDepth 1000000 in
set_option maxHeartbeats 8000000 in
theorem scales2_any {L : List No} {al : Option Addr} {M : Me} {b : Ba} {C mb sb k bb boff nb cb : Nat} {wo : World} (X0 : SlL L al M b C mb sb k bb boff nb cb wo) (capl : Nat)
    (bn offn bl offl : Nat) (hna : M.notes ≠ [] → M.na = some ⟨bn, offn, none⟩) (hla : L ≠ [] → al = some ⟨bl, offl, none⟩) {s0 s1 s3 s4 s6 s7 s8 s10 s14 s15 s16 s17 s18 s19 s20 s21 s22 s23 s24 s25 s26 s27 s28 s29 s30 s31 s32 s33 s34 s35 s36 s37 s38 s39 s40 s41 s42 s43 s44 s45 s46 s47 s48 s49 s50 s51 s52 s53 s54 s55 s56 s57 s58 s59 s60 s61 s62 s63 s64 s65 s66 s67 s68 s69 s70 s71 s72 s73 s74 s75 s76 s77 s81 s82 s83 s84 s85 s86 s87 s88 s89 s90 s91 s92 s93 s94 s95 s96 s97 s98 s99 s100 s101 s102 s103 s104 s105 s106 s107 s108 s109 s110 s111 s112 s113 s114 s115 s116 s117 s118 s119 s120 s121 s122 s123 s124 s125 s126 s127 s128 s129 s130 s131 s132 s133 s134 s135 s136 s137 s138 s139 s140 s141 s142 s143 s144 s145 s146 s147 s148 : Value} (Q : Exit → Act → World → Prop)
    (hexit : ∀ (t4 t15 t16 t17 t18 t19 t80 t81 t82 t83 t84 t85 t86 t87 t88 t89 t90 t91 t92 t93 t94 t95 t96 t97 t98 t99 t100 t101 t102 t103 t104 t105 t106 t107 t108 t109 t110 t111 t112 t113 t114 t115 t116 t117 t118 t119 t120 t121 t122 t123 t124 t125 t126 t127 t128 t129 t130 t131 t132 t133 t134 t135 t136 t137 t138 t139 t140 : Value) (W' : World), Below wo.heap.size wo W' → Q (.exit 2) ⟨(List.toArray (s0 :: s1 :: .pointer (some ⟨sb, 0, none⟩) :: s3 :: t4 :: .bool true :: s6 :: s7 :: s8 :: .slice al L.length capl :: s10 :: .int .i64 ((C + M.notes.length : Nat) : Int) :: .int .i64 k :: .pointer (some ⟨mb, 0, none⟩) :: s14 :: t15 :: t16 :: t17 :: t18 :: t19 :: s20 :: s21 :: s22 :: s23 :: s24 :: s25 :: s26 :: s27 :: s28 :: s29 :: s30 :: s31 :: s32 :: s33 :: s34 :: s35 :: s36 :: s37 :: s38 :: s39 :: s40 :: s41 :: s42 :: s43 :: s44 :: s45 :: s46 :: s47 :: s48 :: s49 :: s50 :: s51 :: s52 :: s53 :: s54 :: s55 :: s56 :: s57 :: s58 :: s59 :: s60 :: s61 :: s62 :: s63 :: s64 :: s65 :: s66 :: s67 :: s68 :: s69 :: s70 :: s71 :: s72 :: s73 :: s74 :: s75 :: s76 :: s77 :: .slice M.na M.notes.length M.ncap :: .int .i64 M.notes.length :: t80 :: t81 :: t82 :: t83 :: t84 :: t85 :: t86 :: t87 :: t88 :: t89 :: t90 :: t91 :: t92 :: t93 :: t94 :: t95 :: t96 :: t97 :: t98 :: t99 :: t100 :: t101 :: t102 :: t103 :: t104 :: t105 :: t106 :: t107 :: t108 :: t109 :: t110 :: t111 :: t112 :: t113 :: t114 :: t115 :: t116 :: t117 :: t118 :: t119 :: t120 :: t121 :: t122 :: t123 :: t124 :: t125 :: t126 :: t127 :: t128 :: t129 :: t130 :: t131 :: t132 :: t133 :: t134 :: t135 :: t136 :: t137 :: t138 :: t139 :: t140 :: s141 :: s142 :: s143 :: s144 :: s145 :: s146 :: s147 :: s148 :: List.nil)), []⟩ W') :
    Code.wp Tryz.prog (Code.loop (scalesBody 1)) Q ⟨(List.toArray (s0 :: s1 :: .pointer (some ⟨sb, 0, none⟩) :: s3 :: s4 :: .bool true :: s6 :: s7 :: s8 :: .slice al L.length capl :: s10 :: .int .i64 (C : Int) :: .int .i64 k :: .pointer (some ⟨mb, 0, none⟩) :: s14 :: s15 :: s16 :: s17 :: s18 :: s19 :: s20 :: s21 :: s22 :: s23 :: s24 :: s25 :: s26 :: s27 :: s28 :: s29 :: s30 :: s31 :: s32 :: s33 :: s34 :: s35 :: s36 :: s37 :: s38 :: s39 :: s40 :: s41 :: s42 :: s43 :: s44 :: s45 :: s46 :: s47 :: s48 :: s49 :: s50 :: s51 :: s52 :: s53 :: s54 :: s55 :: s56 :: s57 :: s58 :: s59 :: s60 :: s61 :: s62 :: s63 :: s64 :: s65 :: s66 :: s67 :: s68 :: s69 :: s70 :: s71 :: s72 :: s73 :: s74 :: s75 :: s76 :: s77 :: .slice M.na M.notes.length M.ncap :: .int .i64 M.notes.length :: .int .i64 0 :: s81 :: s82 :: s83 :: s84 :: s85 :: s86 :: s87 :: s88 :: s89 :: s90 :: s91 :: s92 :: s93 :: s94 :: s95 :: s96 :: s97 :: s98 :: s99 :: s100 :: s101 :: s102 :: s103 :: s104 :: s105 :: s106 :: s107 :: s108 :: s109 :: s110 :: s111 :: s112 :: s113 :: s114 :: s115 :: s116 :: s117 :: s118 :: s119 :: s120 :: s121 :: s122 :: s123 :: s124 :: s125 :: s126 :: s127 :: s128 :: s129 :: s130 :: s131 :: s132 :: s133 :: s134 :: s135 :: s136 :: s137 :: s138 :: s139 :: s140 :: s141 :: s142 :: s143 :: s144 :: s145 :: s146 :: s147 :: s148 :: List.nil)), []⟩ wo := by
  have HX := Lib.hid X0; have HQ := Lib.hid hexit
  have hlen := X0.len; have hfew := X0.few; have hkn := X0.kn; have hnf := X0.nf
  clear X0 hexit
  conv => arg 2; arg 1; whnf
  go_loopw [5, 11, 80] (fun s5 s11 i wi => ∃ j : Nat, j ≤ M.notes.length ∧ i = .int .i64 j ∧ s11 = .int .i64 ((C + j : Nat) : Int) ∧ s5 = .bool true ∧ Below wo.heap.size wo wi) (fun _ _ i _ => M.notes.length - (intOf i).toNat)
  case atStart => exact ⟨0, Nat.zero_le _, rfl, rfl, rfl, Below.refl _ _⟩
  case round =>
    obtain ⟨j, hj, rfl, rfl, rfl, hbe⟩ := hrel
    have HB := Lib.hid hbe
    clear hbe
    by_cases hlt : j < M.notes.length
    · have hqa := hna (fun e => by rw [e] at hlt; simp at hlt)
      have hcl : C + j < L.length := by omega
      have hqb := hla (fun e => by rw [e] at hcl; simp at hcl)
      obtain ⟨b', off', e', hbn, c0, c1, c2, c3, c4, c5, c6, c7, c8, c9⟩ := (HX.out.n _ HB.out).get j hlt
      rw [hqa] at e'
      cases e'
      obtain ⟨b', off', e', hbl, d0, d1, d2, d3, d4, d5, d6, d7, d8, d9, d10, d11⟩ := (HX.out.l _ HB.out).get (C + j) hcl
      rw [hqb] at e'
      cases e'
      have hiff := HX.out.iff_ j hlt
      have HA1 := Lib.hid (HX.out.al1 j hlt); have HA2 := Lib.hid (HX.out.al2 j hlt)
      have hm := blk_keep HX.out.m HB.out; have k1 := keepE HX.out.s1 HB.out; have k2 := keepE HX.out.s2 HB.out
      have HNo := Lib.hid hqa; have HLa := Lib.hid hqb; clear hqa hqb d0 d1 d2 d3 d4 d5 d6 d7 d8 d11
      rw [HNo.out] at hm
      rw [HNo.out, HLa.out]
      have hbool : ((L[C + j]).pitch.a == altI b.key (L[C + j]).pitch.s) = (M.notes[j].pitch.a == altI M.key M.notes[j].pitch.s) := by
        rw [Bool.eq_iff_iff]; simpa using hiff
      clear hiff
      generalize M.notes[j] = wn at *
      generalize L[C + j] = ln at *
      obtain ⟨n1, n2, n3, n4, n5, n6, n7, n8⟩ := ln
      dsimp only at *
      generalize altI b.key n8.s = A1 at *
      generalize altI M.key wn.pitch.s = A2 at *
      generalize hmm : C + j = m at *
      have HMm := Lib.hid hmm; clear hmm
      have hcm := box_cells hm
      go_upto_region 16 with (fail)
      have HX5 := Lib.hid (heap_alloc_new wr (.cells #[.int .i64 wn.id, .int .i64 wn.voice, .int .i64 wn.ossia, .int .i64 wn.start.n, .int .i64 wn.start.d, .int .i64 wn.len.n, .int .i64 wn.len.d, .int .i64 wn.pitch.s, .int .i64 wn.pitch.a, .int .i64 wn.pitch.o] 68))
      have hb := (Below.refl wr.heap.size wr).alloc (Nat.le_refl _) (.cells #[.int .i64 wn.id, .int .i64 wn.voice, .int .i64 wn.ossia, .int .i64 wn.start.n, .int .i64 wn.start.d, .int .i64 wn.len.n, .int .i64 wn.len.d, .int .i64 wn.pitch.s, .int .i64 wn.pitch.a, .int .i64 wn.pitch.o] 68)
      have hszr := HB.out.size
      replace hm := blk_keep hm hb; replace k1 := keepE k1 hb; replace k2 := keepE k2 hb; replace HB := Lib.hid (HB.out.trans (hb.mono hszr))
      replace d9 := keepE d9 hb; replace d10 := keepE d10 hb
      clear hb c0 c1 c2 c3 c4 c5 c6 c7 c8 c9 hcm
      generalize wr.alloc (.cells #[.int .i64 wn.id, .int .i64 wn.voice, .int .i64 wn.ossia, .int .i64 wn.start.n, .int .i64 wn.start.d, .int .i64 wn.len.n, .int .i64 wn.len.d, .int .i64 wn.pitch.s, .int .i64 wn.pitch.a, .int .i64 wn.pitch.o] 68) = W1 at *
      generalize wr.heap.size = xb at *
      have hgl : ¬ ((L.length : Int) ≤ (m : Int)) := by omega
      have hgl2 : (m : Int) < (L.length : Int) := by omega
      go_upto_region 18 with (fail)
      have HKp := Lib.hid (And.intro d9 (And.intro d10 hm))
      have HBq := Lib.hid HB.out
      have g1 := cell_regrown k1; have g2 := cell_regrown k2; have g9 := cell_regrown d9
      refine wp_quietB (by kernel_rfl) (by kernel_rfl) ?_
      (repeat (go_big_quiet_step ((go_at_call 39; refine Calls.regrown_of (HA1.out _ (HBq.out.trans ((below_regrown _ _ _).mono HBq.out.size)))))))
      refine wpQuiet_nil ?_
      intro w5 hb
      clear g1 g2 g9 k1 k2 d9 d10 hm
      obtain ⟨d9, d10, hm⟩ := HKp.out
      replace hm := blk_keep hm hb; replace HX5 := Lib.hid (blk_keep HX5.out hb); replace d9 := keepE d9 hb; replace d10 := keepE d10 hb
      replace HB := Lib.hid (HB.out.trans (hb.mono HB.out.size))
      clear hb HKp HBq HA1
      have hcm := box_cells hm; have hc5 := box_cells HX5.out
      go_upto_region 20 with (go_at_call 39; refine (HA2.out _ HB.out).mono ?_; rintro e w6 ⟨rfl, hb⟩; replace hm := blk_keep hm hb; replace HX5 := Lib.hid (blk_keep HX5.out hb); replace d9 := keepE d9 hb; replace d10 := keepE d10 hb; replace HB := Lib.hid (HB.out.trans (hb.mono HB.out.size)); clear hb hcm hc5; have hcm := box_cells hm; have hc5 := box_cells HX5.out)
      clear HA2
      cases hx : (n8.a == A1)
      · have hy : (wn.pitch.a == A2) = false := by rw [← hbool]; exact hx
        clear hbool
        go_quiet (fail)
        go_wp2
        exact ⟨⟨j + 1, by omega, by go_num, by rw [show C + (j + 1) = m + 1 by have := HMm.out; omega]; go_num, rfl, below_drewN HB.out nq⟩, by simp [intOf]; omega⟩
      · have hy : (wn.pitch.a == A2) = true := by rw [← hbool]; exact hx
        clear hbool
        go_quiet (fail)
        go_wp2
        exact ⟨⟨j + 1, by omega, by go_num, by rw [show C + (j + 1) = m + 1 by have := HMm.out; omega]; go_num, rfl, below_drewN HB.out nq⟩, by simp [intOf]; omega⟩
    · obtain rfl : j = M.notes.length := by omega
      go_wp2
      exact HQ.out _ _ _ _ _ _ _ _ _ _ _ _ _ _ _ _ _ _ _ _ _ _ _ _ _ _ _ _ _ _ _ _ _ _ _ _ _ _ _ _ _ _ _ _ _ _ _ _ _ _ _ _ _ _ _ _ _ _ _ _ _ _ _ _ _ _ _ wr HB.out
end Go.Proofs.YtppjbnnnppffaaaGreatDoor


/- The law ViewScales: walked. -/
namespace Go.Proofs.YtppjbnnnppffaaaGreatDoor
set_option linter.unusedSimpArgs false
set_option linter.unusedVariables false
open Go.RowKit Go.Sort Go.Shelf

set_option maxRecDepth 100000 in
set_option maxHeartbeats 8000000 in
theorem ViewScales_any (s : Sc) (q : Sp) (i : Nat) (w : World) (hs : ScAt w s q) (hE : Env w) (hSh : EnvS w) (hi1 : i ≤ 255) : Calls Tryz.prog 12 #[.agg #[.int .i64 s.version, .slice q.ab s.bars.length q.cb, .slice q.ap s.parts.length q.cp, .slice q.an s.notes.length q.cn], .int .u8 i] w fun e w' => e = .returned (.bool true) ∧ Below w.heap.size w w' := by
  have HS := Lib.hid hs; have HE := Lib.hid hE; have HSh := Lib.hid hSh
  obtain ⟨ab, cb, ap, cp, an, cn⟩ := q
  have HX1 := Lib.hid (heap_alloc_new w (.cells #[.int .i64 s.version, .slice (⟨ab, cb, ap, cp, an, cn⟩ : Sp).ab s.bars.length (⟨ab, cb, ap, cp, an, cn⟩ : Sp).cb, .slice (⟨ab, cb, ap, cp, an, cn⟩ : Sp).ap s.parts.length (⟨ab, cb, ap, cp, an, cn⟩ : Sp).cp, .slice (⟨ab, cb, ap, cp, an, cn⟩ : Sp).an s.notes.length (⟨ab, cb, ap, cp, an, cn⟩ : Sp).cn] 26))
  have HB := Lib.hid ((Below.refl w.heap.size w).alloc (Nat.le_refl _) (.cells #[.int .i64 s.version, .slice (⟨ab, cb, ap, cp, an, cn⟩ : Sp).ab s.bars.length (⟨ab, cb, ap, cp, an, cn⟩ : Sp).cb, .slice (⟨ab, cb, ap, cp, an, cn⟩ : Sp).ap s.parts.length (⟨ab, cb, ap, cp, an, cn⟩ : Sp).cp, .slice (⟨ab, cb, ap, cp, an, cn⟩ : Sp).an s.notes.length (⟨ab, cb, ap, cp, an, cn⟩ : Sp).cn] 26))
  have HFw := Lib.hid (fun W => RFew8_any s (⟨ab, cb, ap, cp, an, cn⟩ : Sp) W)
  clear hs hE hSh
  dsimp only at *
  cases hfw : few8 s
  · rw [hfw] at HFw
    clear hfw
    go_enter Tryz.func12, Tryz.ntmps12; go_upto_region 1 with (fail); generalize w.alloc (.cells #[.int .i64 s.version, .slice (⟨ab, cb, ap, cp, an, cn⟩ : Sp).ab s.bars.length (⟨ab, cb, ap, cp, an, cn⟩ : Sp).cb, .slice (⟨ab, cb, ap, cp, an, cn⟩ : Sp).ap s.parts.length (⟨ab, cb, ap, cp, an, cn⟩ : Sp).cp, .slice (⟨ab, cb, ap, cp, an, cn⟩ : Sp).an s.notes.length (⟨ab, cb, ap, cp, an, cn⟩ : Sp).cn] 26) = W at *; have hc1 := box_cells HX1.out
    go_wp2_with (first | (go_at_call 21; refine (head14_any _ (HE.out.below HB.out)).mono ?_; rintro e w2 ⟨rfl, hb⟩; (try replace hb := drewB hb); replace HB := Lib.hid (HB.out.trans (hb.mono HB.out.size)); (try (replace HX1 := Lib.hid (blk_keep HX1.out hb); replace hc1 := box_cells HX1.out; replace hf1 := box_free HX1.out; replace hz1 := lt_blk HX1.out)); (try (replace HX3 := Lib.hid (blk_keep HX3.out hb); replace hc3 := box_cells HX3.out; replace hf3 := box_free HX3.out; replace hz3 := lt_blk HX3.out)); (try (replace HX10 := Lib.hid (blk_keep HX10.out hb); replace hc10 := box_cells HX10.out; replace hf10 := box_free HX10.out; replace hz10 := lt_blk HX10.out)); clear hb) | (go_at_call 22; refine (HFw.out _).mono ?_; rintro e w2 ⟨rfl, hb⟩; (try replace hb := drewB hb); replace HB := Lib.hid (HB.out.trans (hb.mono HB.out.size)); (try (replace HX1 := Lib.hid (blk_keep HX1.out hb); replace hc1 := box_cells HX1.out; replace hf1 := box_free HX1.out; replace hz1 := lt_blk HX1.out)); (try (replace HX3 := Lib.hid (blk_keep HX3.out hb); replace hc3 := box_cells HX3.out; replace hf3 := box_free HX3.out; replace hz3 := lt_blk HX3.out)); (try (replace HX10 := Lib.hid (blk_keep HX10.out hb); replace hc10 := box_cells HX10.out; replace hf10 := box_free HX10.out; replace hz10 := lt_blk HX10.out)); clear hb))
    go_ret
    exact ⟨rfl, HB.out⟩
  have hf := few8_few hfw
  rw [hfw] at HFw
  have HVs := Lib.hid (fun W (hb : Below w.heap.size w W) => RValid8_any s (⟨ab, cb, ap, cp, an, cn⟩ : Sp) W hf (HS.out.below hb))
  cases hvs : validS s
  · rw [hvs] at HVs
    clear hfw hvs hf
    go_enter Tryz.func12, Tryz.ntmps12; go_upto_region 1 with (fail); generalize w.alloc (.cells #[.int .i64 s.version, .slice (⟨ab, cb, ap, cp, an, cn⟩ : Sp).ab s.bars.length (⟨ab, cb, ap, cp, an, cn⟩ : Sp).cb, .slice (⟨ab, cb, ap, cp, an, cn⟩ : Sp).ap s.parts.length (⟨ab, cb, ap, cp, an, cn⟩ : Sp).cp, .slice (⟨ab, cb, ap, cp, an, cn⟩ : Sp).an s.notes.length (⟨ab, cb, ap, cp, an, cn⟩ : Sp).cn] 26) = W at *; have hc1 := box_cells HX1.out
    go_wp2_with (first | (go_at_call 21; refine (head14_any _ (HE.out.below HB.out)).mono ?_; rintro e w2 ⟨rfl, hb⟩; (try replace hb := drewB hb); replace HB := Lib.hid (HB.out.trans (hb.mono HB.out.size)); (try (replace HX1 := Lib.hid (blk_keep HX1.out hb); replace hc1 := box_cells HX1.out; replace hf1 := box_free HX1.out; replace hz1 := lt_blk HX1.out)); (try (replace HX3 := Lib.hid (blk_keep HX3.out hb); replace hc3 := box_cells HX3.out; replace hf3 := box_free HX3.out; replace hz3 := lt_blk HX3.out)); (try (replace HX10 := Lib.hid (blk_keep HX10.out hb); replace hc10 := box_cells HX10.out; replace hf10 := box_free HX10.out; replace hz10 := lt_blk HX10.out)); clear hb) | (go_at_call 22; refine (HFw.out _).mono ?_; rintro e w2 ⟨rfl, hb⟩; (try replace hb := drewB hb); replace HB := Lib.hid (HB.out.trans (hb.mono HB.out.size)); (try (replace HX1 := Lib.hid (blk_keep HX1.out hb); replace hc1 := box_cells HX1.out; replace hf1 := box_free HX1.out; replace hz1 := lt_blk HX1.out)); (try (replace HX3 := Lib.hid (blk_keep HX3.out hb); replace hc3 := box_cells HX3.out; replace hf3 := box_free HX3.out; replace hz3 := lt_blk HX3.out)); (try (replace HX10 := Lib.hid (blk_keep HX10.out hb); replace hc10 := box_cells HX10.out; replace hf10 := box_free HX10.out; replace hz10 := lt_blk HX10.out)); clear hb) | (go_at_call 32; refine (HVs.out _ HB.out).mono ?_; rintro e w2 ⟨rfl, hb⟩; (try replace hb := drewB hb); replace HB := Lib.hid (HB.out.trans (hb.mono HB.out.size)); (try (replace HX1 := Lib.hid (blk_keep HX1.out hb); replace hc1 := box_cells HX1.out; replace hf1 := box_free HX1.out; replace hz1 := lt_blk HX1.out)); (try (replace HX3 := Lib.hid (blk_keep HX3.out hb); replace hc3 := box_cells HX3.out; replace hf3 := box_free HX3.out; replace hz3 := lt_blk HX3.out)); (try (replace HX10 := Lib.hid (blk_keep HX10.out hb); replace hc10 := box_cells HX10.out; replace hf10 := box_free HX10.out; replace hz10 := lt_blk HX10.out)); clear hb))
    go_ret
    exact ⟨rfl, HB.out⟩
  rw [hvs] at HVs
  have v := scV hvs
  obtain ⟨ip, hip, hri, hri2, hri3⟩ := mod_lt v.some_ i
  have hwi : IntKind.i64.wrap (i : Int) = (i : Int) := IntWalk.i64_in _ (by omega)
  have hn0 : ((s.parts.length : Int) == 0) = false := by have := v.some_; simp; intro e; rw [e] at this; simp at this
  have hn1 : ¬ s.parts = [] := fun e => by have := v.some_; rw [e] at this; simp at this
  have hnp := hf.parts
  have HHf := Lib.hid hf; have HHv := Lib.hid v; have HHs := Lib.hid hvs
  clear hfw hvs hf v
  go_enter Tryz.func12, Tryz.ntmps12; go_upto_region 1 with (fail); generalize w.alloc (.cells #[.int .i64 s.version, .slice (⟨ab, cb, ap, cp, an, cn⟩ : Sp).ab s.bars.length (⟨ab, cb, ap, cp, an, cn⟩ : Sp).cb, .slice (⟨ab, cb, ap, cp, an, cn⟩ : Sp).ap s.parts.length (⟨ab, cb, ap, cp, an, cn⟩ : Sp).cp, .slice (⟨ab, cb, ap, cp, an, cn⟩ : Sp).an s.notes.length (⟨ab, cb, ap, cp, an, cn⟩ : Sp).cn] 26) = W at *; have hc1 := box_cells HX1.out
  go_upto_region 4 with (first | (go_at_call 21; refine (head14_any _ (HE.out.below HB.out)).mono ?_; rintro e w2 ⟨rfl, hb⟩; (try replace hb := drewB hb); replace HB := Lib.hid (HB.out.trans (hb.mono HB.out.size)); (try (replace HX1 := Lib.hid (blk_keep HX1.out hb); replace hc1 := box_cells HX1.out; replace hf1 := box_free HX1.out; replace hz1 := lt_blk HX1.out)); (try (replace HX3 := Lib.hid (blk_keep HX3.out hb); replace hc3 := box_cells HX3.out; replace hf3 := box_free HX3.out; replace hz3 := lt_blk HX3.out)); (try (replace HX10 := Lib.hid (blk_keep HX10.out hb); replace hc10 := box_cells HX10.out; replace hf10 := box_free HX10.out; replace hz10 := lt_blk HX10.out)); clear hb) | (go_at_call 22; refine (HFw.out _).mono ?_; rintro e w2 ⟨rfl, hb⟩; (try replace hb := drewB hb); replace HB := Lib.hid (HB.out.trans (hb.mono HB.out.size)); (try (replace HX1 := Lib.hid (blk_keep HX1.out hb); replace hc1 := box_cells HX1.out; replace hf1 := box_free HX1.out; replace hz1 := lt_blk HX1.out)); (try (replace HX3 := Lib.hid (blk_keep HX3.out hb); replace hc3 := box_cells HX3.out; replace hf3 := box_free HX3.out; replace hz3 := lt_blk HX3.out)); (try (replace HX10 := Lib.hid (blk_keep HX10.out hb); replace hc10 := box_cells HX10.out; replace hf10 := box_free HX10.out; replace hz10 := lt_blk HX10.out)); clear hb) | (go_at_call 32; refine (HVs.out _ HB.out).mono ?_; rintro e w2 ⟨rfl, hb⟩; (try replace hb := drewB hb); replace HB := Lib.hid (HB.out.trans (hb.mono HB.out.size)); (try (replace HX1 := Lib.hid (blk_keep HX1.out hb); replace hc1 := box_cells HX1.out; replace hf1 := box_free HX1.out; replace hz1 := lt_blk HX1.out)); (try (replace HX3 := Lib.hid (blk_keep HX3.out hb); replace hc3 := box_cells HX3.out; replace hf3 := box_free HX3.out; replace hz3 := lt_blk HX3.out)); (try (replace HX10 := Lib.hid (blk_keep HX10.out hb); replace hc10 := box_cells HX10.out; replace hf10 := box_free HX10.out; replace hz10 := lt_blk HX10.out)); clear hb))
  obtain ⟨b, off, hqa, _, e0, e1, e2, e3, e4, e5, e6, e7, e8, e9, e10, e11, e12⟩ := (HS.out.parts.below HB.out).get ip hip
  have hqa2 : ap = some ⟨b, off, none⟩ := hqa
  subst hqa2
  clear hqa
  have hl1 : (ip : Int) < (s.parts.length : Int) := by omega
  have HPm := Lib.hid (List.getElem_mem hip)
  generalize s.parts[ip] = p at *
  generalize hWW : (w2 : World) = WW at *
  go_cut [6] from 7 (fun s6 V => ∃ pb, s6 = .pointer (some ⟨pb, 0, none⟩) ∧ V.heap[pb]? = some (.cells #[.int .i64 p.id, .int .i64 p.section_, .int .i64 p.of, .int .i64 p.octave, .int .i64 p.desks, .int .i64 p.shift.x, .int .i64 p.shift.y, .int .i64 p.low.s, .int .i64 p.low.a, .int .i64 p.low.o, .int .i64 p.high.s, .int .i64 p.high.a, .int .i64 p.high.o] 59) ∧ Below WW.heap.size WW V)
  case first =>
    have k2 : WW.cell? ⟨w.heap.size, 2, none⟩ = some (.slice (some ⟨b, off, none⟩) s.parts.length cp) := hc1 2
    have KS := Lib.hid (fun W (hb : RowKit.Below WW.heap.size WW W) => show W.cell? ⟨w.heap.size, 2, none⟩ = some (.slice (some ⟨b, off, none⟩) s.parts.length cp) ∧ W.cell? ⟨b, off + ip * 13, none⟩ = some (.int .i64 p.id) ∧ W.cell? ⟨b, off + ip * 13 + 1, none⟩ = some (.int .i64 p.section_) ∧ W.cell? ⟨b, off + ip * 13 + 2, none⟩ = some (.int .i64 p.of) ∧ W.cell? ⟨b, off + ip * 13 + 3, none⟩ = some (.int .i64 p.octave) ∧ W.cell? ⟨b, off + ip * 13 + 4, none⟩ = some (.int .i64 p.desks) ∧ W.cell? ⟨b, off + ip * 13 + 5, none⟩ = some (.int .i64 p.shift.x) ∧ W.cell? ⟨b, off + ip * 13 + 6, none⟩ = some (.int .i64 p.shift.y) ∧ W.cell? ⟨b, off + ip * 13 + 7, none⟩ = some (.int .i64 p.low.s) ∧ W.cell? ⟨b, off + ip * 13 + 8, none⟩ = some (.int .i64 p.low.a) ∧ W.cell? ⟨b, off + ip * 13 + 9, none⟩ = some (.int .i64 p.low.o) ∧ W.cell? ⟨b, off + ip * 13 + 10, none⟩ = some (.int .i64 p.high.s) ∧ W.cell? ⟨b, off + ip * 13 + 11, none⟩ = some (.int .i64 p.high.a) ∧ W.cell? ⟨b, off + ip * 13 + 12, none⟩ = some (.int .i64 p.high.o) from ⟨keepE k2 hb, keepE e0 hb, keepE e1 hb, keepE e2 hb, keepE e3 hb, keepE e4 hb, keepE e5 hb, keepE e6 hb, keepE e7 hb, keepE e8 hb, keepE e9 hb, keepE e10 hb, keepE e11 hb, keepE e12 hb⟩)
    clear k2 e0 e1 e2 e3 e4 e5 e6 e7 e8 e9 e10 e11 e12
    go_region_held3 (fun W => W.cell? ⟨w.heap.size, 2, none⟩ = some (.slice (some ⟨b, off, none⟩) s.parts.length cp) ∧ W.cell? ⟨b, off + ip * 13, none⟩ = some (.int .i64 p.id) ∧ W.cell? ⟨b, off + ip * 13 + 1, none⟩ = some (.int .i64 p.section_) ∧ W.cell? ⟨b, off + ip * 13 + 2, none⟩ = some (.int .i64 p.of) ∧ W.cell? ⟨b, off + ip * 13 + 3, none⟩ = some (.int .i64 p.octave) ∧ W.cell? ⟨b, off + ip * 13 + 4, none⟩ = some (.int .i64 p.desks) ∧ W.cell? ⟨b, off + ip * 13 + 5, none⟩ = some (.int .i64 p.shift.x) ∧ W.cell? ⟨b, off + ip * 13 + 6, none⟩ = some (.int .i64 p.shift.y) ∧ W.cell? ⟨b, off + ip * 13 + 7, none⟩ = some (.int .i64 p.low.s) ∧ W.cell? ⟨b, off + ip * 13 + 8, none⟩ = some (.int .i64 p.low.a) ∧ W.cell? ⟨b, off + ip * 13 + 9, none⟩ = some (.int .i64 p.low.o) ∧ W.cell? ⟨b, off + ip * 13 + 10, none⟩ = some (.int .i64 p.high.s) ∧ W.cell? ⟨b, off + ip * 13 + 11, none⟩ = some (.int .i64 p.high.a) ∧ W.cell? ⟨b, off + ip * 13 + 12, none⟩ = some (.int .i64 p.high.o))
      ((refine KS.out _ ?_; (repeat (first | with_reducible exact RowKit.Below.refl _ _ | with_reducible refine RowKit.Below.drew ?_ | with_reducible refine RowKit.Below.alloc ?_ (by simp <;> omega) _ | with_reducible refine RowKit.Below.setCell ?_ (by simp <;> omega) _))))
      (fail)
    all_goals
      go_wp2
      go_meet
      case rel => exact ⟨_, rfl, (by first | exact heap_alloc_new _ _ | exact up_alloc (heap_alloc_new _ _) _), ((RowKit.Below.refl _ _).alloc (Nat.le_refl _) _).drew⟩
  case rest =>
    obtain ⟨pb, rfl, hxp, hb⟩ := hcut
    have HXp := Lib.hid hxp
    replace HX1 := Lib.hid (blk_keep HX1.out hb); replace HB := Lib.hid (HB.out.trans (hb.mono HB.out.size))
    clear hxp hb hc1 hf1 hz1 e0 e1 e2 e3 e4 e5 e6 e7 e8 e9 e10 e11 e12 hri hri2 hri3 hwi hn0 hn1 hl1
    have HG1 := Lib.hid (fun W (hb : Below w.heap.size w W) => show Calls Tryz.prog 24 #[.agg #[.int .i64 s.version, .slice (⟨ab, cb, some ⟨b, off, none⟩, cp, an, cn⟩ : Sp).ab s.bars.length (⟨ab, cb, some ⟨b, off, none⟩, cp, an, cn⟩ : Sp).cb, .slice (⟨ab, cb, some ⟨b, off, none⟩, cp, an, cn⟩ : Sp).ap s.parts.length (⟨ab, cb, some ⟨b, off, none⟩, cp, an, cn⟩ : Sp).cp, .slice (⟨ab, cb, some ⟨b, off, none⟩, cp, an, cn⟩ : Sp).an s.notes.length (⟨ab, cb, some ⟨b, off, none⟩, cp, an, cn⟩ : Sp).cn], .int .i64 p.id] W (RetVE p.id (viewL s p) 0 W) from by have := VGet_any s ⟨ab, cb, some ⟨b, off, none⟩, cp, an, cn⟩ p.id W HHf.out (HS.out.below hb) (HE.out.below hb); rwa [get_mem HHs.out HPm.out] at this)
    have HPl := Lib.hid (fun W (hb : Below w.heap.size w W) => show Calls Tryz.prog 33 #[.agg #[.int .i64 s.version, .slice (⟨ab, cb, some ⟨b, off, none⟩, cp, an, cn⟩ : Sp).ab s.bars.length (⟨ab, cb, some ⟨b, off, none⟩, cp, an, cn⟩ : Sp).cb, .slice (⟨ab, cb, some ⟨b, off, none⟩, cp, an, cn⟩ : Sp).ap s.parts.length (⟨ab, cb, some ⟨b, off, none⟩, cp, an, cn⟩ : Sp).cp, .slice (⟨ab, cb, some ⟨b, off, none⟩, cp, an, cn⟩ : Sp).an s.notes.length (⟨ab, cb, some ⟨b, off, none⟩, cp, an, cn⟩ : Sp).cn], .int .i64 p.id] W (RetNE (playedL s p) 0 W) from by have := SPlays_any s ⟨ab, cb, some ⟨b, off, none⟩, cp, an, cn⟩ p.id W HHf.out (HS.out.below hb) (HE.out.below hb); rwa [plays_mem HHs.out HPm.out] at this)
    have HSc := Lib.hid (fun (A : List Me) (eA : A.map Me.says = viewL s p) => scales_me HHs.out HPm.out eA)
    have HFe := Lib.hid (fun (A : List Me) (eA : A.map Me.says = viewL s p) => says_few HHf.out eA)
    have hLf := played_few HHf.out p
    have hbf := HHf.out.bars
    have HBa := Lib.hid HS.out.bars
    clear HHf HHv HHs HPm hip hnp
    dsimp only at *
    generalize playedL s p = L at *
    have hc1 := box_cells HX1.out; have hcp := box_cells HXp.out
    go_upto_region 6 with (go_at_call 24; refine (HG1.out _ HB.out).mono ?_; rintro e w3 ⟨a3, c3, A, rfl, hok3, hme3, hsy3, hb⟩; (try replace hb := drewB hb); replace HXp := Lib.hid (blk_keep HXp.out hb); replace hcp := box_cells HXp.out; (try replace hb := drewB hb); replace HB := Lib.hid (HB.out.trans (hb.mono HB.out.size)); (try (replace HX1 := Lib.hid (blk_keep HX1.out hb); replace hc1 := box_cells HX1.out; replace hf1 := box_free HX1.out; replace hz1 := lt_blk HX1.out)); (try (replace HX3 := Lib.hid (blk_keep HX3.out hb); replace hc3 := box_cells HX3.out; replace hf3 := box_free HX3.out; replace hz3 := lt_blk HX3.out)); (try (replace HX10 := Lib.hid (blk_keep HX10.out hb); replace hc10 := box_cells HX10.out; replace hf10 := box_free HX10.out; replace hz10 := lt_blk HX10.out)); clear hb)
    have HX3 := Lib.hid (heap_alloc_new w3 (.cells #[.int .i64 p.id, .slice a3 A.length c3] 44))
    have hb := (Below.refl w3.heap.size w3).alloc (Nat.le_refl _) (.cells #[.int .i64 p.id, .slice a3 A.length c3] 44)
    have HM3 := Lib.hid (hme3.below hb); have HY3 := Lib.hid hsy3
    clear hme3 hsy3 hok3
    (try replace hb := drewB hb); replace HXp := Lib.hid (blk_keep HXp.out hb); replace hcp := box_cells HXp.out; (try replace hb := drewB hb); replace HB := Lib.hid (HB.out.trans (hb.mono HB.out.size)); (try (replace HX1 := Lib.hid (blk_keep HX1.out hb); replace hc1 := box_cells HX1.out; replace hf1 := box_free HX1.out; replace hz1 := lt_blk HX1.out)); (try (replace HX3 := Lib.hid (blk_keep HX3.out hb); replace hc3 := box_cells HX3.out; replace hf3 := box_free HX3.out; replace hz3 := lt_blk HX3.out)); (try (replace HX10 := Lib.hid (blk_keep HX10.out hb); replace hc10 := box_cells HX10.out; replace hf10 := box_free HX10.out; replace hz10 := lt_blk HX10.out)); clear hb
    generalize w3.alloc (.cells #[.int .i64 p.id, .slice a3 A.length c3] 44) = W3 at *
    have hc3 := box_cells HX3.out; have hf3 := box_free HX3.out; have hz3 := lt_blk HX3.out
    generalize w3.heap.size = xb3 at *
    obtain ⟨hlen, hsum, hsc⟩ := HSc.out A HY3.out
    obtain ⟨hAl, hAn⟩ := HFe.out A HY3.out
    have HEm := Lib.hid hsc; have HLn := Lib.hid hlen; have HSu := Lib.hid hsum; have HAn := Lib.hid hAn
    have hln2 : ((A.length : Int) != (s.bars.length : Int)) = false := by simp; omega
    clear hsc hlen hsum hAn HSc HFe HG1
    go_upto_region 9 with (go_at_call 33; refine (HPl.out _ HB.out).mono ?_; rintro e w5 ⟨am, capm, rfl, hokm, hnm, hb⟩; replace HM3 := Lib.hid (HM3.out.below hb); have HNm := Lib.hid hnm; clear hnm hokm; (try replace hb := drewB hb); replace HXp := Lib.hid (blk_keep HXp.out hb); replace hcp := box_cells HXp.out; (try replace hb := drewB hb); replace HB := Lib.hid (HB.out.trans (hb.mono HB.out.size)); (try (replace HX1 := Lib.hid (blk_keep HX1.out hb); replace hc1 := box_cells HX1.out; replace hf1 := box_free HX1.out; replace hz1 := lt_blk HX1.out)); (try (replace HX3 := Lib.hid (blk_keep HX3.out hb); replace hc3 := box_cells HX3.out; replace hf3 := box_free HX3.out; replace hz3 := lt_blk HX3.out)); (try (replace HX10 := Lib.hid (blk_keep HX10.out hb); replace hc10 := box_cells HX10.out; replace hf10 := box_free HX10.out; replace hz10 := lt_blk HX10.out)); clear hb)
    have HW5 := Lib.hid HB.out
    obtain ⟨bl, offl, hbl⟩ := no_addr HNm.out
    go_upto_region 10 with (fail)
    clear HB HPl
    go_wp2
    clear hc1 hf1 hz1 hcp hc3 hf3 hz3 hln2
    go_loopw [5, 11, 72] (fun s5 s11 s72 wi => ∃ k : Nat, k ≤ A.length ∧ s72 = .int .i64 k ∧ s11 = .int .i64 (sumK A k : Nat) ∧ s5 = .bool true ∧ Below w5.heap.size w5 wi) (fun _ _ s72 _ => A.length - (intOf s72).toNat)
    case atStart => exact ⟨0, Nat.zero_le _, rfl, by simp [sumK], rfl, Below.refl _ _⟩
    case round =>
      obtain ⟨kk, hk, rfl, rfl, rfl, hbe⟩ := hrel
      have HBe := Lib.hid hbe
      clear hbe
      by_cases hlt : kk < A.length
      · have hltb : kk < s.bars.length := by have := HLn.out; omega
        obtain ⟨hk1, hk2, hle, hiff⟩ := HEm.out kk hltb hlt
        obtain ⟨b1, o1, hqa, _, c0, c1, c2, c3', c4⟩ := (HM3.out.below HBe.out).get kk hlt
        subst hqa
        obtain ⟨bb, boff, hqb, _, _, _, _, d3⟩ := (HBa.out.below (HW5.out.trans (HBe.out.mono HW5.out.size))).get kk hltb
        have hab : ab = some ⟨bb, boff, none⟩ := hqb
        subst hab
        clear hqb
        have HMk := Lib.hid (fun W (hb : Below w5.heap.size w5 W) => ((HM3.out.below hb).notes _ (List.getElem_mem hlt)))
        have HFk := Lib.hid (HAn.out _ (List.getElem_mem hlt))
        have HSk := Lib.hid (sumK_succ hlt)
        have hK1 : wr.cell? ⟨w.heap.size, 1, none⟩ = some (.slice (some ⟨bb, boff, none⟩) s.bars.length cb) := box_cells (blk_keep HX1.out HBe.out) 1
        generalize A[kk] = M at *
        generalize s.bars[kk] = bar at *
        generalize sumK A kk = C at *
        have HIf := Lib.hid hiff; have HKs := Lib.hid (And.intro hk1 hk2); have HLe := Lib.hid hle
        clear hk1 hk2 hle hiff
        go_upto_region 13 with (fail)
        have HXm := Lib.hid (heap_alloc_new wr (.cells #[.int .i64 M.bar, .int .i64 M.key, .int .i64 M.len.n, .int .i64 M.len.d, .slice M.na M.notes.length M.ncap] 65))
        have hb := (Below.refl wr.heap.size wr).alloc (Nat.le_refl _) (.cells #[.int .i64 M.bar, .int .i64 M.key, .int .i64 M.len.n, .int .i64 M.len.d, .slice M.na M.notes.length M.ncap] 65)
        replace HBe := Lib.hid (HBe.out.trans (hb.mono HBe.out.size)); replace hK1 := keepE hK1 hb; replace d3 := keepE d3 hb
        clear hb c0 c1 c2 c3' c4
        generalize wr.alloc (.cells #[.int .i64 M.bar, .int .i64 M.key, .int .i64 M.len.n, .int .i64 M.len.d, .slice M.na M.notes.length M.ncap] 65) = W6 at *
        generalize wr.heap.size = mb at *
        obtain ⟨bx, ox, hbx⟩ := WrAt.addr (HMk.out w5 (Below.refl _ _))
        have hSz := HBe.out.size
        have HEw := Lib.hid (fun W (hb : Below W6.heap.size W6 W) => show EnvS W from HSh.out.below (HW5.out.trans ((HBe.out.trans (hb.mono hSz)).mono HW5.out.size)))
        have HV := Lib.hid (show SlL L am M bar C mb w.heap.size kk bb boff s.bars.length cb W6 from ⟨HXm.out, hK1, d3, hltb, fun W hb => HNm.out.below (HBe.out.trans (hb.mono hSz)), fun W hb => HMk.out W (HBe.out.trans (hb.mono hSz)), HLe.out, by omega, hbf,
          fun j hj W hb => by
            obtain ⟨_, s2, _⟩ := HIf.out j hj (by have := HLe.out; omega)
            exact (Alter_any _ _ W s2.1 s2.2 HKs.out.1 (HEw.out W hb)).mono (fun e w' ⟨h1, h2⟩ => ⟨h1, h2 ▸ Below.refl _ _⟩),
          fun j hj W hb => by
            obtain ⟨_, _, s3⟩ := HIf.out j hj (by have := HLe.out; omega)
            exact (Alter_any _ _ W s3.1 s3.2 HKs.out.2 (HEw.out W hb)).mono (fun e w' ⟨h1, h2⟩ => ⟨h1, h2 ▸ Below.refl _ _⟩),
          fun j hj => (HIf.out j hj (by have := HLe.out; omega)).1⟩)
        clear hK1 d3
        have hcm := box_cells HXm.out
        go_wp2
        refine scales2_any HV.out capm bx ox bl offl hbx hbl _ ?_
        intro t4 t15 t16 t17 t18 t19 t80 t81 t82 t83 t84 t85 t86 t87 t88 t89 t90 t91 t92 t93 t94 t95 t96 t97 t98 t99 t100 t101 t102 t103 t104 t105 t106 t107 t108 t109 t110 t111 t112 t113 t114 t115 t116 t117 t118 t119 t120 t121 t122 t123 t124 t125 t126 t127 t128 t129 t130 t131 t132 t133 t134 t135 t136 t137 t138 t139 t140 W' hb
        have HBw := Lib.hid hb
        clear hb hcm
        go_wp2
        exact ⟨⟨kk + 1, by omega, by go_num, by rw [HSk.out], rfl, HBe.out.trans (HBw.out.mono hSz)⟩, by simp [intOf]; omega⟩
      · obtain rfl : kk = A.length := by omega
        have hd : ((sumK A A.length : Nat) : Int) = (L.length : Int) := by rw [HSu.out]
        have HD := Lib.hid hd
        generalize sumK A A.length = S0 at *
        obtain rfl : S0 = L.length := by have := HD.out; omega
        clear hd
        go_wp2
        go_ret
        exact ⟨rfl, HW5.out.trans (HBe.out.mono HW5.out.size)⟩
end Go.Proofs.YtppjbnnnppffaaaGreatDoor
