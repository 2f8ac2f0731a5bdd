/- Texts of this seat, laid together: ScL14g, ScL14h. -/
import Derived.Test.YtppjbnnnppffaaaGreatDoorSO
import Derived.Test.YtppjbnnnppffaaaGreatDoorEL6
import Derived.IntWalk

/- The law ViewEqual: what it rests on; its inner loop: walked. -/
namespace Go.Proofs.YtppjbnnnppffaaaGreatDoor
set_option linter.unusedSimpArgs false
set_option linter.unusedVariables false
open Go.RowKit Go.Sort Go.Shelf

theorem eql_wr_self (x : Wr) (w : World) : (binOp .eql 68 (.agg #[.int .i64 x.id, .int .i64 x.voice, .int .i64 x.ossia, .int .i64 x.start.n, .int .i64 x.start.d, .int .i64 x.len.n, .int .i64 x.len.d, .int .i64 x.pitch.s, .int .i64 x.pitch.a, .int .i64 x.pitch.o]) (.agg #[.int .i64 x.id, .int .i64 x.voice, .int .i64 x.ossia, .int .i64 x.start.n, .int .i64 x.start.d, .int .i64 x.len.n, .int .i64 x.len.d, .int .i64 x.pitch.s, .int .i64 x.pitch.a, .int .i64 x.pitch.o])).run Tryz.prog w = .ok (.bool true) w := by
  rw [run_eql_struct]
  simp [go_sem]
theorem neq_ivl (x y : Iv) (w : World) : (binOp .neq 55 (.agg #[.int .i64 x.x, .int .i64 x.y]) (.agg #[.int .i64 y.x, .int .i64 y.y])).run Tryz.prog w = .ok (.bool (!decide (x = y))) w := by
  rw [run_neq_struct]
  simp [go_sem]
  by_cases h0 : x.x = y.x
  case neg => simp [h0, show x ≠ y from fun e => h0 (by rw [e])]
  by_cases h1 : x.y = y.y
  case neg => simp [h0, h1, show x ≠ y from fun e => h1 (by rw [e])]
  have : x = y := by cases x; cases y; simp_all
  simp [h0, h1, this]
noncomputable def equalBody (i : Nat) : Code := ((Tryz.f7.body.map loopsOf).getD []).getD i .skip
theorem cell3z {w : World} {b c j : Nat} {u v0 v1 v2 : Value} (h : w.cell? ⟨b, j, none⟩ = some u) (hne : b ≠ c) : (((w.setCell ⟨c, 7, none⟩ v0).setCell ⟨c, 8, none⟩ v1).setCell ⟨c, 9, none⟩ v2).cell? ⟨b, j, none⟩ = some u :=
  (World.cell?_setCell_other _ _ _ _ (fun e => hne (by cases e; rfl))).trans ((World.cell?_setCell_other _ _ _ _ (fun e => hne (by cases e; rfl))).trans ((World.cell?_setCell_other _ _ _ _ (fun e => hne (by cases e; rfl))).trans h))
theorem set3_10 {w : World} {c : Nat} {a0 a1 a2 a3 a4 a5 a6 a7 a8 a9 v0 v1 v2 : Value} {T : TypeId} (h : w.heap[c]? = some (.cells #[a0, a1, a2, a3, a4, a5, a6, a7, a8, a9] T (0, 0))) : (((w.setCell ⟨c, 7, none⟩ v0).setCell ⟨c, 8, none⟩ v1).setCell ⟨c, 9, none⟩ v2).heap[c]? = some (.cells #[a0, a1, a2, a3, a4, a5, a6, v0, v1, v2] T (0, 0)) :=
  heap_setCell_same _ _ _ _ _ _ (heap_setCell_same _ _ _ _ _ _ (heap_setCell_same _ _ _ _ _ _ h))
/-- What the inner loop of ViewEqual rests on. -/
structure EqL (M N : Me) (p q : Pa) (pb qb : Nat) (wo : World) : Prop where
  px : wo.heap[pb]? = some (.cells #[.int .i64 p.id, .int .i64 p.section_, .int .i64 p.of, .int .i64 p.octave, .int .i64 p.desks, .int .i64 p.shift.x, .int .i64 p.shift.y, .int .i64 p.low.s, .int .i64 p.low.a, .int .i64 p.low.o, .int .i64 p.high.s, .int .i64 p.high.a, .int .i64 p.high.o] 59)
  qx : wo.heap[qb]? = some (.cells #[.int .i64 q.id, .int .i64 q.section_, .int .i64 q.of, .int .i64 q.octave, .int .i64 q.desks, .int .i64 q.shift.x, .int .i64 q.shift.y, .int .i64 q.low.s, .int .i64 q.low.a, .int .i64 q.low.o, .int .i64 q.high.s, .int .i64 q.high.a, .int .i64 q.high.o] 59)
  m : ∀ W, Below wo.heap.size wo W → WrAt W M.na M.notes
  n : ∀ W, Below wo.heap.size wo W → WrAt W N.na N.notes
  len : M.notes.length = N.notes.length
  few : M.notes.length ≤ 100000
  eq : ∀ j (h1 : j < M.notes.length) (h2 : j < N.notes.length), soundI N.notes[j].pitch - soundI M.notes[j].pitch = 12 * (q.octave - p.octave) ∧ ({ N.notes[j] with pitch := M.notes[j].pitch } : Wr) = M.notes[j] ∧ vldP N.notes[j].pitch = true ∧ vldP M.notes[j].pitch = true
  oct : (-2 ≤ p.octave ∧ p.octave ≤ 2) ∧ -2 ≤ q.octave ∧ q.octave ≤ 2
set_option maxRecDepth 1000000 in
set_option maxHeartbeats 8000000 in
theorem equal2_any {M N : Me} {p q : Pa} {pb qb : Nat} {wo : World} (X0 : EqL M N p q pb qb wo)
    (bn offn bl offl : Nat) (hna : M.notes ≠ [] → M.na = some ⟨bn, offn, none⟩) (hla : N.notes ≠ [] → N.na = some ⟨bl, offl, none⟩) {s0 s1 s2 s3 s4 s5 s6 s10 s11 s12 s13 s14 s17 s18 s19 s20 s21 s22 s23 s24 s25 s26 s27 s28 s29 s30 s31 s32 s33 s34 s35 s36 s37 s38 s39 s40 s41 s42 s43 s44 s45 s46 s47 s48 s49 s50 s51 s52 s53 s54 s55 s56 s57 s58 s59 s60 s61 s62 s63 s64 s65 s66 s67 s68 s69 s70 s71 s72 s73 s74 s75 s76 s77 s78 s79 s80 s81 s82 s83 s84 s85 s86 s87 s88 s89 s90 s91 s92 s93 s94 s95 s96 s97 s98 s99 s100 s101 s102 s103 s104 s105 s106 s107 s108 s109 s110 s111 s112 s113 s114 s115 s116 s117 s118 s119 s120 s121 s122 s123 s124 s125 s126 s127 s128 s129 s132 s133 s134 s135 s136 s137 s138 s139 s140 s141 s142 s143 s144 s145 s146 s147 s148 s149 s150 s151 s152 s153 s154 s155 s156 s157 s158 s159 s160 s161 s162 s163 s164 s165 s166 s167 s168 s169 s170 s171 s172 s173 s174 s175 s176 s177 s178 s179 s180 s181 s182 s183 s184 s185 s186 s187 s188 s189 s190 s191 s192 : Value} (Q : Exit → Act → World → Prop)
    (hexit : ∀ (t17 t18 t132 t133 t134 t135 t136 t137 t138 t139 t140 t141 t142 t143 t144 t145 t146 t147 t148 t149 t150 t151 t152 t153 t154 t155 t156 t157 t158 t159 t160 t161 t162 t163 t164 t165 t166 t167 t168 t169 t170 t171 t172 t173 t174 t175 t176 : Value) (W' : World), Below wo.heap.size wo W' → Q (.exit 2) ⟨(List.toArray (s0 :: s1 :: s2 :: s3 :: s4 :: s5 :: s6 :: .bool true :: .pointer (some ⟨pb, 0, none⟩) :: .pointer (some ⟨qb, 0, none⟩) :: s10 :: s11 :: s12 :: s13 :: s14 :: .slice M.na M.notes.length M.ncap :: .slice N.na N.notes.length N.ncap :: t17 :: t18 :: s19 :: s20 :: s21 :: s22 :: s23 :: s24 :: s25 :: s26 :: s27 :: s28 :: s29 :: s30 :: s31 :: s32 :: s33 :: s34 :: s35 :: s36 :: s37 :: s38 :: s39 :: s40 :: s41 :: s42 :: s43 :: s44 :: s45 :: s46 :: s47 :: s48 :: s49 :: s50 :: s51 :: s52 :: s53 :: s54 :: s55 :: s56 :: s57 :: s58 :: s59 :: s60 :: s61 :: s62 :: s63 :: s64 :: s65 :: s66 :: s67 :: s68 :: s69 :: s70 :: s71 :: s72 :: s73 :: s74 :: s75 :: s76 :: s77 :: s78 :: s79 :: s80 :: s81 :: s82 :: s83 :: s84 :: s85 :: s86 :: s87 :: s88 :: s89 :: s90 :: s91 :: s92 :: s93 :: s94 :: s95 :: s96 :: s97 :: s98 :: s99 :: s100 :: s101 :: s102 :: s103 :: s104 :: s105 :: s106 :: s107 :: s108 :: s109 :: s110 :: s111 :: s112 :: s113 :: s114 :: s115 :: s116 :: s117 :: s118 :: s119 :: s120 :: s121 :: s122 :: s123 :: s124 :: s125 :: s126 :: s127 :: s128 :: s129 :: .int .i64 M.notes.length :: .int .i64 M.notes.length :: t132 :: t133 :: t134 :: t135 :: t136 :: t137 :: t138 :: t139 :: t140 :: t141 :: t142 :: t143 :: t144 :: t145 :: t146 :: t147 :: t148 :: t149 :: t150 :: t151 :: t152 :: t153 :: t154 :: t155 :: t156 :: t157 :: t158 :: t159 :: t160 :: t161 :: t162 :: t163 :: t164 :: t165 :: t166 :: t167 :: t168 :: t169 :: t170 :: t171 :: t172 :: t173 :: t174 :: t175 :: t176 :: s177 :: s178 :: s179 :: s180 :: s181 :: s182 :: s183 :: s184 :: s185 :: s186 :: s187 :: s188 :: s189 :: s190 :: s191 :: s192 :: List.nil)), []⟩ W') :
    Code.wp Tryz.prog (Code.loop (equalBody 1)) Q ⟨(List.toArray (s0 :: s1 :: s2 :: s3 :: s4 :: s5 :: s6 :: .bool true :: .pointer (some ⟨pb, 0, none⟩) :: .pointer (some ⟨qb, 0, none⟩) :: s10 :: s11 :: s12 :: s13 :: s14 :: .slice M.na M.notes.length M.ncap :: .slice N.na N.notes.length N.ncap :: s17 :: s18 :: s19 :: s20 :: s21 :: s22 :: s23 :: s24 :: s25 :: s26 :: s27 :: s28 :: s29 :: s30 :: s31 :: s32 :: s33 :: s34 :: s35 :: s36 :: s37 :: s38 :: s39 :: s40 :: s41 :: s42 :: s43 :: s44 :: s45 :: s46 :: s47 :: s48 :: s49 :: s50 :: s51 :: s52 :: s53 :: s54 :: s55 :: s56 :: s57 :: s58 :: s59 :: s60 :: s61 :: s62 :: s63 :: s64 :: s65 :: s66 :: s67 :: s68 :: s69 :: s70 :: s71 :: s72 :: s73 :: s74 :: s75 :: s76 :: s77 :: s78 :: s79 :: s80 :: s81 :: s82 :: s83 :: s84 :: s85 :: s86 :: s87 :: s88 :: s89 :: s90 :: s91 :: s92 :: s93 :: s94 :: s95 :: s96 :: s97 :: s98 :: s99 :: s100 :: s101 :: s102 :: s103 :: s104 :: s105 :: s106 :: s107 :: s108 :: s109 :: s110 :: s111 :: s112 :: s113 :: s114 :: s115 :: s116 :: s117 :: s118 :: s119 :: s120 :: s121 :: s122 :: s123 :: s124 :: s125 :: s126 :: s127 :: s128 :: s129 :: .int .i64 M.notes.length :: .int .i64 0 :: s132 :: s133 :: s134 :: s135 :: s136 :: s137 :: s138 :: s139 :: s140 :: s141 :: s142 :: s143 :: s144 :: s145 :: s146 :: s147 :: s148 :: s149 :: s150 :: s151 :: s152 :: s153 :: s154 :: s155 :: s156 :: s157 :: s158 :: s159 :: s160 :: s161 :: s162 :: s163 :: s164 :: s165 :: s166 :: s167 :: s168 :: s169 :: s170 :: s171 :: s172 :: s173 :: s174 :: s175 :: s176 :: s177 :: s178 :: s179 :: s180 :: s181 :: s182 :: s183 :: s184 :: s185 :: s186 :: s187 :: s188 :: s189 :: s190 :: s191 :: s192 :: List.nil)), []⟩ wo := by
  have HX := Lib.hid X0; have HQ := Lib.hid hexit
  have hfew := X0.few
  have HLn := Lib.hid X0.len
  have hoct := X0.oct
  clear X0 hexit
  conv => arg 2; arg 1; whnf
  go_loopw [7, 131] (fun s7 i wi => ∃ j : Nat, j ≤ M.notes.length ∧ i = .int .i64 j ∧ s7 = .bool true ∧ Below wo.heap.size wo wi) (fun _ i _ => M.notes.length - (intOf i).toNat)
  case atStart => exact ⟨0, Nat.zero_le _, rfl, rfl, Below.refl _ _⟩
  case round =>
    obtain ⟨j, hj, rfl, rfl, hbe⟩ := hrel
    have HB := Lib.hid hbe
    clear hbe
    by_cases hlt : j < M.notes.length
    · have hlt2 : j < N.notes.length := by have := HLn.out; omega
      have hqa := hna (fun e => by rw [e] at hlt; simp at hlt)
      have hqb := hla (fun e => by rw [e] at hlt2; simp at hlt2)
      obtain ⟨b', off', e', hbn, c0, c1, c2, c3, c4, c5, c6, c7, c8, c9⟩ := (HX.out.m _ HB.out).get j hlt
      rw [hqa] at e'
      cases e'
      obtain ⟨b', off', e', hbl, d0, d1, d2, d3, d4, d5, d6, d7, d8, d9⟩ := (HX.out.n _ HB.out).get j hlt2
      rw [hqb] at e'
      cases e'
      obtain ⟨heq, hzz, hv1, hv2⟩ := HX.out.eq j hlt hlt2
      have HNo := Lib.hid hqa; have HLa := Lib.hid hqb; clear hqa hqb
      rw [HNo.out, HLa.out]
      have HNl := Lib.hid (show (j : Int) < (N.notes.length : Int) by omega)
      generalize M.notes[j] = xw at *
      generalize N.notes[j] = yw at *
      have z0 := congrArg Wr.id hzz
      have z1 := congrArg Wr.voice hzz
      have z2 := congrArg Wr.ossia hzz
      have z3 := congrArg Wr.start hzz
      have z4 := congrArg Wr.len hzz
      dsimp only at z0 z1 z2 z3 z4
      rw [z0] at d0; rw [z1] at d1; rw [z2] at d2; rw [z3] at d3 d4; rw [z4] at d5 d6
      clear z0 z1 z2 z3 z4 hzz
      generalize yw.pitch = yp at *
      clear yw
      have hs1 := sound_bd hv1; have hs2 := sound_bd hv2
      have hgl := HNl.out
      have hpb := lt_blk HX.out.px; have hqb2 := lt_blk HX.out.qx
      have hsz := HB.out.size
      have HP := Lib.hid (HB.out.block _ hpb |>.trans HX.out.px); have HQq := Lib.hid (HB.out.block _ hqb2 |>.trans HX.out.qx)
      have hd : (soundI yp - soundI xw.pitch == 12 * (q.octave - p.octave)) = true := by simpa using heq
      have HV := Lib.hid (And.intro hv1 hv2)
      have hSd := fun (r : Pi) (h : vldP r = true) (W : World) => SoundP_any r h W
      clear heq
      go_upto_region 20 with (fail)
      have hcp := box_cells HP.out; have hcq := box_cells HQq.out
      have k3 := cell_regrown (show wr.cell? ⟨pb, 3, none⟩ = some (.int .i64 p.octave) from hcp 3); have q3 := cell_regrown (show wr.cell? ⟨qb, 3, none⟩ = some (.int .i64 q.octave) from hcq 3)
      have g7 := cell_regrown c7; have g8 := cell_regrown c8; have g9 := cell_regrown c9
      have r7 := cell_regrown d7; have r8 := cell_regrown d8; have r9 := cell_regrown d9
      refine wp_quietB (by kernel_rfl) (by kernel_rfl) ?_
      (repeat (go_big_quiet_step ((go_at_call 35; refine Calls.regrown_of (hSd _ (by assumption) _)))))
      refine wpQuiet_nil ?_
      intro w5 hb
      clear k3 q3 g7 g8 g9 r7 r8 r9 hcp hcq hd hSd hoct
      replace c0 := keepE c0 hb; replace c1 := keepE c1 hb; replace c2 := keepE c2 hb; replace c3 := keepE c3 hb; replace c4 := keepE c4 hb; replace c5 := keepE c5 hb; replace c6 := keepE c6 hb; replace c7 := keepE c7 hb; replace c8 := keepE c8 hb; replace c9 := keepE c9 hb; (try replace d0 := keepE d0 hb; replace d1 := keepE d1 hb; replace d2 := keepE d2 hb; replace d3 := keepE d3 hb; replace d4 := keepE d4 hb; replace d5 := keepE d5 hb; replace d6 := keepE d6 hb; replace d7 := keepE d7 hb; replace d8 := keepE d8 hb; replace d9 := keepE d9 hb)
      replace HB := Lib.hid (HB.out.trans (hb.mono hsz))
      have hsz5 := HB.out.size
      clear hb HP HQq hsz
      have hbn5 : bn < w5.heap.size := World.block_lt_of_cell? _ _ c0
      have hgl := HNl.out
      go_upto_region 22 with (fail)
      have HX5 := Lib.hid (heap_alloc_new w5 (.cells #[.int .i64 xw.id, .int .i64 xw.voice, .int .i64 xw.ossia, .int .i64 xw.start.n, .int .i64 xw.start.d, .int .i64 xw.len.n, .int .i64 xw.len.d, .int .i64 yp.s, .int .i64 yp.a, .int .i64 yp.o] 68))
      have hb := (Below.refl w5.heap.size w5).alloc (Nat.le_refl _) (.cells #[.int .i64 xw.id, .int .i64 xw.voice, .int .i64 xw.ossia, .int .i64 xw.start.n, .int .i64 xw.start.d, .int .i64 xw.len.n, .int .i64 xw.len.d, .int .i64 yp.s, .int .i64 yp.a, .int .i64 yp.o] 68)
      replace c0 := keepE c0 hb; replace c1 := keepE c1 hb; replace c2 := keepE c2 hb; replace c3 := keepE c3 hb; replace c4 := keepE c4 hb; replace c5 := keepE c5 hb; replace c6 := keepE c6 hb; replace c7 := keepE c7 hb; replace c8 := keepE c8 hb; replace c9 := keepE c9 hb; (try replace d0 := keepE d0 hb; replace d1 := keepE d1 hb; replace d2 := keepE d2 hb; replace d3 := keepE d3 hb; replace d4 := keepE d4 hb; replace d5 := keepE d5 hb; replace d6 := keepE d6 hb; replace d7 := keepE d7 hb; replace d8 := keepE d8 hb; replace d9 := keepE d9 hb)
      clear d0 d1 d2 d3 d4 d5 d6 d7 d8 d9
      replace HB := Lib.hid (HB.out.trans (hb.mono hsz5))
      clear hb
      generalize w5.alloc (.cells #[.int .i64 xw.id, .int .i64 xw.voice, .int .i64 xw.ossia, .int .i64 xw.start.n, .int .i64 xw.start.d, .int .i64 xw.len.n, .int .i64 xw.len.d, .int .i64 yp.s, .int .i64 yp.a, .int .i64 yp.o] 68) = W1 at *
      generalize w5.heap.size = zb at *
      have hx5 := lt_blk HX5.out
      have hc5 := box_cells HX5.out; have hf5 := box_free HX5.out
      have hne : bn ≠ zb := by omega
      go_upto_region 23 with (fail)
      have q1 := set3_10 (v0 := .int .i64 xw.pitch.s) (v1 := .int .i64 xw.pitch.a) (v2 := .int .i64 xw.pitch.o) HX5.out
      have q5 := ((HB.out.setCell (p := ⟨zb, 7, none⟩) hsz5 (.int .i64 xw.pitch.s)).setCell (p := ⟨zb, 8, none⟩) hsz5 (.int .i64 xw.pitch.a)).setCell (p := ⟨zb, 9, none⟩) hsz5 (.int .i64 xw.pitch.o)
      replace c0 := cell3z (v0 := .int .i64 xw.pitch.s) (v1 := .int .i64 xw.pitch.a) (v2 := .int .i64 xw.pitch.o) c0 hne; replace c1 := cell3z (v0 := .int .i64 xw.pitch.s) (v1 := .int .i64 xw.pitch.a) (v2 := .int .i64 xw.pitch.o) c1 hne; replace c2 := cell3z (v0 := .int .i64 xw.pitch.s) (v1 := .int .i64 xw.pitch.a) (v2 := .int .i64 xw.pitch.o) c2 hne; replace c3 := cell3z (v0 := .int .i64 xw.pitch.s) (v1 := .int .i64 xw.pitch.a) (v2 := .int .i64 xw.pitch.o) c3 hne; replace c4 := cell3z (v0 := .int .i64 xw.pitch.s) (v1 := .int .i64 xw.pitch.a) (v2 := .int .i64 xw.pitch.o) c4 hne; replace c5 := cell3z (v0 := .int .i64 xw.pitch.s) (v1 := .int .i64 xw.pitch.a) (v2 := .int .i64 xw.pitch.o) c5 hne; replace c6 := cell3z (v0 := .int .i64 xw.pitch.s) (v1 := .int .i64 xw.pitch.a) (v2 := .int .i64 xw.pitch.o) c6 hne; replace c7 := cell3z (v0 := .int .i64 xw.pitch.s) (v1 := .int .i64 xw.pitch.a) (v2 := .int .i64 xw.pitch.o) c7 hne; replace c8 := cell3z (v0 := .int .i64 xw.pitch.s) (v1 := .int .i64 xw.pitch.a) (v2 := .int .i64 xw.pitch.o) c8 hne; replace c9 := cell3z (v0 := .int .i64 xw.pitch.s) (v1 := .int .i64 xw.pitch.a) (v2 := .int .i64 xw.pitch.o) c9 hne
      clear hc5 hf5
      generalize ((W1.setCell ⟨zb, 7, none⟩ (.int .i64 xw.pitch.s)).setCell ⟨zb, 8, none⟩ (.int .i64 xw.pitch.a)).setCell ⟨zb, 9, none⟩ (.int .i64 xw.pitch.o) = V at *
      have HX6 := Lib.hid q1
      have HB2 := Lib.hid q5
      clear q1 q5 HB HX5
      have hc6 := box_cells HX6.out
      have hse := eql_wr_self xw
      go_quiet (fail)
      go_wp2
      exact ⟨⟨j + 1, by omega, by go_num, rfl, below_drewN HB2.out nq⟩, by simp [intOf]; omega⟩
    · obtain rfl : j = M.notes.length := by omega
      go_wp2
      exact HQ.out _ _ _ _ _ _ _ _ _ _ _ _ _ _ _ _ _ _ _ _ _ _ _ _ _ _ _ _ _ _ _ _ _ _ _ _ _ _ _ _ _ _ _ _ _ _ _ wr HB.out
end Go.Proofs.YtppjbnnnppffaaaGreatDoor


/- The law ViewEqual: walked. -/
namespace Go.Proofs.YtppjbnnnppffaaaGreatDoor
set_option linter.unusedSimpArgs false
set_option linter.unusedVariables false
open Go.RowKit Go.Sort Go.Shelf

set_option maxRecDepth 100000 in
set_option maxHeartbeats 8000000 in
theorem ViewEqual_any (s : Sc) (q : Sp) (i k : Nat) (w : World) (hs : ScAt w s q) (hE : Env w) (hi1 : i ≤ 255) (hk1 : k ≤ 255) : Calls Tryz.prog 7 #[.agg #[.int .i64 s.version, .slice q.ab s.bars.length q.cb, .slice q.ap s.parts.length q.cp, .slice q.an s.notes.length q.cn], .int .u8 i, .int .u8 k] w fun e w' => e = .returned (.bool true) ∧ Below w.heap.size w w' := by
  have HS := Lib.hid hs; have HE := Lib.hid hE
  obtain ⟨ab, cb, ap, cp, an, cn⟩ := q
  have HX1 := Lib.hid (heap_alloc_new w (.cells #[.int .i64 s.version, .slice (⟨ab, cb, ap, cp, an, cn⟩ : Sp).ab s.bars.length (⟨ab, cb, ap, cp, an, cn⟩ : Sp).cb, .slice (⟨ab, cb, ap, cp, an, cn⟩ : Sp).ap s.parts.length (⟨ab, cb, ap, cp, an, cn⟩ : Sp).cp, .slice (⟨ab, cb, ap, cp, an, cn⟩ : Sp).an s.notes.length (⟨ab, cb, ap, cp, an, cn⟩ : Sp).cn] 26))
  have HB := Lib.hid ((Below.refl w.heap.size w).alloc (Nat.le_refl _) (.cells #[.int .i64 s.version, .slice (⟨ab, cb, ap, cp, an, cn⟩ : Sp).ab s.bars.length (⟨ab, cb, ap, cp, an, cn⟩ : Sp).cb, .slice (⟨ab, cb, ap, cp, an, cn⟩ : Sp).ap s.parts.length (⟨ab, cb, ap, cp, an, cn⟩ : Sp).cp, .slice (⟨ab, cb, ap, cp, an, cn⟩ : Sp).an s.notes.length (⟨ab, cb, ap, cp, an, cn⟩ : Sp).cn] 26))
  have HFw := Lib.hid (fun W => RFew8_any s (⟨ab, cb, ap, cp, an, cn⟩ : Sp) W)
  clear hs hE
  dsimp only at *
  cases hfw : few8 s
  · rw [hfw] at HFw
    clear hfw
    go_enter Tryz.func7, Tryz.ntmps7; go_upto_region 1 with (fail); generalize w.alloc (.cells #[.int .i64 s.version, .slice (⟨ab, cb, ap, cp, an, cn⟩ : Sp).ab s.bars.length (⟨ab, cb, ap, cp, an, cn⟩ : Sp).cb, .slice (⟨ab, cb, ap, cp, an, cn⟩ : Sp).ap s.parts.length (⟨ab, cb, ap, cp, an, cn⟩ : Sp).cp, .slice (⟨ab, cb, ap, cp, an, cn⟩ : Sp).an s.notes.length (⟨ab, cb, ap, cp, an, cn⟩ : Sp).cn] 26) = W at *; have hc1 := box_cells HX1.out
    go_wp2_with (first | (go_at_call 21; refine (head14_any _ (HE.out.below HB.out)).mono ?_; rintro e w2 ⟨rfl, hb⟩; (try replace hb := drewB hb); replace HB := Lib.hid (HB.out.trans (hb.mono HB.out.size)); (try (replace HX1 := Lib.hid (blk_keep HX1.out hb); replace hc1 := box_cells HX1.out; replace hf1 := box_free HX1.out; replace hz1 := lt_blk HX1.out)); (try (replace HX3 := Lib.hid (blk_keep HX3.out hb); replace hc3 := box_cells HX3.out; replace hf3 := box_free HX3.out; replace hz3 := lt_blk HX3.out)); (try (replace HX4 := Lib.hid (blk_keep HX4.out hb); replace hc4 := box_cells HX4.out; replace hf4 := box_free HX4.out; replace hz4 := lt_blk HX4.out)); (try (replace HX10 := Lib.hid (blk_keep HX10.out hb); replace hc10 := box_cells HX10.out; replace hf10 := box_free HX10.out; replace hz10 := lt_blk HX10.out)); clear hb) | (go_at_call 22; refine (HFw.out _).mono ?_; rintro e w2 ⟨rfl, hb⟩; (try replace hb := drewB hb); replace HB := Lib.hid (HB.out.trans (hb.mono HB.out.size)); (try (replace HX1 := Lib.hid (blk_keep HX1.out hb); replace hc1 := box_cells HX1.out; replace hf1 := box_free HX1.out; replace hz1 := lt_blk HX1.out)); (try (replace HX3 := Lib.hid (blk_keep HX3.out hb); replace hc3 := box_cells HX3.out; replace hf3 := box_free HX3.out; replace hz3 := lt_blk HX3.out)); (try (replace HX4 := Lib.hid (blk_keep HX4.out hb); replace hc4 := box_cells HX4.out; replace hf4 := box_free HX4.out; replace hz4 := lt_blk HX4.out)); (try (replace HX10 := Lib.hid (blk_keep HX10.out hb); replace hc10 := box_cells HX10.out; replace hf10 := box_free HX10.out; replace hz10 := lt_blk HX10.out)); clear hb))
    go_ret
    exact ⟨rfl, HB.out⟩
  have hf := few8_few hfw
  rw [hfw] at HFw
  have HVs := Lib.hid (fun W (hb : Below w.heap.size w W) => RValid8_any s (⟨ab, cb, ap, cp, an, cn⟩ : Sp) W hf (HS.out.below hb))
  cases hvs : validS s
  · rw [hvs] at HVs
    clear hfw hvs hf
    go_enter Tryz.func7, Tryz.ntmps7; go_upto_region 1 with (fail); generalize w.alloc (.cells #[.int .i64 s.version, .slice (⟨ab, cb, ap, cp, an, cn⟩ : Sp).ab s.bars.length (⟨ab, cb, ap, cp, an, cn⟩ : Sp).cb, .slice (⟨ab, cb, ap, cp, an, cn⟩ : Sp).ap s.parts.length (⟨ab, cb, ap, cp, an, cn⟩ : Sp).cp, .slice (⟨ab, cb, ap, cp, an, cn⟩ : Sp).an s.notes.length (⟨ab, cb, ap, cp, an, cn⟩ : Sp).cn] 26) = W at *; have hc1 := box_cells HX1.out
    go_wp2_with (first | (go_at_call 21; refine (head14_any _ (HE.out.below HB.out)).mono ?_; rintro e w2 ⟨rfl, hb⟩; (try replace hb := drewB hb); replace HB := Lib.hid (HB.out.trans (hb.mono HB.out.size)); (try (replace HX1 := Lib.hid (blk_keep HX1.out hb); replace hc1 := box_cells HX1.out; replace hf1 := box_free HX1.out; replace hz1 := lt_blk HX1.out)); (try (replace HX3 := Lib.hid (blk_keep HX3.out hb); replace hc3 := box_cells HX3.out; replace hf3 := box_free HX3.out; replace hz3 := lt_blk HX3.out)); (try (replace HX4 := Lib.hid (blk_keep HX4.out hb); replace hc4 := box_cells HX4.out; replace hf4 := box_free HX4.out; replace hz4 := lt_blk HX4.out)); (try (replace HX10 := Lib.hid (blk_keep HX10.out hb); replace hc10 := box_cells HX10.out; replace hf10 := box_free HX10.out; replace hz10 := lt_blk HX10.out)); clear hb) | (go_at_call 22; refine (HFw.out _).mono ?_; rintro e w2 ⟨rfl, hb⟩; (try replace hb := drewB hb); replace HB := Lib.hid (HB.out.trans (hb.mono HB.out.size)); (try (replace HX1 := Lib.hid (blk_keep HX1.out hb); replace hc1 := box_cells HX1.out; replace hf1 := box_free HX1.out; replace hz1 := lt_blk HX1.out)); (try (replace HX3 := Lib.hid (blk_keep HX3.out hb); replace hc3 := box_cells HX3.out; replace hf3 := box_free HX3.out; replace hz3 := lt_blk HX3.out)); (try (replace HX4 := Lib.hid (blk_keep HX4.out hb); replace hc4 := box_cells HX4.out; replace hf4 := box_free HX4.out; replace hz4 := lt_blk HX4.out)); (try (replace HX10 := Lib.hid (blk_keep HX10.out hb); replace hc10 := box_cells HX10.out; replace hf10 := box_free HX10.out; replace hz10 := lt_blk HX10.out)); clear hb) | (go_at_call 32; refine (HVs.out _ HB.out).mono ?_; rintro e w2 ⟨rfl, hb⟩; (try replace hb := drewB hb); replace HB := Lib.hid (HB.out.trans (hb.mono HB.out.size)); (try (replace HX1 := Lib.hid (blk_keep HX1.out hb); replace hc1 := box_cells HX1.out; replace hf1 := box_free HX1.out; replace hz1 := lt_blk HX1.out)); (try (replace HX3 := Lib.hid (blk_keep HX3.out hb); replace hc3 := box_cells HX3.out; replace hf3 := box_free HX3.out; replace hz3 := lt_blk HX3.out)); (try (replace HX4 := Lib.hid (blk_keep HX4.out hb); replace hc4 := box_cells HX4.out; replace hf4 := box_free HX4.out; replace hz4 := lt_blk HX4.out)); (try (replace HX10 := Lib.hid (blk_keep HX10.out hb); replace hc10 := box_cells HX10.out; replace hf10 := box_free HX10.out; replace hz10 := lt_blk HX10.out)); clear hb))
    go_ret
    exact ⟨rfl, HB.out⟩
  rw [hvs] at HVs
  have v := scV hvs
  obtain ⟨ip, hip, hri, hri2, hri3⟩ := mod_lt v.some_ i
  obtain ⟨kp, hkp, hrk, hrk2, hrk3⟩ := mod_lt v.some_ k
  have hwi : IntKind.i64.wrap (i : Int) = (i : Int) := IntWalk.i64_in _ (by omega)
  have hwk : IntKind.i64.wrap (k : Int) = (k : Int) := IntWalk.i64_in _ (by omega)
  have hn0 : ((s.parts.length : Int) == 0) = false := by have := v.some_; simp; intro e; rw [e] at this; simp at this
  have hn1 : ¬ s.parts = [] := fun e => by have := v.some_; rw [e] at this; simp at this
  have hnp := hf.parts
  have HHf := Lib.hid hf; have HHv := Lib.hid v; have HHs := Lib.hid hvs
  clear hfw hvs hf v
  go_enter Tryz.func7, Tryz.ntmps7; go_upto_region 1 with (fail); generalize w.alloc (.cells #[.int .i64 s.version, .slice (⟨ab, cb, ap, cp, an, cn⟩ : Sp).ab s.bars.length (⟨ab, cb, ap, cp, an, cn⟩ : Sp).cb, .slice (⟨ab, cb, ap, cp, an, cn⟩ : Sp).ap s.parts.length (⟨ab, cb, ap, cp, an, cn⟩ : Sp).cp, .slice (⟨ab, cb, ap, cp, an, cn⟩ : Sp).an s.notes.length (⟨ab, cb, ap, cp, an, cn⟩ : Sp).cn] 26) = W at *; have hc1 := box_cells HX1.out
  go_upto_region 4 with (first | (go_at_call 21; refine (head14_any _ (HE.out.below HB.out)).mono ?_; rintro e w2 ⟨rfl, hb⟩; (try replace hb := drewB hb); replace HB := Lib.hid (HB.out.trans (hb.mono HB.out.size)); (try (replace HX1 := Lib.hid (blk_keep HX1.out hb); replace hc1 := box_cells HX1.out; replace hf1 := box_free HX1.out; replace hz1 := lt_blk HX1.out)); (try (replace HX3 := Lib.hid (blk_keep HX3.out hb); replace hc3 := box_cells HX3.out; replace hf3 := box_free HX3.out; replace hz3 := lt_blk HX3.out)); (try (replace HX4 := Lib.hid (blk_keep HX4.out hb); replace hc4 := box_cells HX4.out; replace hf4 := box_free HX4.out; replace hz4 := lt_blk HX4.out)); (try (replace HX10 := Lib.hid (blk_keep HX10.out hb); replace hc10 := box_cells HX10.out; replace hf10 := box_free HX10.out; replace hz10 := lt_blk HX10.out)); clear hb) | (go_at_call 22; refine (HFw.out _).mono ?_; rintro e w2 ⟨rfl, hb⟩; (try replace hb := drewB hb); replace HB := Lib.hid (HB.out.trans (hb.mono HB.out.size)); (try (replace HX1 := Lib.hid (blk_keep HX1.out hb); replace hc1 := box_cells HX1.out; replace hf1 := box_free HX1.out; replace hz1 := lt_blk HX1.out)); (try (replace HX3 := Lib.hid (blk_keep HX3.out hb); replace hc3 := box_cells HX3.out; replace hf3 := box_free HX3.out; replace hz3 := lt_blk HX3.out)); (try (replace HX4 := Lib.hid (blk_keep HX4.out hb); replace hc4 := box_cells HX4.out; replace hf4 := box_free HX4.out; replace hz4 := lt_blk HX4.out)); (try (replace HX10 := Lib.hid (blk_keep HX10.out hb); replace hc10 := box_cells HX10.out; replace hf10 := box_free HX10.out; replace hz10 := lt_blk HX10.out)); clear hb) | (go_at_call 32; refine (HVs.out _ HB.out).mono ?_; rintro e w2 ⟨rfl, hb⟩; (try replace hb := drewB hb); replace HB := Lib.hid (HB.out.trans (hb.mono HB.out.size)); (try (replace HX1 := Lib.hid (blk_keep HX1.out hb); replace hc1 := box_cells HX1.out; replace hf1 := box_free HX1.out; replace hz1 := lt_blk HX1.out)); (try (replace HX3 := Lib.hid (blk_keep HX3.out hb); replace hc3 := box_cells HX3.out; replace hf3 := box_free HX3.out; replace hz3 := lt_blk HX3.out)); (try (replace HX4 := Lib.hid (blk_keep HX4.out hb); replace hc4 := box_cells HX4.out; replace hf4 := box_free HX4.out; replace hz4 := lt_blk HX4.out)); (try (replace HX10 := Lib.hid (blk_keep HX10.out hb); replace hc10 := box_cells HX10.out; replace hf10 := box_free HX10.out; replace hz10 := lt_blk HX10.out)); clear hb))
  obtain ⟨b, off, hqa, _, e0, e1, e2, e3, e4, e5, e6, e7, e8, e9, e10, e11, e12⟩ := (HS.out.parts.below HB.out).get ip hip
  obtain ⟨b', off', hqb, _, f0, f1, f2, f3, f4, f5, f6, f7, f8, f9, f10, f11, f12⟩ := (HS.out.parts.below HB.out).get kp hkp
  have hqa2 : ap = some ⟨b, off, none⟩ := hqa
  have hqb2 : ap = some ⟨b', off', none⟩ := hqb
  rw [hqa2] at hqb2
  cases hqb2
  subst hqa2
  clear hqa hqb
  have hl1 : (ip : Int) < (s.parts.length : Int) := by omega
  have hl2 : (kp : Int) < (s.parts.length : Int) := by omega
  have HPm := Lib.hid (And.intro (List.getElem_mem hip) (List.getElem_mem hkp))
  have hiL : i < 256 := by omega
  have hkL : k < 256 := by omega
  generalize s.parts[ip] = p at *
  generalize s.parts[kp] = r at *
  generalize hWW : (w2 : World) = WW at *
  go_cut [8, 9] from 10 (fun s8 s9 V => ∃ pb qb, s8 = .pointer (some ⟨pb, 0, none⟩) ∧ s9 = .pointer (some ⟨qb, 0, none⟩) ∧ V.heap[pb]? = some (.cells #[.int .i64 p.id, .int .i64 p.section_, .int .i64 p.of, .int .i64 p.octave, .int .i64 p.desks, .int .i64 p.shift.x, .int .i64 p.shift.y, .int .i64 p.low.s, .int .i64 p.low.a, .int .i64 p.low.o, .int .i64 p.high.s, .int .i64 p.high.a, .int .i64 p.high.o] 59) ∧ V.heap[qb]? = some (.cells #[.int .i64 r.id, .int .i64 r.section_, .int .i64 r.of, .int .i64 r.octave, .int .i64 r.desks, .int .i64 r.shift.x, .int .i64 r.shift.y, .int .i64 r.low.s, .int .i64 r.low.a, .int .i64 r.low.o, .int .i64 r.high.s, .int .i64 r.high.a, .int .i64 r.high.o] 59) ∧ Below WW.heap.size WW V)
  case first =>
    have k2 : WW.cell? ⟨w.heap.size, 2, none⟩ = some (.slice (some ⟨b, off, none⟩) s.parts.length cp) := hc1 2
    have KS := Lib.hid (fun W (hb : RowKit.Below WW.heap.size WW W) => show W.cell? ⟨w.heap.size, 2, none⟩ = some (.slice (some ⟨b, off, none⟩) s.parts.length cp) ∧ W.cell? ⟨b, off + ip * 13, none⟩ = some (.int .i64 p.id) ∧ W.cell? ⟨b, off + ip * 13 + 1, none⟩ = some (.int .i64 p.section_) ∧ W.cell? ⟨b, off + ip * 13 + 2, none⟩ = some (.int .i64 p.of) ∧ W.cell? ⟨b, off + ip * 13 + 3, none⟩ = some (.int .i64 p.octave) ∧ W.cell? ⟨b, off + ip * 13 + 4, none⟩ = some (.int .i64 p.desks) ∧ W.cell? ⟨b, off + ip * 13 + 5, none⟩ = some (.int .i64 p.shift.x) ∧ W.cell? ⟨b, off + ip * 13 + 6, none⟩ = some (.int .i64 p.shift.y) ∧ W.cell? ⟨b, off + ip * 13 + 7, none⟩ = some (.int .i64 p.low.s) ∧ W.cell? ⟨b, off + ip * 13 + 8, none⟩ = some (.int .i64 p.low.a) ∧ W.cell? ⟨b, off + ip * 13 + 9, none⟩ = some (.int .i64 p.low.o) ∧ W.cell? ⟨b, off + ip * 13 + 10, none⟩ = some (.int .i64 p.high.s) ∧ W.cell? ⟨b, off + ip * 13 + 11, none⟩ = some (.int .i64 p.high.a) ∧ W.cell? ⟨b, off + ip * 13 + 12, none⟩ = some (.int .i64 p.high.o) ∧ W.cell? ⟨b, off + kp * 13, none⟩ = some (.int .i64 r.id) ∧ W.cell? ⟨b, off + kp * 13 + 1, none⟩ = some (.int .i64 r.section_) ∧ W.cell? ⟨b, off + kp * 13 + 2, none⟩ = some (.int .i64 r.of) ∧ W.cell? ⟨b, off + kp * 13 + 3, none⟩ = some (.int .i64 r.octave) ∧ W.cell? ⟨b, off + kp * 13 + 4, none⟩ = some (.int .i64 r.desks) ∧ W.cell? ⟨b, off + kp * 13 + 5, none⟩ = some (.int .i64 r.shift.x) ∧ W.cell? ⟨b, off + kp * 13 + 6, none⟩ = some (.int .i64 r.shift.y) ∧ W.cell? ⟨b, off + kp * 13 + 7, none⟩ = some (.int .i64 r.low.s) ∧ W.cell? ⟨b, off + kp * 13 + 8, none⟩ = some (.int .i64 r.low.a) ∧ W.cell? ⟨b, off + kp * 13 + 9, none⟩ = some (.int .i64 r.low.o) ∧ W.cell? ⟨b, off + kp * 13 + 10, none⟩ = some (.int .i64 r.high.s) ∧ W.cell? ⟨b, off + kp * 13 + 11, none⟩ = some (.int .i64 r.high.a) ∧ W.cell? ⟨b, off + kp * 13 + 12, none⟩ = some (.int .i64 r.high.o) from ⟨keepE k2 hb, keepE e0 hb, keepE e1 hb, keepE e2 hb, keepE e3 hb, keepE e4 hb, keepE e5 hb, keepE e6 hb, keepE e7 hb, keepE e8 hb, keepE e9 hb, keepE e10 hb, keepE e11 hb, keepE e12 hb, keepE f0 hb, keepE f1 hb, keepE f2 hb, keepE f3 hb, keepE f4 hb, keepE f5 hb, keepE f6 hb, keepE f7 hb, keepE f8 hb, keepE f9 hb, keepE f10 hb, keepE f11 hb, keepE f12 hb⟩)
    clear k2 e0 e1 e2 e3 e4 e5 e6 e7 e8 e9 e10 e11 e12 f0 f1 f2 f3 f4 f5 f6 f7 f8 f9 f10 f11 f12
    go_region_held3 (fun W => W.cell? ⟨w.heap.size, 2, none⟩ = some (.slice (some ⟨b, off, none⟩) s.parts.length cp) ∧ W.cell? ⟨b, off + ip * 13, none⟩ = some (.int .i64 p.id) ∧ W.cell? ⟨b, off + ip * 13 + 1, none⟩ = some (.int .i64 p.section_) ∧ W.cell? ⟨b, off + ip * 13 + 2, none⟩ = some (.int .i64 p.of) ∧ W.cell? ⟨b, off + ip * 13 + 3, none⟩ = some (.int .i64 p.octave) ∧ W.cell? ⟨b, off + ip * 13 + 4, none⟩ = some (.int .i64 p.desks) ∧ W.cell? ⟨b, off + ip * 13 + 5, none⟩ = some (.int .i64 p.shift.x) ∧ W.cell? ⟨b, off + ip * 13 + 6, none⟩ = some (.int .i64 p.shift.y) ∧ W.cell? ⟨b, off + ip * 13 + 7, none⟩ = some (.int .i64 p.low.s) ∧ W.cell? ⟨b, off + ip * 13 + 8, none⟩ = some (.int .i64 p.low.a) ∧ W.cell? ⟨b, off + ip * 13 + 9, none⟩ = some (.int .i64 p.low.o) ∧ W.cell? ⟨b, off + ip * 13 + 10, none⟩ = some (.int .i64 p.high.s) ∧ W.cell? ⟨b, off + ip * 13 + 11, none⟩ = some (.int .i64 p.high.a) ∧ W.cell? ⟨b, off + ip * 13 + 12, none⟩ = some (.int .i64 p.high.o) ∧ W.cell? ⟨b, off + kp * 13, none⟩ = some (.int .i64 r.id) ∧ W.cell? ⟨b, off + kp * 13 + 1, none⟩ = some (.int .i64 r.section_) ∧ W.cell? ⟨b, off + kp * 13 + 2, none⟩ = some (.int .i64 r.of) ∧ W.cell? ⟨b, off + kp * 13 + 3, none⟩ = some (.int .i64 r.octave) ∧ W.cell? ⟨b, off + kp * 13 + 4, none⟩ = some (.int .i64 r.desks) ∧ W.cell? ⟨b, off + kp * 13 + 5, none⟩ = some (.int .i64 r.shift.x) ∧ W.cell? ⟨b, off + kp * 13 + 6, none⟩ = some (.int .i64 r.shift.y) ∧ W.cell? ⟨b, off + kp * 13 + 7, none⟩ = some (.int .i64 r.low.s) ∧ W.cell? ⟨b, off + kp * 13 + 8, none⟩ = some (.int .i64 r.low.a) ∧ W.cell? ⟨b, off + kp * 13 + 9, none⟩ = some (.int .i64 r.low.o) ∧ W.cell? ⟨b, off + kp * 13 + 10, none⟩ = some (.int .i64 r.high.s) ∧ W.cell? ⟨b, off + kp * 13 + 11, none⟩ = some (.int .i64 r.high.a) ∧ W.cell? ⟨b, off + kp * 13 + 12, none⟩ = some (.int .i64 r.high.o))
      ((refine KS.out _ ?_; (repeat (first | with_reducible exact RowKit.Below.refl _ _ | with_reducible refine RowKit.Below.drew ?_ | with_reducible refine RowKit.Below.alloc ?_ (by simp <;> omega) _ | with_reducible refine RowKit.Below.setCell ?_ (by simp <;> omega) _))))
      (fail)
    all_goals
      go_wp2
      go_meet
      case rel => exact ⟨_, _, rfl, rfl, (by first | exact up_alloc (heap_alloc_new _ _) _ | exact at_alloc _ _ (by simp)), (by first | exact up_alloc (heap_alloc_new _ _) _ | exact at_alloc _ _ (by simp)), (((RowKit.Below.refl _ _).alloc (Nat.le_refl _) _).alloc (by simp) _).drew⟩
  case rest =>
    obtain ⟨pb, qb, rfl, rfl, hxp, hxq, hb⟩ := hcut
    have HXp := Lib.hid hxp; have HXq := Lib.hid hxq
    replace HX1 := Lib.hid (blk_keep HX1.out hb); replace HB := Lib.hid (HB.out.trans (hb.mono HB.out.size))
    clear hxp hxq hb hc1 hf1 hz1 e0 e1 e2 e3 e4 e5 e6 e7 e8 e9 e10 e11 e12 f0 f1 f2 f3 f4 f5 f6 f7 f8 f9 f10 f11 f12 hri hri2 hri3 hrk hrk2 hrk3 hwi hwk hn0 hn1 hl1 hl2 hiL hkL
    have HBc := Lib.hid (Below.refl wc.heap.size wc)
    have hSo := fun (x : Pa) W => RSource_any x W
    have hneq := fun W => neq_ivl p.shift r.shift W
    have k0 := box_cells HXp.out; have q0 := box_cells HXq.out
    have HDs := Lib.hid (show ∀ D, D = decide (p.shift = r.shift) → (D = true ↔ p.shift = r.shift) from fun D h => by rw [h, decide_eq_true_eq])
    cases hso : (sourceP p != sourceP r)
    case true =>
      go_upto_region 5 with (fail); have g0 := cell_regrown (k0 0); have g1 := cell_regrown (k0 1); have g2 := cell_regrown (k0 2); have g3 := cell_regrown (k0 3); have g4 := cell_regrown (k0 4); have g5 := cell_regrown (k0 5); have g6 := cell_regrown (k0 6); have g7 := cell_regrown (k0 7); have g8 := cell_regrown (k0 8); have g9 := cell_regrown (k0 9); have g10 := cell_regrown (k0 10); have g11 := cell_regrown (k0 11); have g12 := cell_regrown (k0 12); have j0 := cell_regrown (q0 0); have j1 := cell_regrown (q0 1); have j2 := cell_regrown (q0 2); have j3 := cell_regrown (q0 3); have j4 := cell_regrown (q0 4); have j5 := cell_regrown (q0 5); have j6 := cell_regrown (q0 6); have j7 := cell_regrown (q0 7); have j8 := cell_regrown (q0 8); have j9 := cell_regrown (q0 9); have j10 := cell_regrown (q0 10); have j11 := cell_regrown (q0 11); have j12 := cell_regrown (q0 12); refine wp_quietB (by kernel_rfl) (by kernel_rfl) ?_; (repeat (go_big_quiet_step ((go_at_call 34; refine Calls.regrown_of (hSo _ _))))); refine wpQuiet_nil ?_; intro w9 hb9; clear g0 g1 g2 g3 g4 g5 g6 g7 g8 g9 g10 g11 g12 j0 j1 j2 j3 j4 j5 j6 j7 j8 j9 j10 j11 j12
      go_wp2
      go_ret
      exact ⟨rfl, HB.out.trans (hb9.mono HB.out.size)⟩
    generalize hD : decide (p.shift = r.shift) = D at *
    cases D
    · go_upto_region 5 with (fail); have g0 := cell_regrown (k0 0); have g1 := cell_regrown (k0 1); have g2 := cell_regrown (k0 2); have g3 := cell_regrown (k0 3); have g4 := cell_regrown (k0 4); have g5 := cell_regrown (k0 5); have g6 := cell_regrown (k0 6); have g7 := cell_regrown (k0 7); have g8 := cell_regrown (k0 8); have g9 := cell_regrown (k0 9); have g10 := cell_regrown (k0 10); have g11 := cell_regrown (k0 11); have g12 := cell_regrown (k0 12); have j0 := cell_regrown (q0 0); have j1 := cell_regrown (q0 1); have j2 := cell_regrown (q0 2); have j3 := cell_regrown (q0 3); have j4 := cell_regrown (q0 4); have j5 := cell_regrown (q0 5); have j6 := cell_regrown (q0 6); have j7 := cell_regrown (q0 7); have j8 := cell_regrown (q0 8); have j9 := cell_regrown (q0 9); have j10 := cell_regrown (q0 10); have j11 := cell_regrown (q0 11); have j12 := cell_regrown (q0 12); refine wp_quietB (by kernel_rfl) (by kernel_rfl) ?_; (repeat (go_big_quiet_step ((go_at_call 34; refine Calls.regrown_of (hSo _ _))))); refine wpQuiet_nil ?_; intro w9 hb9; clear g0 g1 g2 g3 g4 g5 g6 g7 g8 g9 g10 g11 g12 j0 j1 j2 j3 j4 j5 j6 j7 j8 j9 j10 j11 j12
      go_wp2
      go_ret
      exact ⟨rfl, HB.out.trans (hb9.mono HB.out.size)⟩
    have hso' : sourceP p = sourceP r := by simpa using hso
    have hsh : p.shift = r.shift := by simpa using hD
    have HG1 := Lib.hid (fun W (hb : Below w.heap.size w W) => show Calls Tryz.prog 24 #[.agg #[.int .i64 s.version, .slice (⟨ab, cb, some ⟨b, off, none⟩, cp, an, cn⟩ : Sp).ab s.bars.length (⟨ab, cb, some ⟨b, off, none⟩, cp, an, cn⟩ : Sp).cb, .slice (⟨ab, cb, some ⟨b, off, none⟩, cp, an, cn⟩ : Sp).ap s.parts.length (⟨ab, cb, some ⟨b, off, none⟩, cp, an, cn⟩ : Sp).cp, .slice (⟨ab, cb, some ⟨b, off, none⟩, cp, an, cn⟩ : Sp).an s.notes.length (⟨ab, cb, some ⟨b, off, none⟩, cp, an, cn⟩ : Sp).cn], .int .i64 p.id] W (RetVE p.id (viewL s p) 0 W) from by have := VGet_any s ⟨ab, cb, some ⟨b, off, none⟩, cp, an, cn⟩ p.id W HHf.out (HS.out.below hb) (HE.out.below hb); rwa [get_mem HHs.out HPm.out.1] at this)
    have HG2 := Lib.hid (fun W (hb : Below w.heap.size w W) => show Calls Tryz.prog 24 #[.agg #[.int .i64 s.version, .slice (⟨ab, cb, some ⟨b, off, none⟩, cp, an, cn⟩ : Sp).ab s.bars.length (⟨ab, cb, some ⟨b, off, none⟩, cp, an, cn⟩ : Sp).cb, .slice (⟨ab, cb, some ⟨b, off, none⟩, cp, an, cn⟩ : Sp).ap s.parts.length (⟨ab, cb, some ⟨b, off, none⟩, cp, an, cn⟩ : Sp).cp, .slice (⟨ab, cb, some ⟨b, off, none⟩, cp, an, cn⟩ : Sp).an s.notes.length (⟨ab, cb, some ⟨b, off, none⟩, cp, an, cn⟩ : Sp).cn], .int .i64 r.id] W (RetVE r.id (viewL s r) 0 W) from by have := VGet_any s ⟨ab, cb, some ⟨b, off, none⟩, cp, an, cn⟩ r.id W HHf.out (HS.out.below hb) (HE.out.below hb); rwa [get_mem HHs.out HPm.out.2] at this)
    have HEq := Lib.hid (fun (A B : List Me) (eA : A.map Me.says = viewL s p) (eB : B.map Me.says = viewL s r) => equal_me HHv.out HPm.out.1 HPm.out.2 hso' hsh eA eB)
    have HFe := Lib.hid (fun (x : Pa) (A : List Me) (eA : A.map Me.says = viewL s x) => says_few HHf.out eA)
    have HVE := Lib.hid (fun ho : p.octave = r.octave => equal_view HHv.out HPm.out.1 HPm.out.2 hso' hsh ho)
    have HOc := Lib.hid (And.intro (part_written (HHv.out.part p HPm.out.1)).2 (part_written (HHv.out.part r HPm.out.2)).2)
    clear hso' hsh
    go_upto_region 5 with (fail); have g0 := cell_regrown (k0 0); have g1 := cell_regrown (k0 1); have g2 := cell_regrown (k0 2); have g3 := cell_regrown (k0 3); have g4 := cell_regrown (k0 4); have g5 := cell_regrown (k0 5); have g6 := cell_regrown (k0 6); have g7 := cell_regrown (k0 7); have g8 := cell_regrown (k0 8); have g9 := cell_regrown (k0 9); have g10 := cell_regrown (k0 10); have g11 := cell_regrown (k0 11); have g12 := cell_regrown (k0 12); have j0 := cell_regrown (q0 0); have j1 := cell_regrown (q0 1); have j2 := cell_regrown (q0 2); have j3 := cell_regrown (q0 3); have j4 := cell_regrown (q0 4); have j5 := cell_regrown (q0 5); have j6 := cell_regrown (q0 6); have j7 := cell_regrown (q0 7); have j8 := cell_regrown (q0 8); have j9 := cell_regrown (q0 9); have j10 := cell_regrown (q0 10); have j11 := cell_regrown (q0 11); have j12 := cell_regrown (q0 12); refine wp_quietB (by kernel_rfl) (by kernel_rfl) ?_; (repeat (go_big_quiet_step ((go_at_call 34; refine Calls.regrown_of (hSo _ _))))); refine wpQuiet_nil ?_; intro w9 hb9; clear g0 g1 g2 g3 g4 g5 g6 g7 g8 g9 g10 g11 g12 j0 j1 j2 j3 j4 j5 j6 j7 j8 j9 j10 j11 j12
    replace HXp := Lib.hid (blk_keep HXp.out hb9); replace HXq := Lib.hid (blk_keep HXq.out hb9); replace HX1 := Lib.hid (blk_keep HX1.out hb9); replace HB := Lib.hid (HB.out.trans (hb9.mono HB.out.size))
    clear hb9 k0 q0 hSo hneq hso HDs HBc hD HHf HHv HHs HPm hip hkp hnp
    dsimp only at *
    have hc1 := box_cells HX1.out; have hcp := box_cells HXp.out; have hcq := box_cells HXq.out
    go_upto_region 8 with (go_at_call 24; refine (HG1.out _ HB.out).mono ?_; rintro e w3 ⟨a3, c3, A, rfl, hok3, hme3, hsy3, hb⟩; (try replace hb := drewB hb); replace HXp := Lib.hid (blk_keep HXp.out hb); replace HXq := Lib.hid (blk_keep HXq.out hb); replace hcp := box_cells HXp.out; replace hcq := box_cells HXq.out; (try replace hb := drewB hb); replace HB := Lib.hid (HB.out.trans (hb.mono HB.out.size)); (try (replace HX1 := Lib.hid (blk_keep HX1.out hb); replace hc1 := box_cells HX1.out; replace hf1 := box_free HX1.out; replace hz1 := lt_blk HX1.out)); (try (replace HX3 := Lib.hid (blk_keep HX3.out hb); replace hc3 := box_cells HX3.out; replace hf3 := box_free HX3.out; replace hz3 := lt_blk HX3.out)); (try (replace HX4 := Lib.hid (blk_keep HX4.out hb); replace hc4 := box_cells HX4.out; replace hf4 := box_free HX4.out; replace hz4 := lt_blk HX4.out)); (try (replace HX10 := Lib.hid (blk_keep HX10.out hb); replace hc10 := box_cells HX10.out; replace hf10 := box_free HX10.out; replace hz10 := lt_blk HX10.out)); clear hb)
    have HX3 := Lib.hid (heap_alloc_new w3 (.cells #[.int .i64 p.id, .slice a3 A.length c3] 44))
    have hb := (Below.refl w3.heap.size w3).alloc (Nat.le_refl _) (.cells #[.int .i64 p.id, .slice a3 A.length c3] 44)
    have HM3 := Lib.hid (hme3.below hb); have HY3 := Lib.hid hsy3
    clear hme3 hsy3 hok3
    (try replace hb := drewB hb); replace HXp := Lib.hid (blk_keep HXp.out hb); replace HXq := Lib.hid (blk_keep HXq.out hb); replace hcp := box_cells HXp.out; replace hcq := box_cells HXq.out; (try replace hb := drewB hb); replace HB := Lib.hid (HB.out.trans (hb.mono HB.out.size)); (try (replace HX1 := Lib.hid (blk_keep HX1.out hb); replace hc1 := box_cells HX1.out; replace hf1 := box_free HX1.out; replace hz1 := lt_blk HX1.out)); (try (replace HX3 := Lib.hid (blk_keep HX3.out hb); replace hc3 := box_cells HX3.out; replace hf3 := box_free HX3.out; replace hz3 := lt_blk HX3.out)); (try (replace HX4 := Lib.hid (blk_keep HX4.out hb); replace hc4 := box_cells HX4.out; replace hf4 := box_free HX4.out; replace hz4 := lt_blk HX4.out)); (try (replace HX10 := Lib.hid (blk_keep HX10.out hb); replace hc10 := box_cells HX10.out; replace hf10 := box_free HX10.out; replace hz10 := lt_blk HX10.out)); clear hb
    generalize w3.alloc (.cells #[.int .i64 p.id, .slice a3 A.length c3] 44) = W3 at *
    have hc3 := box_cells HX3.out; have hf3 := box_free HX3.out; have hz3 := lt_blk HX3.out
    go_upto_region 9 with (go_at_call 24; refine (HG2.out _ HB.out).mono ?_; rintro e w4 ⟨a4, c4, Bm, rfl, hok4, hme4, hsy4, hb⟩; replace HM3 := Lib.hid (HM3.out.below hb); (try replace hb := drewB hb); replace HXp := Lib.hid (blk_keep HXp.out hb); replace HXq := Lib.hid (blk_keep HXq.out hb); replace hcp := box_cells HXp.out; replace hcq := box_cells HXq.out; (try replace hb := drewB hb); replace HB := Lib.hid (HB.out.trans (hb.mono HB.out.size)); (try (replace HX1 := Lib.hid (blk_keep HX1.out hb); replace hc1 := box_cells HX1.out; replace hf1 := box_free HX1.out; replace hz1 := lt_blk HX1.out)); (try (replace HX3 := Lib.hid (blk_keep HX3.out hb); replace hc3 := box_cells HX3.out; replace hf3 := box_free HX3.out; replace hz3 := lt_blk HX3.out)); (try (replace HX4 := Lib.hid (blk_keep HX4.out hb); replace hc4 := box_cells HX4.out; replace hf4 := box_free HX4.out; replace hz4 := lt_blk HX4.out)); (try (replace HX10 := Lib.hid (blk_keep HX10.out hb); replace hc10 := box_cells HX10.out; replace hf10 := box_free HX10.out; replace hz10 := lt_blk HX10.out)); clear hb)
    have HX4 := Lib.hid (heap_alloc_new w4 (.cells #[.int .i64 r.id, .slice a4 Bm.length c4] 44))
    have hb := (Below.refl w4.heap.size w4).alloc (Nat.le_refl _) (.cells #[.int .i64 r.id, .slice a4 Bm.length c4] 44)
    have HM4 := Lib.hid (hme4.below hb); have HY4 := Lib.hid hsy4
    replace HM3 := Lib.hid (HM3.out.below hb)
    clear hme4 hsy4 hok4
    (try replace hb := drewB hb); replace HXp := Lib.hid (blk_keep HXp.out hb); replace HXq := Lib.hid (blk_keep HXq.out hb); replace hcp := box_cells HXp.out; replace hcq := box_cells HXq.out; (try replace hb := drewB hb); replace HB := Lib.hid (HB.out.trans (hb.mono HB.out.size)); (try (replace HX1 := Lib.hid (blk_keep HX1.out hb); replace hc1 := box_cells HX1.out; replace hf1 := box_free HX1.out; replace hz1 := lt_blk HX1.out)); (try (replace HX3 := Lib.hid (blk_keep HX3.out hb); replace hc3 := box_cells HX3.out; replace hf3 := box_free HX3.out; replace hz3 := lt_blk HX3.out)); (try (replace HX4 := Lib.hid (blk_keep HX4.out hb); replace hc4 := box_cells HX4.out; replace hf4 := box_free HX4.out; replace hz4 := lt_blk HX4.out)); (try (replace HX10 := Lib.hid (blk_keep HX10.out hb); replace hc10 := box_cells HX10.out; replace hf10 := box_free HX10.out; replace hz10 := lt_blk HX10.out)); clear hb
    generalize w4.alloc (.cells #[.int .i64 r.id, .slice a4 Bm.length c4] 44) = W4 at *
    have hc4 := box_cells HX4.out
    generalize w3.heap.size = xb3 at *
    generalize w4.heap.size = xb4 at *
    obtain ⟨hlen, heqm⟩ := HEq.out A Bm HY3.out HY4.out
    have HEm := Lib.hid heqm; have HLn := Lib.hid hlen
    have HF3 := Lib.hid (HFe.out p A HY3.out); have HF4 := Lib.hid (HFe.out r Bm HY4.out)
    have hln2 : ((A.length : Int) != (Bm.length : Int)) = false := by simp; omega
    have HSame := Lib.hid (fun (ho : p.octave = r.octave) W (hb : Below W4.heap.size W4 W) => show Calls Tryz.prog 36 #[.slice a3 A.length c3, .slice a4 Bm.length c4] W (fun e w' => e = .returned (.bool true) ∧ Below W.heap.size W w') from by
      have := RSameMs_any a3 a4 c3 c4 A Bm W (by have := HF3.out.1; omega) (by have := HF4.out.1; omega) (fun m hm => by have := HF3.out.2 m hm; omega) (fun m hm => by have := HF4.out.2 m hm; omega) (HM3.out.below hb) (HM4.out.below hb)
      rw [HY3.out, HY4.out, HVE.out ho] at this
      simpa using this)
    have hAl := HF3.out.1
    clear heqm hlen HEq HFe HG1 HG2
    go_upto_region 11 with (fail)
    have HW4 := Lib.hid HB.out
    clear HB
    go_wp2
    clear hc1 hf1 hz1 hcp hcq hc3 hf3 hz3 hc4 hln2
    go_loopw [7, 94] (fun s7 s94 wi => ∃ k : Nat, k ≤ A.length ∧ s94 = .int .i64 k ∧ s7 = .bool true ∧ Below W4.heap.size W4 wi) (fun _ s94 _ => A.length - (intOf s94).toNat)
    case atStart => exact ⟨0, Nat.zero_le _, rfl, rfl, Below.refl _ _⟩
    case round =>
      obtain ⟨kk, hk, rfl, rfl, hbe⟩ := hrel
      have HBe := Lib.hid hbe
      clear hbe
      by_cases hlt : kk < A.length
      · have hlt2 : kk < Bm.length := by have := HLn.out; omega
        obtain ⟨h1, h2, h3⟩ := HEm.out kk hlt hlt2
        obtain ⟨b1, o1, hqa, _, c0, c1, c2, c3', c4'⟩ := (HM3.out.below HBe.out).get kk hlt
        obtain ⟨b2, o2, hqb, _, d0, d1, d2, d3, d4⟩ := (HM4.out.below HBe.out).get kk hlt2
        subst hqa; subst hqb
        clear c0 c2 c3' d0 d2 d3
        have hgl : (kk : Int) < (Bm.length : Int) := by omega
        have HMk := Lib.hid (fun W (hb : Below W4.heap.size W4 W) => ((HM3.out.below hb).notes _ (List.getElem_mem hlt)))
        have HNk := Lib.hid (fun W (hb : Below W4.heap.size W4 W) => ((HM4.out.below hb).notes _ (List.getElem_mem hlt2)))
        have HFk := Lib.hid (HF3.out.2 _ (List.getElem_mem hlt))
        generalize A[kk] = M at *
        generalize Bm[kk] = N at *
        have hk1 : ((M.notes.length : Int) != (N.notes.length : Int)) = false := by simp; omega
        have hk2 : (M.key != N.key) = false := by simp [h2]
        have HE3 := Lib.hid h3; have HE1 := Lib.hid h1
        clear h1 h2 h3
        have hx3 := box_cells (blk_keep HX3.out HBe.out); have hx4 := box_cells (blk_keep HX4.out HBe.out)
        have x31 : wr.cell? ⟨xb3, 1, none⟩ = some (.slice (some ⟨b1, o1, none⟩) A.length c3) := hx3 1
        have x41 : wr.cell? ⟨xb4, 1, none⟩ = some (.slice (some ⟨b2, o2, none⟩) Bm.length c4) := hx4 1
        clear hx3 hx4
        go_upto_region 14 with (fail)
        go_quiet (fail)
        have hb := below_drewN (Below.refl wr.heap.size wr) nq
        replace HBe := Lib.hid (HBe.out.trans (hb.mono HBe.out.size)); replace x31 := keepE x31 hb; replace x41 := keepE x41 hb; replace c1 := keepE c1 hb; replace c4' := keepE c4' hb; replace d1 := keepE d1 hb; replace d4 := keepE d4 hb
        clear hb
        generalize wr.drewN nq = W5 at *
        go_upto_region 15 with (fail)
        go_quiet (fail)
        have hb := below_drewN (Below.refl W5.heap.size W5) nq
        replace HBe := Lib.hid (HBe.out.trans (hb.mono HBe.out.size))
        clear hb x31 x41 c1 c4' d1 d4 hk1 hk2
        generalize W5.drewN nq = W6 at *
        obtain ⟨bx, ox, hbx⟩ := WrAt.addr (HMk.out W4 (Below.refl _ _))
        obtain ⟨by_, oy, hby⟩ := WrAt.addr (HNk.out W4 (Below.refl _ _))
        have HV := Lib.hid (show EqL M N p r pb qb W6 from ⟨blk_keep HXp.out HBe.out, blk_keep HXq.out HBe.out, fun W hb => HMk.out W (HBe.out.trans (hb.mono HBe.out.size)), fun W hb => HNk.out W (HBe.out.trans (hb.mono HBe.out.size)), HE1.out, by have := HFk.out; omega, HE3.out, HOc.out⟩)
        go_wp2
        refine equal2_any HV.out bx ox by_ oy hbx hby _ ?_
        intro t17 t18 t132 t133 t134 t135 t136 t137 t138 t139 t140 t141 t142 t143 t144 t145 t146 t147 t148 t149 t150 t151 t152 t153 t154 t155 t156 t157 t158 t159 t160 t161 t162 t163 t164 t165 t166 t167 t168 t169 t170 t171 t172 t173 t174 t175 t176 W' hb
        have HBw := Lib.hid hb
        clear hb
        go_wp2
        exact ⟨⟨kk + 1, by omega, by go_num, rfl, HBe.out.trans (HBw.out.mono HBe.out.size)⟩, by simp [intOf]; omega⟩
      · have hx3 := box_cells (blk_keep HX3.out HBe.out); have hx4 := box_cells (blk_keep HX4.out HBe.out)
        have hcp := box_cells (blk_keep HXp.out HBe.out); have hcq := box_cells (blk_keep HXq.out HBe.out)
        by_cases ho : p.octave = r.octave
        · have hob : (p.octave != r.octave) = false := by simp [ho]
          have HS2 := Lib.hid (HSame.out ho)
          clear ho
          go_wp2_with (go_at_call 36; refine (HS2.out _ HBe.out).mono ?_; rintro e w7 ⟨rfl, hb⟩; replace HBe := Lib.hid (HBe.out.trans (hb.mono HBe.out.size)); clear hb)
          go_ret
          exact ⟨rfl, HW4.out.trans (HBe.out.mono HW4.out.size)⟩
        · have hob : (p.octave != r.octave) = true := by simpa using ho
          clear ho
          go_wp2
          go_ret
          exact ⟨rfl, HW4.out.trans (HBe.out.mono HW4.out.size)⟩
end Go.Proofs.YtppjbnnnppffaaaGreatDoor
