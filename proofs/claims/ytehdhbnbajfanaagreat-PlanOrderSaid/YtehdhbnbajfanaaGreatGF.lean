/- Texts of this seat, laid together: MatchRaise1, MatchRaise2, MatchRaise3, MatchRaise4, MatchRaise5, MatchRaise. -/
import Derived.Test.YtehdhbnbajfanaaGreatGD
import Derived.Deep.LoopGhost

/- match.raise: the loop that looks at a row (its fourth loop). -/
namespace Go.Proofs.YtehdhbnbajfanaaGreat
set_option linter.unusedSimpArgs false
set_option linter.unusedVariables false
open Go.RowKit Go.Sort Go.Shelf

/-- The bodies of all loops, in the order of the text. -/
def loopsOf : Code → List Code
  | .loop c => c :: loopsOf c
  | .seq a b => loopsOf a ++ loopsOf b
  | .block _ c => loopsOf c
  | .scope c => loopsOf c
  | .cond _ a b => loopsOf a ++ loopsOf b
  | _ => []
noncomputable def raiseBody (i : Nat) : Code := ((Tryz.f80.body.map loopsOf).getD []).getD i .skip
/-- What holds of all that a round of raise leaves alone. -/
structure RC (c : List (List Int)) (a : Option Addr) (k bp bu bv bow bd bf bo : Nat) (u v ow : Nat → Int) (wo : World) : Prop where
  he : formE c = 0
  hk : k < c.length
  rm : RM c.length (wideL c) bp bu bv bow wo u v ow
  pot : Pot (cc c) (wideL c) k (k * (wideL c * 1000000)) u v ow
  mat : MatAt wo a c
  mt : Mtd (may (cc c)) (fun i => i < c.length) (wideL c)
  ne : bd ≠ bf ∧ bd ≠ bo ∧ bf ≠ bo
  le : wo.heap.size ≤ bd ∧ wo.heap.size ≤ bf ∧ wo.heap.size ≤ bo
set_option maxRecDepth 1000000 in
set_option maxHeartbeats 4000000 in
theorem loop4_any {c : List (List Int)} {a : Option Addr} {k bp bu bv bow bd bf bo : Nat} {u v ow : Nat → Int} {wo : World} (X : RC c a k bp bu bv bow bd bf bo u v ow wo) (cur : Nat) (now base : Int) (dist frm : Nat → Int) (ord : List Nat) (ai : Option Addr) (ci : Nat) (hcm : cur < c.length) (hik : InAt wo ai c[cur])
    {s0 s1 s2 s3 s5 s6 s9 s14 s15 s16 s17 s18 s19 s20 s21 s22 s23 s24 s25 s26 s27 s28 s29 s30 s31 s32 s33 s34 s35 s36 s37 s38 s39 s40 s41 s42 s43 s44 s45 s46 s47 s48 s49 s50 s51 s52 s53 s57 s58 s59 s60 s61 s62 s63 s64 s65 s66 s67 s68 s69 s70 s71 s72 s73 s74 s75 s76 s77 s78 s79 s80 s81 s82 s83 s84 s85 s86 s87 s88 s89 s90 s91 s92 s93 s94 s95 s96 s97 s98 s99 s100 s101 s102 s103 s104 s105 s106 s107 s108 s109 s110 s111 s112 s113 s114 s115 s116 s117 s118 s119 s120 s121 s122 s123 s124 s125 s126 s127 s128 s129 s130 s131 s132 s133 s134 s135 s136 s137 s138 s139 s140 s141 s142 s143 s144 s145 s146 s147 s148 s149 s150 s151 s152 s153 s154 s155 s156 s157 s158 s159 s160 s161 s162 s163 s164 s165 s166 s167 s168 s169 s170 s171 s172 s173 s174 s175 s176 s177 s178 s179 s180 s181 s182 s183 s184 s185 s186 s187 s188 s189 s190 s191 s192 s193 s194 s195 s196 s197 s198 s199 s200 s201 s202 s203 s204 s205 s206 s207 s208 s209 s210 s211 s212 s213 s214 s215 s216 s217 s218 s219 s220 s221 s222 s223 s224 : Value} (Q : Exit → Act → World → Prop) (W : World) (S : SM (wideL c) bd bf bo wo W dist frm (fun j => ord.contains j)) (D : Dj (cc c) (wideL c) k u v ow true dist frm ord base cur)
    (hexit : ∀ (t14 t15 t16 t56 t57 t58 t59 t60 t61 t62 t63 t64 t65 t66 t67 t68 t69 t70 t71 t72 t73 t74 t75 t76 t77 t78 t79 t80 t81 t82 t83 t84 t85 t86 t87 t88 t89 t90 t91 t92 t93 t94 t95 t96 t97 t98 t99 t100 t101 : Value) (W' : World), SM (wideL c) bd bf bo wo W' (rdist (cc c) u v ord base cur dist (wideL c)) (rfrm (cc c) u v ord base cur dist frm now (wideL c)) (fun j => ord.contains j) → Q (.exit 6) ⟨(List.toArray (s0 :: s1 :: s2 :: s3 :: .pointer (some ⟨bp, 0, none⟩) :: s5 :: s6 :: .slice (some ⟨bd, 0, none⟩) (wideL c) (wideL c) :: .slice (some ⟨bf, 0, none⟩) (wideL c) (wideL c) :: s9 :: .slice (some ⟨bo, 0, none⟩) (wideL c) (wideL c) :: .int .i64 (cur : Int) :: .int .i64 now :: .int .i64 base :: t14 :: t15 :: t16 :: s17 :: s18 :: s19 :: s20 :: s21 :: s22 :: s23 :: s24 :: s25 :: s26 :: s27 :: s28 :: s29 :: s30 :: s31 :: s32 :: s33 :: s34 :: s35 :: s36 :: s37 :: s38 :: s39 :: s40 :: s41 :: s42 :: s43 :: s44 :: s45 :: s46 :: s47 :: s48 :: s49 :: s50 :: s51 :: s52 :: s53 :: .slice ai (wideL c) ci :: .int .i64 (wideL c : Int) :: t56 :: t57 :: t58 :: t59 :: t60 :: t61 :: t62 :: t63 :: t64 :: t65 :: t66 :: t67 :: t68 :: t69 :: t70 :: t71 :: t72 :: t73 :: t74 :: t75 :: t76 :: t77 :: t78 :: t79 :: t80 :: t81 :: t82 :: t83 :: t84 :: t85 :: t86 :: t87 :: t88 :: t89 :: t90 :: t91 :: t92 :: t93 :: t94 :: t95 :: t96 :: t97 :: t98 :: t99 :: t100 :: t101 :: s102 :: s103 :: s104 :: s105 :: s106 :: s107 :: s108 :: s109 :: s110 :: s111 :: s112 :: s113 :: s114 :: s115 :: s116 :: s117 :: s118 :: s119 :: s120 :: s121 :: s122 :: s123 :: s124 :: s125 :: s126 :: s127 :: s128 :: s129 :: s130 :: s131 :: s132 :: s133 :: s134 :: s135 :: s136 :: s137 :: s138 :: s139 :: s140 :: s141 :: s142 :: s143 :: s144 :: s145 :: s146 :: s147 :: s148 :: s149 :: s150 :: s151 :: s152 :: s153 :: s154 :: s155 :: s156 :: s157 :: s158 :: s159 :: s160 :: s161 :: s162 :: s163 :: s164 :: s165 :: s166 :: s167 :: s168 :: s169 :: s170 :: s171 :: s172 :: s173 :: s174 :: s175 :: s176 :: s177 :: s178 :: s179 :: s180 :: s181 :: s182 :: s183 :: s184 :: s185 :: s186 :: s187 :: s188 :: s189 :: s190 :: s191 :: s192 :: s193 :: s194 :: s195 :: s196 :: s197 :: s198 :: s199 :: s200 :: s201 :: s202 :: s203 :: s204 :: s205 :: s206 :: s207 :: s208 :: s209 :: s210 :: s211 :: s212 :: s213 :: s214 :: s215 :: s216 :: s217 :: s218 :: s219 :: s220 :: s221 :: s222 :: s223 :: s224 :: List.nil)), []⟩ W') :
    Code.wp Tryz.prog (Code.loop (raiseBody 3)) Q ⟨(List.toArray (s0 :: s1 :: s2 :: s3 :: .pointer (some ⟨bp, 0, none⟩) :: s5 :: s6 :: .slice (some ⟨bd, 0, none⟩) (wideL c) (wideL c) :: .slice (some ⟨bf, 0, none⟩) (wideL c) (wideL c) :: s9 :: .slice (some ⟨bo, 0, none⟩) (wideL c) (wideL c) :: .int .i64 (cur : Int) :: .int .i64 now :: .int .i64 base :: s14 :: s15 :: s16 :: s17 :: s18 :: s19 :: s20 :: s21 :: s22 :: s23 :: s24 :: s25 :: s26 :: s27 :: s28 :: s29 :: s30 :: s31 :: s32 :: s33 :: s34 :: s35 :: s36 :: s37 :: s38 :: s39 :: s40 :: s41 :: s42 :: s43 :: s44 :: s45 :: s46 :: s47 :: s48 :: s49 :: s50 :: s51 :: s52 :: s53 :: .slice ai (wideL c) ci :: .int .i64 (wideL c : Int) :: .int .i64 0 :: s57 :: s58 :: s59 :: s60 :: s61 :: s62 :: s63 :: s64 :: s65 :: s66 :: s67 :: s68 :: s69 :: s70 :: s71 :: s72 :: s73 :: s74 :: s75 :: s76 :: s77 :: s78 :: s79 :: s80 :: s81 :: s82 :: s83 :: s84 :: s85 :: s86 :: s87 :: s88 :: s89 :: s90 :: s91 :: s92 :: s93 :: s94 :: s95 :: s96 :: s97 :: s98 :: s99 :: s100 :: s101 :: s102 :: s103 :: s104 :: s105 :: s106 :: s107 :: s108 :: s109 :: s110 :: s111 :: s112 :: s113 :: s114 :: s115 :: s116 :: s117 :: s118 :: s119 :: s120 :: s121 :: s122 :: s123 :: s124 :: s125 :: s126 :: s127 :: s128 :: s129 :: s130 :: s131 :: s132 :: s133 :: s134 :: s135 :: s136 :: s137 :: s138 :: s139 :: s140 :: s141 :: s142 :: s143 :: s144 :: s145 :: s146 :: s147 :: s148 :: s149 :: s150 :: s151 :: s152 :: s153 :: s154 :: s155 :: s156 :: s157 :: s158 :: s159 :: s160 :: s161 :: s162 :: s163 :: s164 :: s165 :: s166 :: s167 :: s168 :: s169 :: s170 :: s171 :: s172 :: s173 :: s174 :: s175 :: s176 :: s177 :: s178 :: s179 :: s180 :: s181 :: s182 :: s183 :: s184 :: s185 :: s186 :: s187 :: s188 :: s189 :: s190 :: s191 :: s192 :: s193 :: s194 :: s195 :: s196 :: s197 :: s198 :: s199 :: s200 :: s201 :: s202 :: s203 :: s204 :: s205 :: s206 :: s207 :: s208 :: s209 :: s210 :: s211 :: s212 :: s213 :: s214 :: s215 :: s216 :: s217 :: s218 :: s219 :: s220 :: s221 :: s222 :: s223 :: s224 :: List.nil)), []⟩ W := by
  obtain ⟨f1, f2, f3, f4⟩ := formE_ok X.he
  have HX := Lib.hid X; have HS := Lib.hid S; have HD := Lib.hid D; have HIK := Lib.hid hik
  have HCC := Lib.hid (cc_le f3 f4)
  have HLen := Lib.hid (f3 c[cur] (List.getElem_mem _))
  have HPS := Lib.hid (pot_small X.pot (by have := X.hk; omega) f1 f2 fun i k hi hk => (HCC.out i k hi hk).2)
  have HQ := Lib.hid hexit; have HNE := Lib.hid X.ne; have HLE := Lib.hid X.le
  clear hexit
  have hb01 := D.b0.1
  have hb02 : base < 1099511627776 := D.b0.2
  have hu01 := (HPS.out.2.1 cur).1
  have hu02 := (HPS.out.2.1 cur).2
  clear X S D hik f3 f4
  conv => arg 2; arg 1; whnf
  go_loopw [56] (fun i W => ∃ j : Nat, j ≤ wideL c ∧ i = .int .i64 j ∧ SM (wideL c) bd bf bo wo W (rdist (cc c) u v ord base cur dist j) (rfrm (cc c) u v ord base cur dist frm now j) (fun j => ord.contains j)) (fun i _ => wideL c - (intOf i).toNat)
  case atStart => exact ⟨0, Nat.zero_le _, rfl, by rw [rdist_zero, rfrm_zero]; exact HS.out⟩
  case round =>
    obtain ⟨j, hj, rfl, S4⟩ := hrel
    have HS4 := Lib.hid S4; clear S4 HS
    by_cases hjn : j < wideL c
    · obtain ⟨b2, off2, rfl, d0⟩ := HIK.out.get j (by have := HLen.out; omega)
      rw [← cc_get hcm (by have := HLen.out; omega)] at d0
      have hd0 := cell_b HS4.out.bel d0
      have hN := HCC.out cur j hcm hjn
      obtain ⟨hN1, hN2⟩ := hN
      obtain ⟨hv1, hv2⟩ := HPS.out.2.2 j hjn
      have RW := HX.out.rm.below HS4.out.bel
      have gP := box_cells RW.xP
      have gU : wr.cell? ⟨bu, cur, none⟩ = some (.int .i64 (u cur)) := RW.ru.cell hcm
      have gV : wr.cell? ⟨bv, j, none⟩ = some (.int .i64 (v j)) := RW.rv.cell hjn
      clear RW d0
      go_wp2
      have g0 := cell_regrown (gP 0); have g1 := cell_regrown (gP 1); have g2 := cell_regrown gU; have g3 := cell_regrown gV
      refine wp_quietB (by kernel_rfl) (by kernel_rfl) ?_
      repeat (go_big_quiet_step (fail))
      refine wpQuiet_nil ?_
      intro w5 hb
      replace HS4 := Lib.hid (HS4.out.below hb)
      clear hb g0 g1 g2 g3 gP gU gV hd0
      have gD : w5.cell? ⟨bo, j, none⟩ = some (.bool (ord.contains j)) := HS4.out.rb.cell hjn
      have gd : w5.cell? ⟨bd, j, none⟩ = some (.int .i64 (dist j)) := by have := HS4.out.rd.cell hjn; rw [this]; simp only [iv, rdist_at]
      by_cases h1 : 0 ≤ cc c cur j
      · cases h2 : ord.contains j
        · rw [h2] at gD
          have H2 := Lib.hid (show j ∉ ord by simpa using h2); clear h2
          by_cases h3 : base + cc c cur j - u cur - v j < dist j
          · have H3 := Lib.hid h3; have H1 := Lib.hid h1
            have hfd := HS4.out.rd.free j; have hff := HS4.out.rf.free j
            have gf : w5.cell? ⟨bf, j, none⟩ = some (.int .i64 (rfrm (cc c) u v ord base cur dist frm now j j)) := HS4.out.rf.cell hjn
            have nbd := HNE.out.1
            go_wp2
            go_roundw
            case rel => exact ⟨j + 1, by omega, by go_num, by
              obtain ⟨e1, e2⟩ := rdist_yes (now := now) (frm := frm) H1.out H2.out H3.out
              rw [e1, e2]
              exact HS4.out.set hjn HLE.out.1 HLE.out.2.1 HNE.out.1 HNE.out.2.1 HNE.out.2.2 _ _⟩
            case measure => simp [intOf]; omega
          · have H3 := Lib.hid h3
            have h3' : ¬ (base + cc c cur j - u cur - v j < dist j) := h3
            go_wp2
            go_roundw
            case rel => exact ⟨j + 1, by omega, by go_num, by
              obtain ⟨e1, e2⟩ := rdist_no (C := cc c) (u := u) (v := v) (dist := dist) (frm := frm) (ord := ord) (base := base) (now := now) (cur := cur) (j := j) fun x => H3.out x.2.2
              rw [e1, e2]; exact HS4.out⟩
            case measure => simp [intOf]; omega
        · rw [h2] at gD
          have H2 := Lib.hid (show j ∈ ord by simpa using h2); clear h2
          go_wp2
          go_roundw
          case rel => exact ⟨j + 1, by omega, by go_num, by
            obtain ⟨e1, e2⟩ := rdist_no (C := cc c) (u := u) (v := v) (dist := dist) (frm := frm) (ord := ord) (base := base) (now := now) (cur := cur) (j := j) fun x => x.2.1 H2.out
            rw [e1, e2]; exact HS4.out⟩
          case measure => simp [intOf]; omega
      · have H1 := Lib.hid h1
        go_wp2
        go_roundw
        case rel => exact ⟨j + 1, by omega, by go_num, by
          obtain ⟨e1, e2⟩ := rdist_no (C := cc c) (u := u) (v := v) (dist := dist) (frm := frm) (ord := ord) (base := base) (now := now) (cur := cur) (j := j) fun x => H1.out x.1
          rw [e1, e2]; exact HS4.out⟩
        case measure => simp [intOf]; omega
    · have hjn' : j = wideL c := by omega
      subst hjn'
      go_wp2
      exact HQ.out _ _ _ _ _ _ _ _ _ _ _ _ _ _ _ _ _ _ _ _ _ _ _ _ _ _ _ _ _ _ _ _ _ _ _ _ _ _ _ _ _ _ _ _ _ _ _ _ _ wr HS4.out
end Go.Proofs.YtehdhbnbajfanaaGreat


/- match.raise: the loop that looks for the nearest column (its fifth loop). -/
namespace Go.Proofs.YtehdhbnbajfanaaGreat
set_option linter.unusedSimpArgs false
set_option linter.unusedVariables false
open Go.RowKit Go.Sort Go.Shelf

set_option maxRecDepth 1000000 in
set_option maxHeartbeats 4000000 in
theorem loop5_any {c : List (List Int)} {a : Option Addr} {k bp bu bv bow bd bf bo : Nat} {u v ow : Nat → Int} {wo : World} (X : RC c a k bp bu bv bow bd bf bo u v ow wo) (dist frm : Nat → Int) (ord : List Nat)
    {s0 s1 s2 s3 s4 s5 s6 s8 s9 s11 s13 s14 s15 s16 s17 s18 s19 s20 s21 s22 s23 s24 s25 s26 s27 s28 s29 s30 s31 s32 s33 s34 s35 s36 s37 s38 s39 s40 s41 s42 s43 s44 s45 s46 s47 s48 s49 s50 s51 s52 s53 s54 s55 s56 s57 s58 s59 s60 s61 s62 s63 s64 s65 s66 s67 s68 s69 s70 s71 s72 s73 s74 s75 s76 s77 s78 s79 s80 s81 s82 s83 s84 s85 s86 s87 s88 s89 s90 s91 s92 s93 s94 s95 s96 s97 s98 s99 s100 s101 s102 s105 s106 s107 s108 s109 s110 s111 s112 s113 s114 s115 s116 s117 s118 s119 s120 s121 s122 s123 s124 s125 s126 s127 s128 s129 s130 s131 s132 s133 s134 s135 s136 s137 s138 s139 s140 s141 s142 s143 s144 s145 s146 s147 s148 s149 s150 s151 s152 s153 s154 s155 s156 s157 s158 s159 s160 s161 s162 s163 s164 s165 s166 s167 s168 s169 s170 s171 s172 s173 s174 s175 s176 s177 s178 s179 s180 s181 s182 s183 s184 s185 s186 s187 s188 s189 s190 s191 s192 s193 s194 s195 s196 s197 s198 s199 s200 s201 s202 s203 s204 s205 s206 s207 s208 s209 s210 s211 s212 s213 s214 s215 s216 s217 s218 s219 s220 s221 s222 s223 s224 : Value} (Q : Exit → Act → World → Prop) (W : World) (S : SM (wideL c) bd bf bo wo W dist frm (fun j => ord.contains j))
    (hexit : ∀ (t17 t105 t106 t107 t108 t109 t110 t111 t112 t113 t114 t115 t116 t117 t118 t119 t120 t121 t122 t123 t124 t125 t126 t127 t128 : Value) (now : Int) (W' : World), Sel dist ord (wideL c) now → SM (wideL c) bd bf bo wo W' dist frm (fun j => ord.contains j) → Q (.exit 8) ⟨(List.toArray (s0 :: s1 :: s2 :: s3 :: s4 :: s5 :: s6 :: .slice (some ⟨bd, 0, none⟩) (wideL c) (wideL c) :: s8 :: s9 :: .slice (some ⟨bo, 0, none⟩) (wideL c) (wideL c) :: s11 :: .int .i64 now :: s13 :: s14 :: s15 :: s16 :: t17 :: s18 :: s19 :: s20 :: s21 :: s22 :: s23 :: s24 :: s25 :: s26 :: s27 :: s28 :: s29 :: s30 :: s31 :: s32 :: s33 :: s34 :: s35 :: s36 :: s37 :: s38 :: s39 :: s40 :: s41 :: s42 :: s43 :: s44 :: s45 :: s46 :: s47 :: s48 :: s49 :: s50 :: s51 :: s52 :: s53 :: s54 :: s55 :: s56 :: s57 :: s58 :: s59 :: s60 :: s61 :: s62 :: s63 :: s64 :: s65 :: s66 :: s67 :: s68 :: s69 :: s70 :: s71 :: s72 :: s73 :: s74 :: s75 :: s76 :: s77 :: s78 :: s79 :: s80 :: s81 :: s82 :: s83 :: s84 :: s85 :: s86 :: s87 :: s88 :: s89 :: s90 :: s91 :: s92 :: s93 :: s94 :: s95 :: s96 :: s97 :: s98 :: s99 :: s100 :: s101 :: s102 :: .int .i64 (wideL c : Int) :: .int .i64 (wideL c : Int) :: t105 :: t106 :: t107 :: t108 :: t109 :: t110 :: t111 :: t112 :: t113 :: t114 :: t115 :: t116 :: t117 :: t118 :: t119 :: t120 :: t121 :: t122 :: t123 :: t124 :: t125 :: t126 :: t127 :: t128 :: s129 :: s130 :: s131 :: s132 :: s133 :: s134 :: s135 :: s136 :: s137 :: s138 :: s139 :: s140 :: s141 :: s142 :: s143 :: s144 :: s145 :: s146 :: s147 :: s148 :: s149 :: s150 :: s151 :: s152 :: s153 :: s154 :: s155 :: s156 :: s157 :: s158 :: s159 :: s160 :: s161 :: s162 :: s163 :: s164 :: s165 :: s166 :: s167 :: s168 :: s169 :: s170 :: s171 :: s172 :: s173 :: s174 :: s175 :: s176 :: s177 :: s178 :: s179 :: s180 :: s181 :: s182 :: s183 :: s184 :: s185 :: s186 :: s187 :: s188 :: s189 :: s190 :: s191 :: s192 :: s193 :: s194 :: s195 :: s196 :: s197 :: s198 :: s199 :: s200 :: s201 :: s202 :: s203 :: s204 :: s205 :: s206 :: s207 :: s208 :: s209 :: s210 :: s211 :: s212 :: s213 :: s214 :: s215 :: s216 :: s217 :: s218 :: s219 :: s220 :: s221 :: s222 :: s223 :: s224 :: List.nil)), []⟩ W') :
    Code.wp Tryz.prog (Code.loop (raiseBody 4)) Q ⟨(List.toArray (s0 :: s1 :: s2 :: s3 :: s4 :: s5 :: s6 :: .slice (some ⟨bd, 0, none⟩) (wideL c) (wideL c) :: s8 :: s9 :: .slice (some ⟨bo, 0, none⟩) (wideL c) (wideL c) :: s11 :: .int .i64 (-1) :: s13 :: s14 :: s15 :: s16 :: s17 :: s18 :: s19 :: s20 :: s21 :: s22 :: s23 :: s24 :: s25 :: s26 :: s27 :: s28 :: s29 :: s30 :: s31 :: s32 :: s33 :: s34 :: s35 :: s36 :: s37 :: s38 :: s39 :: s40 :: s41 :: s42 :: s43 :: s44 :: s45 :: s46 :: s47 :: s48 :: s49 :: s50 :: s51 :: s52 :: s53 :: s54 :: s55 :: s56 :: s57 :: s58 :: s59 :: s60 :: s61 :: s62 :: s63 :: s64 :: s65 :: s66 :: s67 :: s68 :: s69 :: s70 :: s71 :: s72 :: s73 :: s74 :: s75 :: s76 :: s77 :: s78 :: s79 :: s80 :: s81 :: s82 :: s83 :: s84 :: s85 :: s86 :: s87 :: s88 :: s89 :: s90 :: s91 :: s92 :: s93 :: s94 :: s95 :: s96 :: s97 :: s98 :: s99 :: s100 :: s101 :: s102 :: .int .i64 (wideL c : Int) :: .int .i64 0 :: s105 :: s106 :: s107 :: s108 :: s109 :: s110 :: s111 :: s112 :: s113 :: s114 :: s115 :: s116 :: s117 :: s118 :: s119 :: s120 :: s121 :: s122 :: s123 :: s124 :: s125 :: s126 :: s127 :: s128 :: s129 :: s130 :: s131 :: s132 :: s133 :: s134 :: s135 :: s136 :: s137 :: s138 :: s139 :: s140 :: s141 :: s142 :: s143 :: s144 :: s145 :: s146 :: s147 :: s148 :: s149 :: s150 :: s151 :: s152 :: s153 :: s154 :: s155 :: s156 :: s157 :: s158 :: s159 :: s160 :: s161 :: s162 :: s163 :: s164 :: s165 :: s166 :: s167 :: s168 :: s169 :: s170 :: s171 :: s172 :: s173 :: s174 :: s175 :: s176 :: s177 :: s178 :: s179 :: s180 :: s181 :: s182 :: s183 :: s184 :: s185 :: s186 :: s187 :: s188 :: s189 :: s190 :: s191 :: s192 :: s193 :: s194 :: s195 :: s196 :: s197 :: s198 :: s199 :: s200 :: s201 :: s202 :: s203 :: s204 :: s205 :: s206 :: s207 :: s208 :: s209 :: s210 :: s211 :: s212 :: s213 :: s214 :: s215 :: s216 :: s217 :: s218 :: s219 :: s220 :: s221 :: s222 :: s223 :: s224 :: List.nil)), []⟩ W := by
  obtain ⟨f1, f2, f3, f4⟩ := formE_ok X.he
  have HX := Lib.hid X; have HS := Lib.hid S; have HQ := Lib.hid hexit
  clear X S f3 f4 hexit
  conv => arg 2; arg 1; whnf
  go_loopw [12, 104] (fun s12 i W => ∃ (j : Nat) (now : Int), j ≤ wideL c ∧ s12 = .int .i64 now ∧ i = .int .i64 j ∧ Sel dist ord j now ∧ SM (wideL c) bd bf bo wo W dist frm (fun j => ord.contains j)) (fun _ i _ => wideL c - (intOf i).toNat)
  case atStart => exact ⟨0, -1, Nat.zero_le _, rfl, rfl, Sel.start, HS.out⟩
  case round =>
    obtain ⟨j, now, hj, rfl, rfl, sl, S5⟩ := hrel
    have HS5 := Lib.hid S5; have HSl := Lib.hid sl; clear S5 HS sl
    by_cases hjn : j < wideL c
    · have gD : wr.cell? ⟨bo, j, none⟩ = some (.bool (ord.contains j)) := HS5.out.rb.cell hjn
      have gd : wr.cell? ⟨bd, j, none⟩ = some (.int .i64 (dist j)) := HS5.out.rd.cell hjn
      cases h2 : ord.contains j
      · rw [h2] at gD
        have H2 := Lib.hid (show j ∉ ord by simpa using h2); clear h2
        rcases HSl.out.cases with rfl | ⟨k0, rfl, hk0⟩
        · go_wp2
          have g0 := cell_regrown gD; have g1 := cell_regrown gd
          refine wp_quietB (by kernel_rfl) (by kernel_rfl) ?_
          repeat (go_big_quiet_step (fail))
          refine wpQuiet_nil ?_
          intro w5 hb
          replace HS5 := Lib.hid (HS5.out.below hb)
          clear hb g0 g1 gD gd
          go_wp2
          go_roundw
          case rel => exact ⟨j + 1, j, by omega, rfl, by go_num, HSl.out.first H2.out, HS5.out⟩
          case measure => simp [intOf]; omega
        · have gk : wr.cell? ⟨bd, k0, none⟩ = some (.int .i64 (dist k0)) := HS5.out.rd.cell (by omega)
          have hneg : decide ((k0 : Int) < 0) = false := by simp <;> omega
          by_cases h3 : dist j < dist k0
          · have H3 := Lib.hid h3
            have h3b : decide (dist j < dist k0) = true := by simpa using h3
            go_wp2
            have g0 := cell_regrown gD; have g1 := cell_regrown gd; have g2 := cell_regrown gk
            refine wp_quietB (by kernel_rfl) (by kernel_rfl) ?_
            repeat (go_big_quiet_step (fail))
            refine wpQuiet_nil ?_
            intro w5 hb
            replace HS5 := Lib.hid (HS5.out.below hb)
            clear hb g0 g1 g2 gD gd gk
            go_wp2
            go_roundw
            case rel => exact ⟨j + 1, j, by omega, rfl, by go_num, HSl.out.less H2.out H3.out, HS5.out⟩
            case measure => simp [intOf]; omega
          · have H3 := Lib.hid h3
            have h3b : decide (dist j < dist k0) = false := by simpa using h3
            go_wp2
            have g0 := cell_regrown gD; have g1 := cell_regrown gd; have g2 := cell_regrown gk
            refine wp_quietB (by kernel_rfl) (by kernel_rfl) ?_
            repeat (go_big_quiet_step (fail))
            refine wpQuiet_nil ?_
            intro w5 hb
            replace HS5 := Lib.hid (HS5.out.below hb)
            clear hb g0 g1 g2 gD gd gk
            go_wp2
            go_roundw
            case rel => exact ⟨j + 1, k0, by omega, rfl, by go_num, HSl.out.more (by have := H3.out; omega), HS5.out⟩
            case measure => simp [intOf]; omega
      · rw [h2] at gD
        have H2 := Lib.hid (show j ∈ ord by simpa using h2); clear h2
        go_wp2
        have g0 := cell_regrown gD; have g1 := cell_regrown gd
        refine wp_quietB (by kernel_rfl) (by kernel_rfl) ?_
        repeat (go_big_quiet_step (fail))
        refine wpQuiet_nil ?_
        intro w5 hb
        replace HS5 := Lib.hid (HS5.out.below hb)
        clear hb g0 g1 gD gd
        go_wp2
        go_roundw
        case rel => exact ⟨j + 1, now, by omega, rfl, by go_num, HSl.out.done H2.out, HS5.out⟩
        case measure => simp [intOf]; omega
    · have hjn' : j = wideL c := by omega
      subst hjn'
      go_wp2
      exact HQ.out _ _ _ _ _ _ _ _ _ _ _ _ _ _ _ _ _ _ _ _ _ _ _ _ _ now wr HSl.out HS5.out
end Go.Proofs.YtehdhbnbajfanaaGreat


/- match.raise: the search for the least way (its third loop). -/
namespace Go.Proofs.YtehdhbnbajfanaaGreat
set_option linter.unusedSimpArgs false
set_option linter.unusedVariables false
open Go.RowKit Go.Sort Go.Shelf

/-- What the search for the least way knows, a row not looked at yet. -/
def L3I (c : List (List Int)) (k : Nat) (u v ow : Nat → Int) (bd bf bo : Nat) (wo : World) (g : Nat) (s11 s12 s13 : Value) (W : World) : Prop :=
  ∃ (cur : Nat) (now base : Int) (dist frm : Nat → Int) (ord : List Nat), s11 = .int .i64 cur ∧ s12 = .int .i64 now ∧ s13 = .int .i64 base ∧ g + ord.length = wideL c + 1 ∧ SM (wideL c) bd bf bo wo W dist frm (fun j => ord.contains j) ∧ Dj (cc c) (wideL c) k u v ow true dist frm ord base cur ∧
    ((ord = [] ∧ now = -1) ∨ ∃ (k' : Nat) (ord0 : List Nat), ord = ord0 ++ [k'] ∧ now = (k' : Int))
theorem SM.mark {n bd bf bo : Nat} {wr W : World} {dist frm : Nat → Int} {ord : List Nat} (s : SM n bd bf bo wr W dist frm (fun j => ord.contains j)) {j : Nat} (hj : j < n) (n2 : bd ≠ bo) (n3 : bf ≠ bo) (h3 : wr.heap.size ≤ bo) :
    SM n bd bf bo wr (W.setCell ⟨bo, j, none⟩ (.bool true)) dist frm (fun x => (ord ++ [j]).contains x) :=
  ⟨s.rd.other n2 _, s.rf.other n3 _, (s.rb.set hj (.bool true)).congr fun x _ => by
    have e0 : (ord ++ [j]).contains x = upd (fun y => ord.contains y) j true x := congrFun (contains_app ord j) x
    rw [e0]
    by_cases e : x = j
    · subst e; simp only [upd_same]
    · simp only [upd_ne _ _ e], s.bel.setCell h3 _⟩
set_option maxRecDepth 1000000 in
set_option maxHeartbeats 4000000 in
theorem loop3_any {c : List (List Int)} {a : Option Addr} {cap k bp bu bv bow bd bf bo : Nat} {u v ow : Nat → Int} {wo : World} (X : RC c a k bp bu bv bow bd bf bo u v ow wo)
    {s1 s2 s3 s6 s9 s14 s15 s16 s17 s18 s19 s20 s21 s22 s23 s24 s25 s26 s27 s28 s29 s30 s31 s32 s33 s34 s35 s36 s37 s38 s39 s40 s41 s42 s43 s44 s45 s46 s47 s48 s49 s50 s51 s52 s53 s54 s55 s56 s57 s58 s59 s60 s61 s62 s63 s64 s65 s66 s67 s68 s69 s70 s71 s72 s73 s74 s75 s76 s77 s78 s79 s80 s81 s82 s83 s84 s85 s86 s87 s88 s89 s90 s91 s92 s93 s94 s95 s96 s97 s98 s99 s100 s101 s102 s103 s104 s105 s106 s107 s108 s109 s110 s111 s112 s113 s114 s115 s116 s117 s118 s119 s120 s121 s122 s123 s124 s125 s126 s127 s128 s129 s130 s131 s132 s133 s134 s135 s136 s137 s138 s139 s140 s141 s142 s143 s144 s145 s146 s147 s148 s149 s150 s151 s152 s153 s154 s155 s156 s157 s158 s159 s160 s161 s162 s163 s164 s165 s166 s167 s168 s169 s170 s171 s172 s173 s174 s175 s176 s177 s178 s179 s180 s181 s182 s183 s184 s185 s186 s187 s188 s189 s190 s191 s192 s193 s194 s195 s196 s197 s198 s199 s200 s201 s202 s203 s204 s205 s206 s207 s208 s209 s210 s211 s212 s213 s214 s215 s216 s217 s218 s219 s220 s221 s222 s223 s224 : Value} (Q : Exit → Act → World → Prop) (W : World) (S : SM (wideL c) bd bf bo wo W (fun _ => far) (fun _ => -1) (fun j => ([] : List Nat).contains j))
    (hexit : ∀ (t11 t14 t15 t16 t17 t51 t52 t53 t54 t55 t56 t57 t58 t59 t60 t61 t62 t63 t64 t65 t66 t67 t68 t69 t70 t71 t72 t73 t74 t75 t76 t77 t78 t79 t80 t81 t82 t83 t84 t85 t86 t87 t88 t89 t90 t91 t92 t93 t94 t95 t96 t97 t98 t99 t100 t101 t102 t103 t104 t105 t106 t107 t108 t109 t110 t111 t112 t113 t114 t115 t116 t117 t118 t119 t120 t121 t122 t123 t124 t125 t126 t127 t128 t129 t130 t131 t132 t133 t134 t135 t136 t137 t138 t139 t140 t141 t142 t143 t144 : Value) (k0 : Nat) (dist frm : Nat → Int) (ord : List Nat) (W' : World), Fin (cc c) (wideL c) k u v ow dist frm ord k0 → SM (wideL c) bd bf bo wo W' dist frm (fun j => (ord ++ [k0]).contains j) → Q (.exit 4) ⟨(List.toArray (.slice a c.length cap :: s1 :: s2 :: s3 :: .pointer (some ⟨bp, 0, none⟩) :: .slice (some ⟨bow, 0, none⟩) (wideL c) (wideL c) :: s6 :: .slice (some ⟨bd, 0, none⟩) (wideL c) (wideL c) :: .slice (some ⟨bf, 0, none⟩) (wideL c) (wideL c) :: s9 :: .slice (some ⟨bo, 0, none⟩) (wideL c) (wideL c) :: t11 :: .int .i64 (k0 : Int) :: .int .i64 (dist k0) :: t14 :: t15 :: t16 :: t17 :: s18 :: s19 :: s20 :: s21 :: s22 :: s23 :: s24 :: s25 :: s26 :: s27 :: s28 :: s29 :: s30 :: s31 :: s32 :: s33 :: s34 :: s35 :: s36 :: s37 :: s38 :: s39 :: s40 :: s41 :: s42 :: s43 :: s44 :: s45 :: s46 :: s47 :: s48 :: s49 :: s50 :: t51 :: t52 :: t53 :: t54 :: t55 :: t56 :: t57 :: t58 :: t59 :: t60 :: t61 :: t62 :: t63 :: t64 :: t65 :: t66 :: t67 :: t68 :: t69 :: t70 :: t71 :: t72 :: t73 :: t74 :: t75 :: t76 :: t77 :: t78 :: t79 :: t80 :: t81 :: t82 :: t83 :: t84 :: t85 :: t86 :: t87 :: t88 :: t89 :: t90 :: t91 :: t92 :: t93 :: t94 :: t95 :: t96 :: t97 :: t98 :: t99 :: t100 :: t101 :: t102 :: t103 :: t104 :: t105 :: t106 :: t107 :: t108 :: t109 :: t110 :: t111 :: t112 :: t113 :: t114 :: t115 :: t116 :: t117 :: t118 :: t119 :: t120 :: t121 :: t122 :: t123 :: t124 :: t125 :: t126 :: t127 :: t128 :: t129 :: t130 :: t131 :: t132 :: t133 :: t134 :: t135 :: t136 :: t137 :: t138 :: t139 :: t140 :: t141 :: t142 :: t143 :: t144 :: s145 :: s146 :: s147 :: s148 :: s149 :: s150 :: s151 :: s152 :: s153 :: s154 :: s155 :: s156 :: s157 :: s158 :: s159 :: s160 :: s161 :: s162 :: s163 :: s164 :: s165 :: s166 :: s167 :: s168 :: s169 :: s170 :: s171 :: s172 :: s173 :: s174 :: s175 :: s176 :: s177 :: s178 :: s179 :: s180 :: s181 :: s182 :: s183 :: s184 :: s185 :: s186 :: s187 :: s188 :: s189 :: s190 :: s191 :: s192 :: s193 :: s194 :: s195 :: s196 :: s197 :: s198 :: s199 :: s200 :: s201 :: s202 :: s203 :: s204 :: s205 :: s206 :: s207 :: s208 :: s209 :: s210 :: s211 :: s212 :: s213 :: s214 :: s215 :: s216 :: s217 :: s218 :: s219 :: s220 :: s221 :: s222 :: s223 :: s224 :: List.nil)), []⟩ W') :
    Code.wp Tryz.prog (Code.loop (raiseBody 2)) Q ⟨(List.toArray (.slice a c.length cap :: s1 :: s2 :: s3 :: .pointer (some ⟨bp, 0, none⟩) :: .slice (some ⟨bow, 0, none⟩) (wideL c) (wideL c) :: s6 :: .slice (some ⟨bd, 0, none⟩) (wideL c) (wideL c) :: .slice (some ⟨bf, 0, none⟩) (wideL c) (wideL c) :: s9 :: .slice (some ⟨bo, 0, none⟩) (wideL c) (wideL c) :: .int .i64 (k : Int) :: .int .i64 (-1) :: .int .i64 0 :: s14 :: s15 :: s16 :: s17 :: s18 :: s19 :: s20 :: s21 :: s22 :: s23 :: s24 :: s25 :: s26 :: s27 :: s28 :: s29 :: s30 :: s31 :: s32 :: s33 :: s34 :: s35 :: s36 :: s37 :: s38 :: s39 :: s40 :: s41 :: s42 :: s43 :: s44 :: s45 :: s46 :: s47 :: s48 :: s49 :: s50 :: s51 :: s52 :: s53 :: s54 :: s55 :: s56 :: s57 :: s58 :: s59 :: s60 :: s61 :: s62 :: s63 :: s64 :: s65 :: s66 :: s67 :: s68 :: s69 :: s70 :: s71 :: s72 :: s73 :: s74 :: s75 :: s76 :: s77 :: s78 :: s79 :: s80 :: s81 :: s82 :: s83 :: s84 :: s85 :: s86 :: s87 :: s88 :: s89 :: s90 :: s91 :: s92 :: s93 :: s94 :: s95 :: s96 :: s97 :: s98 :: s99 :: s100 :: s101 :: s102 :: s103 :: s104 :: s105 :: s106 :: s107 :: s108 :: s109 :: s110 :: s111 :: s112 :: s113 :: s114 :: s115 :: s116 :: s117 :: s118 :: s119 :: s120 :: s121 :: s122 :: s123 :: s124 :: s125 :: s126 :: s127 :: s128 :: s129 :: s130 :: s131 :: s132 :: s133 :: s134 :: s135 :: s136 :: s137 :: s138 :: s139 :: s140 :: s141 :: s142 :: s143 :: s144 :: s145 :: s146 :: s147 :: s148 :: s149 :: s150 :: s151 :: s152 :: s153 :: s154 :: s155 :: s156 :: s157 :: s158 :: s159 :: s160 :: s161 :: s162 :: s163 :: s164 :: s165 :: s166 :: s167 :: s168 :: s169 :: s170 :: s171 :: s172 :: s173 :: s174 :: s175 :: s176 :: s177 :: s178 :: s179 :: s180 :: s181 :: s182 :: s183 :: s184 :: s185 :: s186 :: s187 :: s188 :: s189 :: s190 :: s191 :: s192 :: s193 :: s194 :: s195 :: s196 :: s197 :: s198 :: s199 :: s200 :: s201 :: s202 :: s203 :: s204 :: s205 :: s206 :: s207 :: s208 :: s209 :: s210 :: s211 :: s212 :: s213 :: s214 :: s215 :: s216 :: s217 :: s218 :: s219 :: s220 :: s221 :: s222 :: s223 :: s224 :: List.nil)), []⟩ W := by
  obtain ⟨f1, f2, f3, f4⟩ := formE_ok X.he
  have HX := Lib.hid X; have HS := Lib.hid S; have HQ := Lib.hid hexit; have HF3 := Lib.hid f3
  have HCC := Lib.hid (cc_le f3 f4)
  have hkm := X.hk
  have HPS := Lib.hid (pot_small X.pot (by have := X.hk; omega) f1 f2 fun i k hi hk => (HCC.out i k hi hk).2)
  clear X S f3 f4 hexit
  conv => arg 2; arg 1; whnf
  go_loopg [11, 12, 13] (wideL c + 1) (fun g s11 s12 s13 W => L3I c k u v ow bd bf bo wo g s11 s12 s13 W)
  case atStart => exact ⟨k, -1, 0, _, _, [], rfl, rfl, rfl, by simp, HS.out, Dj.start _ _ _ _ _ _ _, .inl ⟨rfl, rfl⟩⟩
  case round =>
    obtain ⟨cur, now, base, dist, frm, ord, rfl, rfl, rfl, hg, S3, D, hnow⟩ := hrel
    have HS3 := Lib.hid S3; have HD := Lib.hid D; have HG := Lib.hid hg; have HN := Lib.hid hnow
    clear S3 D hg hnow HS
    have hcm : cur < c.length := by have := dj_cur HX.out.pot HD.out; omega
    obtain ⟨b1, off, ai, ci, rfl, c0, hsk, hik⟩ := HX.out.mat.get cur hcm
    have hc0 := cell_b HS3.out.bel c0
    rw [HF3.out c[cur] (List.getElem_mem _)] at hc0
    have HIK := Lib.hid hik
    clear c0 hsk hik
    go_wp2
    refine loop4_any HX.out cur now base dist frm ord ai ci hcm HIK.out _ _ HS3.out HD.out ?_
    intro t14 t15 t16 t56 t57 t58 t59 t60 t61 t62 t63 t64 t65 t66 t67 t68 t69 t70 t71 t72 t73 t74 t75 t76 t77 t78 t79 t80 t81 t82 t83 t84 t85 t86 t87 t88 t89 t90 t91 t92 t93 t94 t95 t96 t97 t98 t99 t100 t101 w4 S4
    have HS4 := Lib.hid S4; clear S4 hc0
    have HD4 := Lib.hid (HD.out.relax HX.out.pot (fun i k hi hk => (HCC.out i k (by omega) hk).2) (by have := HPS.out.1; omega) (by omega) HN.out)
    generalize rdist (cc c) u v ord base cur dist (wideL c) = dist2 at *
    generalize rfrm (cc c) u v ord base cur dist frm now (wideL c) = frm2 at *
    go_wp2
    refine loop5_any HX.out dist2 frm2 ord _ _ HS4.out ?_
    intro t17 t105 t106 t107 t108 t109 t110 t111 t112 t113 t114 t115 t116 t117 t118 t119 t120 t121 t122 t123 t124 t125 t126 t127 t128 now2 w5 sl S5
    have HS5 := Lib.hid S5; clear S5
    obtain ⟨k0, hk0, h1, h2, h3, h4⟩ := HD4.out.some HX.out.pot (fun i k hi hk => (HCC.out i k (by omega) hk).2) (by have := HPS.out.1; omega) (by omega) HX.out.mt hkm sl
    subst hk0
    have H2 := Lib.hid h2; have H3 := Lib.hid h3; have H4 := Lib.hid h4
    clear sl h2 h3 h4
    have gd : w5.cell? ⟨bd, k0, none⟩ = some (.int .i64 (dist2 k0)) := HS5.out.rd.cell h1
    have gb := HS5.out.rb.cell h1
    have gf := HS5.out.rb.free k0
    have RW := HX.out.rm.below HS5.out.bel
    have go : w5.cell? ⟨bow, k0, none⟩ = some (.int .i64 (ow k0)) := RW.ro.cell h1
    have nbo : bow ≠ bo := by have := HX.out.rm.lt; have := HX.out.le; omega
    clear RW
    rcases HX.out.pot.own.val k0 h1 trivial with e | ⟨i, e, e2, e3⟩
    · rw [e] at go
      have HE := Lib.hid e; clear e
      go_wp2
      exact HQ.out _ _ _ _ _ _ _ _ _ _ _ _ _ _ _ _ _ _ _ _ _ _ _ _ _ _ _ _ _ _ _ _ _ _ _ _ _ _ _ _ _ _ _ _ _ _ _ _ _ _ _ _ _ _ _ _ _ _ _ _ _ _ _ _ _ _ _ _ _ _ _ _ _ _ _ _ _ _ _ _ _ _ _ _ _ _ _ _ _ _ _ _ _ _ _ _ _ _ _ k0 dist2 frm2 ord _ (HD4.out.fin HX.out.pot h1 H2.out H3.out H4.out HE.out) (HS5.out.mark h1 HX.out.ne.2.1 HX.out.ne.2.2 HX.out.le.2.2)
    · rw [e] at go
      have HE := Lib.hid e; clear e
      have hng : ¬ ((i : Int) < 0) := by omega
      have hlen : ord.length ≤ wideL c := ord_len HD4.out.nod fun k hk => (HD4.out.lt k hk).1
      go_wp2
      go_roundg (gk - 1)
      case measure => have := HG.out; omega
      case rel => exact ⟨i, k0, dist2 k0, dist2, frm2, ord ++ [k0], rfl, rfl, rfl, by have := HG.out; simp; omega, HS5.out.mark h1 HX.out.ne.2.1 HX.out.ne.2.2 HX.out.le.2.2, HD4.out.next h1 H2.out H3.out H4.out HX.out.pot.own HE.out, .inr ⟨k0, ord, rfl, rfl⟩⟩
end Go.Proofs.YtehdhbnbajfanaaGreat


/- match.raise: the loop that raises prices (its sixth loop) and the one that gives columns anew (its seventh). -/
namespace Go.Proofs.YtehdhbnbajfanaaGreat
set_option linter.unusedSimpArgs false
set_option linter.unusedVariables false
open Go.RowKit Go.Sort Go.Shelf

/-- The rows of prices while they are raised. -/
structure PM (m n bu bv : Nat) (wr W : World) (u v : Nat → Int) : Prop where
  ru : RowAt W bu m 3 (iv u)
  rv : RowAt W bv n 3 (iv v)
theorem PM.below {m n bu bv : Nat} {wr W W' : World} {u v : Nat → Int} (s : PM m n bu bv wr W u v) (hb : Below W.heap.size W W') : PM m n bu bv wr W' u v := ⟨s.ru.below hb, s.rv.below hb⟩
/-- What is kept while prices are raised: all below B but the two rows. -/
def L6I (c : List (List Int)) (k bp bu bv bow bd bf bo : Nat) (u v ow : Nat → Int) (w6 : World) (k0 : Nat) (dist : Nat → Int) (ord : List Nat) (j : Nat) (W : World) : Prop :=
  ∃ u1 v1, RowAt W bu c.length 3 (iv u1) ∧ RowAt W bv (wideL c) 3 (iv v1) ∧ NewJ (wideL c) k u v ow dist ord (dist k0) j u1 v1 ∧ KeepB w6.heap.size [bu, bv] w6 W
set_option maxRecDepth 1000000 in
set_option maxHeartbeats 4000000 in
theorem loop6_any {c : List (List Int)} {a : Option Addr} {k bp bu bv bow bd bf bo : Nat} {u v ow : Nat → Int} {wo : World} (X : RC c a k bp bu bv bow bd bf bo u v ow wo) (k0 : Nat) (dist frm : Nat → Int) (ord : List Nat) (F : Fin (cc c) (wideL c) k u v ow dist frm ord k0)
    (hne : bp ≠ bu ∧ bp ≠ bv ∧ bu ≠ bv ∧ bow ≠ bu ∧ bow ≠ bv)
    {s0 s1 s2 s3 s6 s8 s9 s11 s14 s15 s16 s17 s18 s19 s20 s21 s22 s23 s24 s25 s26 s27 s28 s29 s30 s31 s32 s33 s34 s35 s36 s37 s38 s39 s40 s41 s42 s43 s44 s45 s46 s47 s48 s49 s50 s51 s52 s53 s54 s55 s56 s57 s58 s59 s60 s61 s62 s63 s64 s65 s66 s67 s68 s69 s70 s71 s72 s73 s74 s75 s76 s77 s78 s79 s80 s81 s82 s83 s84 s85 s86 s87 s88 s89 s90 s91 s92 s93 s94 s95 s96 s97 s98 s99 s100 s101 s102 s103 s104 s105 s106 s107 s108 s109 s110 s111 s112 s113 s114 s115 s116 s117 s118 s119 s120 s121 s122 s123 s124 s125 s126 s127 s128 s129 s130 s131 s132 s133 s134 s135 s136 s137 s138 s139 s140 s141 s142 s143 s144 s145 s146 s147 s148 s149 s150 s151 s152 s153 s156 s157 s158 s159 s160 s161 s162 s163 s164 s165 s166 s167 s168 s169 s170 s171 s172 s173 s174 s175 s176 s177 s178 s179 s180 s181 s182 s183 s184 s185 s186 s187 s188 s189 s190 s191 s192 s193 s194 s195 s196 s197 s198 s199 s200 s201 s202 s203 s204 s205 s206 s207 s208 s209 s210 s211 s212 s213 s214 s215 s216 s217 s218 s219 s220 s221 s222 s223 s224 : Value} (Q : Exit → Act → World → Prop) (w6 W : World) (u1 : Nat → Int)
    (xP : w6.heap[bp]? = some (.cells #[.slice (some ⟨bu, 0, none⟩) c.length c.length, .slice (some ⟨bv, 0, none⟩) (wideL c) (wideL c)] 95 (0, 0)))
    (rd : RowAt w6 bd (wideL c) 3 (iv dist)) (rb : RowAt w6 bo (wideL c) 4 (fun j => .bool ((ord ++ [k0]).contains j))) (ro : RowAt w6 bow (wideL c) 3 (iv ow))
    (I : L6I c k bp bu bv bow bd bf bo u v ow w6 k0 dist ord 0 W)
    (hexit : ∀ (t18 t156 t157 t158 t159 t160 t161 t162 t163 t164 t165 t166 t167 t168 t169 t170 t171 t172 t173 t174 t175 t176 t177 t178 t179 t180 t181 t182 t183 t184 t185 t186 t187 t188 t189 t190 t191 t192 t193 t194 t195 t196 : Value) (W' : World), L6I c k bp bu bv bow bd bf bo u v ow w6 k0 dist ord (wideL c) W' → Q (.exit 10) ⟨(List.toArray (s0 :: s1 :: s2 :: s3 :: .pointer (some ⟨bp, 0, none⟩) :: .slice (some ⟨bow, 0, none⟩) (wideL c) (wideL c) :: s6 :: .slice (some ⟨bd, 0, none⟩) (wideL c) (wideL c) :: s8 :: s9 :: .slice (some ⟨bo, 0, none⟩) (wideL c) (wideL c) :: s11 :: .int .i64 (k0 : Int) :: .int .i64 (dist k0) :: s14 :: s15 :: s16 :: s17 :: t18 :: s19 :: s20 :: s21 :: s22 :: s23 :: s24 :: s25 :: s26 :: s27 :: s28 :: s29 :: s30 :: s31 :: s32 :: s33 :: s34 :: s35 :: s36 :: s37 :: s38 :: s39 :: s40 :: s41 :: s42 :: s43 :: s44 :: s45 :: s46 :: s47 :: s48 :: s49 :: s50 :: s51 :: s52 :: s53 :: s54 :: s55 :: s56 :: s57 :: s58 :: s59 :: s60 :: s61 :: s62 :: s63 :: s64 :: s65 :: s66 :: s67 :: s68 :: s69 :: s70 :: s71 :: s72 :: s73 :: s74 :: s75 :: s76 :: s77 :: s78 :: s79 :: s80 :: s81 :: s82 :: s83 :: s84 :: s85 :: s86 :: s87 :: s88 :: s89 :: s90 :: s91 :: s92 :: s93 :: s94 :: s95 :: s96 :: s97 :: s98 :: s99 :: s100 :: s101 :: s102 :: s103 :: s104 :: s105 :: s106 :: s107 :: s108 :: s109 :: s110 :: s111 :: s112 :: s113 :: s114 :: s115 :: s116 :: s117 :: s118 :: s119 :: s120 :: s121 :: s122 :: s123 :: s124 :: s125 :: s126 :: s127 :: s128 :: s129 :: s130 :: s131 :: s132 :: s133 :: s134 :: s135 :: s136 :: s137 :: s138 :: s139 :: s140 :: s141 :: s142 :: s143 :: s144 :: s145 :: s146 :: s147 :: s148 :: s149 :: s150 :: s151 :: s152 :: s153 :: .int .i64 (wideL c : Int) :: .int .i64 (wideL c : Int) :: t156 :: t157 :: t158 :: t159 :: t160 :: t161 :: t162 :: t163 :: t164 :: t165 :: t166 :: t167 :: t168 :: t169 :: t170 :: t171 :: t172 :: t173 :: t174 :: t175 :: t176 :: t177 :: t178 :: t179 :: t180 :: t181 :: t182 :: t183 :: t184 :: t185 :: t186 :: t187 :: t188 :: t189 :: t190 :: t191 :: t192 :: t193 :: t194 :: t195 :: t196 :: s197 :: s198 :: s199 :: s200 :: s201 :: s202 :: s203 :: s204 :: s205 :: s206 :: s207 :: s208 :: s209 :: s210 :: s211 :: s212 :: s213 :: s214 :: s215 :: s216 :: s217 :: s218 :: s219 :: s220 :: s221 :: s222 :: s223 :: s224 :: List.nil)), []⟩ W') :
    Code.wp Tryz.prog (Code.loop (raiseBody 5)) Q ⟨(List.toArray (s0 :: s1 :: s2 :: s3 :: .pointer (some ⟨bp, 0, none⟩) :: .slice (some ⟨bow, 0, none⟩) (wideL c) (wideL c) :: s6 :: .slice (some ⟨bd, 0, none⟩) (wideL c) (wideL c) :: s8 :: s9 :: .slice (some ⟨bo, 0, none⟩) (wideL c) (wideL c) :: s11 :: .int .i64 (k0 : Int) :: .int .i64 (dist k0) :: s14 :: s15 :: s16 :: s17 :: s18 :: s19 :: s20 :: s21 :: s22 :: s23 :: s24 :: s25 :: s26 :: s27 :: s28 :: s29 :: s30 :: s31 :: s32 :: s33 :: s34 :: s35 :: s36 :: s37 :: s38 :: s39 :: s40 :: s41 :: s42 :: s43 :: s44 :: s45 :: s46 :: s47 :: s48 :: s49 :: s50 :: s51 :: s52 :: s53 :: s54 :: s55 :: s56 :: s57 :: s58 :: s59 :: s60 :: s61 :: s62 :: s63 :: s64 :: s65 :: s66 :: s67 :: s68 :: s69 :: s70 :: s71 :: s72 :: s73 :: s74 :: s75 :: s76 :: s77 :: s78 :: s79 :: s80 :: s81 :: s82 :: s83 :: s84 :: s85 :: s86 :: s87 :: s88 :: s89 :: s90 :: s91 :: s92 :: s93 :: s94 :: s95 :: s96 :: s97 :: s98 :: s99 :: s100 :: s101 :: s102 :: s103 :: s104 :: s105 :: s106 :: s107 :: s108 :: s109 :: s110 :: s111 :: s112 :: s113 :: s114 :: s115 :: s116 :: s117 :: s118 :: s119 :: s120 :: s121 :: s122 :: s123 :: s124 :: s125 :: s126 :: s127 :: s128 :: s129 :: s130 :: s131 :: s132 :: s133 :: s134 :: s135 :: s136 :: s137 :: s138 :: s139 :: s140 :: s141 :: s142 :: s143 :: s144 :: s145 :: s146 :: s147 :: s148 :: s149 :: s150 :: s151 :: s152 :: s153 :: .int .i64 (wideL c : Int) :: .int .i64 0 :: s156 :: s157 :: s158 :: s159 :: s160 :: s161 :: s162 :: s163 :: s164 :: s165 :: s166 :: s167 :: s168 :: s169 :: s170 :: s171 :: s172 :: s173 :: s174 :: s175 :: s176 :: s177 :: s178 :: s179 :: s180 :: s181 :: s182 :: s183 :: s184 :: s185 :: s186 :: s187 :: s188 :: s189 :: s190 :: s191 :: s192 :: s193 :: s194 :: s195 :: s196 :: s197 :: s198 :: s199 :: s200 :: s201 :: s202 :: s203 :: s204 :: s205 :: s206 :: s207 :: s208 :: s209 :: s210 :: s211 :: s212 :: s213 :: s214 :: s215 :: s216 :: s217 :: s218 :: s219 :: s220 :: s221 :: s222 :: s223 :: s224 :: List.nil)), []⟩ W := by
  obtain ⟨f1, f2, f3, f4⟩ := formE_ok X.he
  have HX := Lib.hid X; have HQ := Lib.hid hexit; have HF3 := Lib.hid f3; have HI := Lib.hid I; have HF := Lib.hid F; have Hxp := Lib.hid xP; have Hrd := Lib.hid rd; have Hrb := Lib.hid rb; have Hro := Lib.hid ro
  have HCC := Lib.hid (cc_le f3 f4)
  have hkm := X.hk
  have HPS := Lib.hid (pot_small X.pot (by have := X.hk; omega) f1 f2 fun i k hi hk => (HCC.out i k hi hk).2)
  obtain ⟨e1, e2, e3, e4, e5⟩ := hne
  have hbd : bd ≠ bu ∧ bd ≠ bv := by have := X.rm.lt; have := X.le; omega
  have hbo : bo ≠ bu ∧ bo ≠ bv := by have := X.rm.lt; have := X.le; omega
  obtain ⟨e6, e7⟩ := hbd
  obtain ⟨e8, e9⟩ := hbo
  have hD0 := F.pos
  have hD1 : dist k0 ≤ 200000000 := by have := F.bnd; omega
  have lp := lt_blk xP; have ld := rd.lt; have lb := rb.lt; have lo := ro.lt
  clear X f3 f4 hexit I F xP rd rb ro
  conv => arg 2; arg 1; whnf
  go_loopw [155] (fun i W => ∃ j : Nat, j ≤ wideL c ∧ i = .int .i64 j ∧ L6I c k bp bu bv bow bd bf bo u v ow w6 k0 dist ord j W) (fun i _ => wideL c - (intOf i).toNat)
  case atStart => exact ⟨0, Nat.zero_le _, rfl, HI.out⟩
  case round =>
    obtain ⟨j, hj, rfl, u1, v1, ru, rv, N, K⟩ := hrel
    have Hru := Lib.hid ru; have Hrv := Lib.hid rv; have HN := Lib.hid N; have HK := Lib.hid K
    clear ru rv N K HI
    by_cases hjn : j < wideL c
    · have gb : wr.cell? ⟨bo, j, none⟩ = some (.bool ((ord ++ [k0]).contains j)) := (Hrb.out.of_eq (HK.out.block bo lb (by simp; omega))).cell hjn
      cases hc : (ord ++ [k0]).contains j
      · rw [hc] at gb
        have HC := Lib.hid (show j ∉ ord by simp at hc; exact hc.1); clear hc
        go_wp2
        go_roundw
        case rel => exact ⟨j + 1, by omega, by go_num, u1, v1, Hru.out, Hrv.out, HN.out.skip HC.out, HK.out⟩
        case measure => simp [intOf]; omega
      · rw [hc] at gb
        by_cases hk0 : j = k0
        · have hq : ((j : Int) != (k0 : Int)) = false := by simp; omega
          have HC := Lib.hid (show j ∉ ord by rw [hk0]; exact HF.out.k0o); clear hc hk0
          go_wp2
          go_roundw
          case rel => exact ⟨j + 1, by omega, by go_num, u1, v1, Hru.out, Hrv.out, HN.out.skip HC.out, HK.out⟩
          case measure => simp [intOf]; omega
        · have hq : ((j : Int) != (k0 : Int)) = true := by simp; omega
          have HC := Lib.hid (show j ∈ ord by simp [hk0] at hc; exact hc); clear hc hk0
          obtain ⟨i, hi, hik, _⟩ := HF.out.ownR HX.out.pot j HC.out
          obtain ⟨n1, n2, N2⟩ := HN.out.step HC.out hjn hi (by omega) fun x hx y e e' => HX.out.pot.own.inj x j y (HF.out.lt x hx).1 hjn trivial trivial e e'
          have HN2 := Lib.hid N2; clear N2
          have gP := box_cells ((HK.out.block bp lp (by simp; omega)).trans Hxp.out)
          have gd : wr.cell? ⟨bd, j, none⟩ = some (.int .i64 (dist j)) := (Hrd.out.of_eq (HK.out.block bd ld (by simp; omega))).cell hjn
          have go : wr.cell? ⟨bow, j, none⟩ = some (.int .i64 (ow j)) := (Hro.out.of_eq (HK.out.block bow lo (by simp; omega))).cell hjn
          rw [hi] at go
          have gv : wr.cell? ⟨bv, j, none⟩ = some (.int .i64 (v1 j)) := Hrv.out.cell hjn
          have him : i < c.length := by omega
          have gu : wr.cell? ⟨bu, i, none⟩ = some (.int .i64 (u1 i)) := Hru.out.cell him
          rw [n1] at gv
          rw [n2] at gu
          have fv := Hrv.out.free j; have fu := Hru.out.free i
          obtain ⟨b1, b2⟩ := HPS.out.2.2 j hjn
          obtain ⟨b3, b4⟩ := HPS.out.2.1 i
          obtain ⟨b5, b6⟩ := HF.out.le j HC.out
          have HHi := Lib.hid hi
          clear n1 n2 hi
          go_wp2
          have g0 := cell_regrown (gP 1); have g1 := cell_regrown gv; have g2 := cell_regrown gd
          refine wp_tailB 13 (by kernel_rfl) (by kernel_rfl) ?_
          simp only [List.take_succ_cons, List.take_zero, List.drop_succ_cons, List.drop_zero]
          repeat (go_big_quiet_step (fail))
          refine wpQuiet_nil ?_
          intro w7 hb
          clear g0 g1 g2 fv fu gP gd go gv gu gb
          have sz := HK.out.size
          have Hru7 := Lib.hid (Hru.out.below hb); have Hrv7 := Lib.hid (Hrv.out.below hb)
          have HK7 := Lib.hid (HK.out.trans (KeepB.of_below hb sz))
          have fv := Hrv7.out.free j
          have gv7 : w7.cell? ⟨bv, j, none⟩ = some (.int .i64 (v1 j)) := Hrv7.out.cell hjn
          clear hb
          go_wp2
          have Hrv8 := Lib.hid ((Hrv7.out.set hjn (.int .i64 (v j - (dist k0 - dist j)))).congr fun _ _ => by rw [iv_upd])
          have Hru8 := Lib.hid (Hru7.out.other (c := bv) (k := j) e3 (.int .i64 (v j - (dist k0 - dist j))))
          have HK8 := Lib.hid (HK7.out.set (p := ⟨bv, j, none⟩) (.inl (by simp)) (.int .i64 (v j - (dist k0 - dist j))))
          generalize w7.setCell ⟨bv, j, none⟩ (.int .i64 (v j - (dist k0 - dist j))) = w8 at *
          clear fv gv7 Hru7 Hrv7 HK7
          have gP := box_cells ((HK8.out.block bp lp (by simp; omega)).trans Hxp.out)
          have gd : w8.cell? ⟨bd, j, none⟩ = some (.int .i64 (dist j)) := (Hrd.out.of_eq (HK8.out.block bd ld (by simp; omega))).cell hjn
          have go : w8.cell? ⟨bow, j, none⟩ = some (.int .i64 (i : Int)) := by rw [← HHi.out]; exact (Hro.out.of_eq (HK8.out.block bow lo (by simp; omega))).cell hjn
          have gu : w8.cell? ⟨bu, i, none⟩ = some (.int .i64 (u i)) := by
            have := HN.out.ho j HC.out i HHi.out
            rw [if_neg (by omega)] at this
            rw [← this]; exact Hru8.out.cell him
          have g0 := cell_regrown (gP 0); have g1 := cell_regrown gu; have g2 := cell_regrown gd; have g3 := cell_regrown go
          refine wp_tailB 16 (by kernel_rfl) (by kernel_rfl) ?_
          simp only [List.take_succ_cons, List.take_zero, List.drop_succ_cons, List.drop_zero]
          repeat (go_big_quiet_step (fail))
          refine wpQuiet_nil ?_
          intro w9 hb
          clear g0 g1 g2 g3 gP gd go gu
          have sz8 := HK8.out.size
          have Hru9 := Lib.hid (Hru8.out.below hb); have Hrv9 := Lib.hid (Hrv8.out.below hb)
          have HK9 := Lib.hid (HK8.out.trans (KeepB.of_below hb sz8))
          have fu := Hru9.out.free i
          have gu9 : w9.cell? ⟨bu, i, none⟩ = some (.int .i64 (u1 i)) := Hru9.out.cell him
          clear hb
          go_wp2
          go_roundw
          case rel => exact ⟨j + 1, by omega, by go_num, upd u1 i (u i + (dist k0 - dist j)), upd v1 j (v j - (dist k0 - dist j)), (Hru9.out.set him (.int .i64 (u i + (dist k0 - dist j)))).congr fun _ _ => by rw [iv_upd], Hrv9.out.other (Ne.symm e3) _, HN2.out, HK9.out.set (p := ⟨bu, i, none⟩) (.inl (by simp)) _⟩
          case measure => simp [intOf]; omega
    · have hjn' : j = wideL c := by omega
      subst hjn'
      go_wp2
      exact HQ.out _ _ _ _ _ _ _ _ _ _ _ _ _ _ _ _ _ _ _ _ _ _ _ _ _ _ _ _ _ _ _ _ _ _ _ _ _ _ _ _ _ _ wr ⟨u1, v1, Hru.out, Hrv.out, HN.out, HK.out⟩
end Go.Proofs.YtehdhbnbajfanaaGreat


/- match.raise: the loop that gives columns anew (its seventh). -/
namespace Go.Proofs.YtehdhbnbajfanaaGreat
set_option linter.unusedSimpArgs false
set_option linter.unusedVariables false
open Go.RowKit Go.Sort Go.Shelf

def L7I (c : List (List Int)) (k bow : Nat) (u' v' ow : Nat → Int) (ord : List Nat) (k0 : Nat) (w7 : World) (g : Nat) (s19 : Value) (W : World) : Prop :=
  ∃ (kk : Int) (o : Nat → Int), s19 = .int .i64 kk ∧ RowAt W bow (wideL c) 3 (iv o) ∧ KeepB w7.heap.size [bow] w7 W ∧
    ((∃ (k' : Nat) (pre : List Nat), kk = (k' : Int) ∧ g = pre.length + 2 ∧ Aug (cc c) (wideL c) k u' v' ow ord k0 k' pre o) ∨ (kk = -1 ∧ g = 1 ∧ Pot (cc c) (wideL c) (k + 1) ((k + 1 : Nat) * (wideL c * 1000000)) u' v' o))
set_option maxRecDepth 1000000 in
set_option maxHeartbeats 4000000 in
theorem loop7_any {c : List (List Int)} {a : Option Addr} {k bp bu bv bow bd bf bo : Nat} {u v ow : Nat → Int} {wo : World} (X : RC c a k bp bu bv bow bd bf bo u v ow wo) (k0 : Nat) (dist frm : Nat → Int) (ord : List Nat) (F : Fin (cc c) (wideL c) k u v ow dist frm ord k0)
    {s0 s1 s2 s3 s4 s7 s9 s10 s11 s12 s13 s14 s15 s16 s17 s18 s20 s21 s22 s23 s24 s25 s26 s27 s28 s29 s30 s31 s32 s33 s34 s35 s36 s37 s38 s39 s40 s41 s42 s43 s44 s45 s46 s47 s48 s49 s50 s51 s52 s53 s54 s55 s56 s57 s58 s59 s60 s61 s62 s63 s64 s65 s66 s67 s68 s69 s70 s71 s72 s73 s74 s75 s76 s77 s78 s79 s80 s81 s82 s83 s84 s85 s86 s87 s88 s89 s90 s91 s92 s93 s94 s95 s96 s97 s98 s99 s100 s101 s102 s103 s104 s105 s106 s107 s108 s109 s110 s111 s112 s113 s114 s115 s116 s117 s118 s119 s120 s121 s122 s123 s124 s125 s126 s127 s128 s129 s130 s131 s132 s133 s134 s135 s136 s137 s138 s139 s140 s141 s142 s143 s144 s145 s146 s147 s148 s149 s150 s151 s152 s153 s154 s155 s156 s157 s158 s159 s160 s161 s162 s163 s164 s165 s166 s167 s168 s169 s170 s171 s172 s173 s174 s175 s176 s177 s178 s179 s180 s181 s182 s183 s184 s185 s186 s187 s188 s189 s190 s191 s192 s193 s194 s195 s196 s197 s198 s199 s200 s201 s202 s203 s204 s205 s206 s207 s208 s209 s210 s211 s212 s213 s214 s215 s216 s217 s218 s219 s220 s221 s222 s223 s224 : Value} (Q : Exit → Act → World → Prop) (w7 : World) (u' v' : Nat → Int) (q : NewP (wideL c) k u v ow dist ord (dist k0) u' v')
    (rf : RowAt w7 bf (wideL c) 3 (iv frm)) (ro : RowAt w7 bow (wideL c) 3 (iv ow))
    (hexit : ∀ (t19 t198 t199 t200 t201 t202 t203 t204 t205 t206 t207 t208 t209 t210 t211 t212 t213 t214 t215 t216 t217 t218 t219 t220 t221 t222 : Value) (W' : World) (o : Nat → Int), RowAt W' bow (wideL c) 3 (iv o) → KeepB w7.heap.size [bow] w7 W' → Pot (cc c) (wideL c) (k + 1) ((k + 1 : Nat) * (wideL c * 1000000)) u' v' o → Q (.exit 12) ⟨(List.toArray (s0 :: s1 :: s2 :: s3 :: s4 :: .slice (some ⟨bow, 0, none⟩) (wideL c) (wideL c) :: .int .i64 (k : Int) :: s7 :: .slice (some ⟨bf, 0, none⟩) (wideL c) (wideL c) :: s9 :: s10 :: s11 :: s12 :: s13 :: s14 :: s15 :: s16 :: s17 :: s18 :: t19 :: s20 :: s21 :: s22 :: s23 :: s24 :: s25 :: s26 :: s27 :: s28 :: s29 :: s30 :: s31 :: s32 :: s33 :: s34 :: s35 :: s36 :: s37 :: s38 :: s39 :: s40 :: s41 :: s42 :: s43 :: s44 :: s45 :: s46 :: s47 :: s48 :: s49 :: s50 :: s51 :: s52 :: s53 :: s54 :: s55 :: s56 :: s57 :: s58 :: s59 :: s60 :: s61 :: s62 :: s63 :: s64 :: s65 :: s66 :: s67 :: s68 :: s69 :: s70 :: s71 :: s72 :: s73 :: s74 :: s75 :: s76 :: s77 :: s78 :: s79 :: s80 :: s81 :: s82 :: s83 :: s84 :: s85 :: s86 :: s87 :: s88 :: s89 :: s90 :: s91 :: s92 :: s93 :: s94 :: s95 :: s96 :: s97 :: s98 :: s99 :: s100 :: s101 :: s102 :: s103 :: s104 :: s105 :: s106 :: s107 :: s108 :: s109 :: s110 :: s111 :: s112 :: s113 :: s114 :: s115 :: s116 :: s117 :: s118 :: s119 :: s120 :: s121 :: s122 :: s123 :: s124 :: s125 :: s126 :: s127 :: s128 :: s129 :: s130 :: s131 :: s132 :: s133 :: s134 :: s135 :: s136 :: s137 :: s138 :: s139 :: s140 :: s141 :: s142 :: s143 :: s144 :: s145 :: s146 :: s147 :: s148 :: s149 :: s150 :: s151 :: s152 :: s153 :: s154 :: s155 :: s156 :: s157 :: s158 :: s159 :: s160 :: s161 :: s162 :: s163 :: s164 :: s165 :: s166 :: s167 :: s168 :: s169 :: s170 :: s171 :: s172 :: s173 :: s174 :: s175 :: s176 :: s177 :: s178 :: s179 :: s180 :: s181 :: s182 :: s183 :: s184 :: s185 :: s186 :: s187 :: s188 :: s189 :: s190 :: s191 :: s192 :: s193 :: s194 :: s195 :: s196 :: s197 :: t198 :: t199 :: t200 :: t201 :: t202 :: t203 :: t204 :: t205 :: t206 :: t207 :: t208 :: t209 :: t210 :: t211 :: t212 :: t213 :: t214 :: t215 :: t216 :: t217 :: t218 :: t219 :: t220 :: t221 :: t222 :: s223 :: s224 :: List.nil)), []⟩ W') :
    Code.wp Tryz.prog (Code.loop (raiseBody 6)) Q ⟨(List.toArray (s0 :: s1 :: s2 :: s3 :: s4 :: .slice (some ⟨bow, 0, none⟩) (wideL c) (wideL c) :: .int .i64 (k : Int) :: s7 :: .slice (some ⟨bf, 0, none⟩) (wideL c) (wideL c) :: s9 :: s10 :: s11 :: s12 :: s13 :: s14 :: s15 :: s16 :: s17 :: s18 :: .int .i64 (k0 : Int) :: s20 :: s21 :: s22 :: s23 :: s24 :: s25 :: s26 :: s27 :: s28 :: s29 :: s30 :: s31 :: s32 :: s33 :: s34 :: s35 :: s36 :: s37 :: s38 :: s39 :: s40 :: s41 :: s42 :: s43 :: s44 :: s45 :: s46 :: s47 :: s48 :: s49 :: s50 :: s51 :: s52 :: s53 :: s54 :: s55 :: s56 :: s57 :: s58 :: s59 :: s60 :: s61 :: s62 :: s63 :: s64 :: s65 :: s66 :: s67 :: s68 :: s69 :: s70 :: s71 :: s72 :: s73 :: s74 :: s75 :: s76 :: s77 :: s78 :: s79 :: s80 :: s81 :: s82 :: s83 :: s84 :: s85 :: s86 :: s87 :: s88 :: s89 :: s90 :: s91 :: s92 :: s93 :: s94 :: s95 :: s96 :: s97 :: s98 :: s99 :: s100 :: s101 :: s102 :: s103 :: s104 :: s105 :: s106 :: s107 :: s108 :: s109 :: s110 :: s111 :: s112 :: s113 :: s114 :: s115 :: s116 :: s117 :: s118 :: s119 :: s120 :: s121 :: s122 :: s123 :: s124 :: s125 :: s126 :: s127 :: s128 :: s129 :: s130 :: s131 :: s132 :: s133 :: s134 :: s135 :: s136 :: s137 :: s138 :: s139 :: s140 :: s141 :: s142 :: s143 :: s144 :: s145 :: s146 :: s147 :: s148 :: s149 :: s150 :: s151 :: s152 :: s153 :: s154 :: s155 :: s156 :: s157 :: s158 :: s159 :: s160 :: s161 :: s162 :: s163 :: s164 :: s165 :: s166 :: s167 :: s168 :: s169 :: s170 :: s171 :: s172 :: s173 :: s174 :: s175 :: s176 :: s177 :: s178 :: s179 :: s180 :: s181 :: s182 :: s183 :: s184 :: s185 :: s186 :: s187 :: s188 :: s189 :: s190 :: s191 :: s192 :: s193 :: s194 :: s195 :: s196 :: s197 :: s198 :: s199 :: s200 :: s201 :: s202 :: s203 :: s204 :: s205 :: s206 :: s207 :: s208 :: s209 :: s210 :: s211 :: s212 :: s213 :: s214 :: s215 :: s216 :: s217 :: s218 :: s219 :: s220 :: s221 :: s222 :: s223 :: s224 :: List.nil)), []⟩ w7 := by
  obtain ⟨f1, f2, f3, f4⟩ := formE_ok X.he
  have HX := Lib.hid X; have HQ := Lib.hid hexit; have HF := Lib.hid F; have Hq := Lib.hid q; have Hrf := Lib.hid rf; have Hro := Lib.hid ro
  have hkm := X.hk
  have hbf : bf ≠ bow := by have := X.rm.lt; have := X.le; omega
  have lf := rf.lt
  clear X f3 f4 hexit F q rf ro
  conv => arg 2; arg 1; whnf
  go_loopg [19] (ord.length + 2) (fun g s19 W => L7I c k bow u' v' ow ord k0 w7 g s19 W)
  case atStart => exact ⟨k0, ow, rfl, Hro.out, KeepB.refl _ _ _, .inl ⟨k0, ord, rfl, rfl, Aug.start HX.out.pot HF.out Hq.out⟩⟩
  case round =>
    obtain ⟨kk, o, rfl, r, K, h⟩ := hrel
    have Hr := Lib.hid r; have HK := Lib.hid K
    clear r K Hro
    rcases h with ⟨k', pre, rfl, hg, A⟩ | ⟨rfl, hg, P⟩
    · have HG := Lib.hid hg; have HA := Lib.hid A
      have hkn := A.hk
      have par := (A.par HF.out).1
      have Hpar := Lib.hid par
      clear hg A par
      have gf : wr.cell? ⟨bf, k', none⟩ = some (.int .i64 (frm k')) := (Hrf.out.of_eq (HK.out.block bf lf (by simp; omega))).cell hkn
      have fo := Hr.out.free k'
      have go : wr.cell? ⟨bow, k', none⟩ = some (.int .i64 (o k')) := Hr.out.cell hkn
      have hnn : ¬ ((k' : Int) < 0) := by omega
      rcases Hpar.out with ⟨e, _⟩ | ⟨k2, i, _, e, _⟩
      · rw [e] at gf
        have HE := Lib.hid e; clear e
        go_wp2
        go_roundg 1
        case measure => have := HG.out; omega
        case rel => exact ⟨-1, upd o k' (k : Int), rfl, (Hr.out.set hkn (.int .i64 (k : Int))).congr fun _ _ => by rw [iv_upd], HK.out.set (p := ⟨bow, k', none⟩) (.inl (by simp)) _, .inr ⟨rfl, rfl, by
          have := HA.out.last HX.out.pot HF.out Hq.out (by rw [HE.out]; decide)
          rw [show (((k + 1 : Nat) : Int) * ((wideL c : Int) * 1000000)) = (k : Int) * ((wideL c : Int) * 1000000) + (wideL c : Int) * 1000000 by rw [Int.natCast_add, Int.add_mul]; simp]
          exact this⟩⟩
      · rw [e] at gf
        obtain ⟨pre', s1, s2, s3, s4, s5, A2⟩ := HA.out.step HX.out.pot HF.out Hq.out e
        have HA2 := Lib.hid A2; have HS1 := Lib.hid s1
        clear A2 e s1 s5
        have go2 : wr.cell? ⟨bow, k2, none⟩ = some (.int .i64 (o k2)) := Hr.out.cell s2
        have hn2 : ¬ ((k2 : Int) < 0) := by omega
        go_wp2
        go_roundg (pre'.length + 2)
        case measure => have := HG.out; have := HS1.out; omega
        case rel => exact ⟨k2, upd o k' (o k2), rfl, (Hr.out.set hkn (.int .i64 (o k2))).congr fun _ _ => by rw [iv_upd], HK.out.set (p := ⟨bow, k', none⟩) (.inl (by simp)) _, .inl ⟨k2, pre', rfl, rfl, HA2.out⟩⟩
    · have HP := Lib.hid P; clear P
      go_wp2
      exact HQ.out _ _ _ _ _ _ _ _ _ _ _ _ _ _ _ _ _ _ _ _ _ _ _ _ _ _ wr o Hr.out HK.out HP.out
end Go.Proofs.YtehdhbnbajfanaaGreat


/- match.raise, walked. -/
namespace Go.Proofs.YtehdhbnbajfanaaGreat
set_option linter.unusedSimpArgs false
set_option linter.unusedVariables false
open Go.RowKit Go.Sort Go.Shelf

set_option maxRecDepth 100000 in
set_option maxHeartbeats 8000000 in
theorem raise_any (a : Option Addr) (cap : Nat) (c : List (List Int)) (w : World) (he : formE c = 0) (hm : MatAt w a c) (hs : SlOk a c.length cap) (hmt : Mtd (may (cc c)) (fun i => i < c.length) (wideL c)) :
    Calls Tryz.prog 80 #[.slice a c.length cap] w (RaisePost c w) := by
  have HS := Lib.hid hs; have HM := Lib.hid hm; have HMt := Lib.hid hmt; clear hs hm hmt
  obtain ⟨f1, f2, f3, f4⟩ := formE_ok he
  have HE := Lib.hid he; have HF3 := Lib.hid f3; have HF4 := Lib.hid f4; clear he f3 f4
  have hmk := fun (n : Nat) (hn : n ≤ 200) w => run_make_row' (P := Tryz.prog) 24 3 (.int .i64 0) 8 Tryz.underlying24 (by kernel_rfl) rfl .i64 .i64 n (by omega) (by omega) w
  have hmk1 := hmk c.length f1
  have hmk2 := hmk (wideL c) f2
  clear hmk
  have hmk3 := fun w => run_make_row' (P := Tryz.prog) 78 4 (.bool false) 1 Tryz.underlying78 (by kernel_rfl) rfl .i64 .i64 (wideL c) (by omega) (by omega) w
  go_enter Tryz.func80, Tryz.ntmps80
  go_wp2_with (fail)
  refine (wide_any a cap c _ (by omega) (HM.out.below ((Below.refl w.heap.size w).alloc (Nat.le_refl _) _))).mono ?_; rintro e w' ⟨rfl, rfl⟩
  have x0 := heap_alloc_new w (.cells #[.slice none 0 0, .slice none 0 0] 95)
  have hb := (Below.refl w.heap.size w).alloc (Nat.le_refl _) (.cells #[.slice none 0 0, .slice none 0 0] 95)
  generalize w.alloc (.cells #[.slice none 0 0, .slice none 0 0] 95) = w1 at *
  have HX0 := Lib.hid x0; have HB := Lib.hid hb; replace HM := Lib.hid (HM.out.below hb); clear x0 hb
  go_upto_region 2 with (fail)
  go_cut [4] (fun s4 W => ∃ bp bu bv : Nat, s4 = .pointer (some ⟨bp, 0, none⟩) ∧ RaiseStart c bp bu bv w1 W)
  case first => (go_region; all_goals (go_wp2_with (fail); go_meet; case rel => (obtain ⟨x1, x2, x3, xb⟩ := three w1 _ _ _; first | exact ⟨_, _, _, rfl, x1, RowAt.of_made x2, RowAt.of_made x3, xb, by omega, by omega, by omega, by omega⟩ | exact ⟨_, _, _, rfl, x1, RowAt.of_made x3, RowAt.of_made x2, xb, by omega, by omega, by omega, by omega⟩ | exact ⟨_, _, _, rfl, x2, RowAt.of_made x1, RowAt.of_made x3, xb, by omega, by omega, by omega, by omega⟩ | exact ⟨_, _, _, rfl, x2, RowAt.of_made x3, RowAt.of_made x1, xb, by omega, by omega, by omega, by omega⟩ | exact ⟨_, _, _, rfl, x3, RowAt.of_made x1, RowAt.of_made x2, xb, by omega, by omega, by omega, by omega⟩ | exact ⟨_, _, _, rfl, x3, RowAt.of_made x2, RowAt.of_made x1, xb, by omega, by omega, by omega, by omega⟩)))
  case rest =>
    obtain ⟨bp, bu, bv, rfl, xP, ru, rv, xb, ⟨g1, g2, g3⟩, d1, d2, d3⟩ := hcut
    have HxP := Lib.hid xP; have Hru := Lib.hid ru; have Hrv := Lib.hid rv; have HB1 := Lib.hid xb
    clear xP ru rv xb
    go_wp2_with (fail)
    refine (nobody_any _ _ (by omega)).mono ?_; rintro e W1 ⟨bow, rfl, g4, ro, hb⟩
    have l1 := lt_blk HxP.out; have l2 := Hru.out.lt; have l3 := Hrv.out.lt
    have R1 : RM c.length (wideL c) bp bu bv bow W1 (fun _ => 0) (fun _ => 0) (fun _ => -1) := ⟨blk_keep HxP.out hb, Hru.out.below hb, Hrv.out.below hb, ro⟩
    have HR1 := Lib.hid R1
    replace HB1 := Lib.hid (HB1.out.trans (hb.mono HB1.out.size))
    clear hb ro R1 HxP Hru Hrv
    have hds : (w1.heap.size ≤ bow ∧ bp ≠ bow ∧ bu ≠ bow ∧ bv ≠ bow) := ⟨by have := HB1.out.size; omega, by omega, by omega, by omega⟩
    obtain ⟨g5, d4, d5, d6⟩ := hds
    clear l1 l2 l3 g4
    go_wp2
    go_loopw [32] (fun i wr => ∃ k : Nat, k ≤ c.length ∧ i = .int .i64 k ∧ RaiseInv c bp bu bv bow w1 k wr) (fun i _ => c.length - (intOf i).toNat)
    case atStart => exact ⟨0, Nat.zero_le _, rfl, _, _, _, HR1.out, by rw [show ((0 : Nat) : Int) * _ = 0 from Int.zero_mul _]; exact Pot.start _ _, HB1.out⟩
    case round =>
      obtain ⟨k, hk, rfl, u, v, ow, R, P, b⟩ := hrel
      obtain ⟨wo, rfl⟩ : ∃ wo : World, wo = wr := ⟨_, rfl⟩
      have HR := Lib.hid R; have HP := Lib.hid P; have HBW := Lib.hid b
      clear R P b HR1 HB1
      have HMo := Lib.hid (HM.out.below HBW.out)
      have HCC := Lib.hid (cc_le HF3.out HF4.out)
      have HPS := Lib.hid (pot_small HP.out hk f1 f2 fun i k hi hk => (HCC.out i k hi hk).2)
      by_cases hlt : k < c.length
      · go_upto_region 7 with (fail)
        go_cut [7, 8] (fun s7 s8 W => ∃ bd bf : Nat, s7 = .slice (some ⟨bd, 0, none⟩) (wideL c) (wideL c) ∧ s8 = .slice (some ⟨bf, 0, none⟩) (wideL c) (wideL c) ∧ TwoRows (wideL c) wo bd bf W)
        case first =>
          have HB0 := Lib.hid (Below.refl wo.heap.size wo)
          go_region_held3 (fun _ => True) (exact trivial) ((go_at_call 83; refine (nobody_any _ _ (by omega)).mono ?_; rintro e w2 ⟨bn, rfl, hbn, hr, hb⟩; have HBN := Lib.hid hbn; have HRN := Lib.hid hr; have HBB := Lib.hid hb; clear hbn hr hb))
          all_goals
            go_wp2_with (fail)
            go_meet
            case rel =>
              first
                | exact ⟨_, _, rfl, rfl, two_A HBB.out HRN.out HBN.out⟩
                | exact ⟨_, _, rfl, rfl, two_A (drewB HBB.out) HRN.out HBN.out⟩
                | exact ⟨_, _, rfl, rfl, two_B HBB.out HRN.out HBN.out⟩
                | exact ⟨_, _, rfl, rfl, two_B (drewB HBB.out) HRN.out HBN.out⟩
        case rest =>
          obtain ⟨bd, bf, rfl, rfl, rd, rf, hbw, q1, q2, q3⟩ := hcut
          have Hrd := Lib.hid rd; have Hrf := Lib.hid rf; have HW := Lib.hid hbw
          clear rd rf hbw
          go_wp2
          go_loopw [41] (fun i W => ∃ j : Nat, j ≤ wideL c ∧ i = .int .i64 j ∧ RowAt W bd (wideL c) 3 (iv fun x => if x < j then far else 0) ∧ RowAt W bf (wideL c) 3 (iv fun _ => -1) ∧ Below wo.heap.size wo W) (fun i _ => wideL c - (intOf i).toNat)
          case atStart => exact ⟨0, Nat.zero_le _, rfl, Hrd.out.congr fun x _ => by simp [iv], Hrf.out, HW.out⟩
          case round =>
            obtain ⟨j, hj, rfl, rd, rf, hbw⟩ := hrel
            obtain ⟨w2, rfl⟩ : ∃ w2 : World, w2 = wr := ⟨_, rfl⟩
            have Hrd := Lib.hid rd; have Hrf := Lib.hid rf; have HW := Lib.hid hbw
            clear rd rf hbw
            by_cases hjn : j < wideL c
            ·
              have hcd := Hrd.out.cell hjn
              have hfd := Hrd.out.free j
              go_wp2
              go_roundw
              case rel => exact ⟨j + 1, by omega, by go_num, (Hrd.out.set hjn (.int .i64 1099511627776)).congr fun x hx => by
                by_cases e : x = j
                · subst e; simp [upd_same, iv, far]
                · rw [upd_ne _ _ e]
                  have e2 : (x < j) = (x < j + 1) := by rw [eq_iff_iff]; omega
                  simp only [iv, e2], Hrf.out.other (Ne.symm q3) _, HW.out.setCell q1 _⟩
              case measure => simp [intOf]; omega
            · have hjn' : j = wideL c := by omega
              subst hjn'
              go_wp2
              have rb := RowAt.made w2 (wideL c) 4 (.bool false)
              have hb := (Below.refl w2.heap.size w2).alloc (Nat.le_refl _) (.cells (madeCells #[.bool false] (wideL c)) 4)
              have hwz := HW.out.size
              have S0 : SM (wideL c) bd bf w2.heap.size wo (w2.alloc (.cells (madeCells #[.bool false] (wideL c)) 4)) (fun _ => far) (fun _ => -1) (fun j => ([] : List Nat).contains j) :=
                ⟨(Hrd.out.congr fun x hx => by simp [iv, hx]).below hb, Hrf.out.below hb, rb, HW.out.trans (hb.mono hwz)⟩
              have b1 := Hrd.out.lt
              have b2 := Hrf.out.lt
              have hwm : wo.heap.size ≤ w2.heap.size := hwz
              generalize w2.alloc (.cells (madeCells #[.bool false] (wideL c)) 4) = W3 at *
              generalize w2.heap.size = bo at *
              have HS0 := Lib.hid S0
              clear rb hb S0 hwz Hrd Hrf HW
              have X : RC c a k bp bu bv bow bd bf bo u v ow wo := ⟨HE.out, hlt, HR.out, HP.out, HMo.out, HMt.out, ⟨q3, by omega, by omega⟩, q1, q2, by omega⟩
              have HX := Lib.hid X; clear X
              refine loop3_any HX.out _ _ HS0.out ?_
              intro t11 t14 t15 t16 t17 t51 t52 t53 t54 t55 t56 t57 t58 t59 t60 t61 t62 t63 t64 t65 t66 t67 t68 t69 t70 t71 t72 t73 t74 t75 t76 t77 t78 t79 t80 t81 t82 t83 t84 t85 t86 t87 t88 t89 t90 t91 t92 t93 t94 t95 t96 t97 t98 t99 t100 t101 t102 t103 t104 t105 t106 t107 t108 t109 t110 t111 t112 t113 t114 t115 t116 t117 t118 t119 t120 t121 t122 t123 t124 t125 t126 t127 t128 t129 t130 t131 t132 t133 t134 t135 t136 t137 t138 t139 t140 t141 t142 t143 t144 k0 dist frm ord w4 F S4
              have HF := Lib.hid F; have HS4 := Lib.hid S4
              clear F S4 HS0
              have RW := HR.out.below HS4.out.bel
              have gP := box_cells RW.xP
              have gU : w4.cell? ⟨bu, k, none⟩ = some (.int .i64 (u k)) := RW.ru.cell hlt
              have fU := RW.ru.free k
              have hu1 := (HPS.out.2.1 k).1
              have hu2 := (HPS.out.2.1 k).2
              have hd1 := HF.out.pos
              have hd2 : dist k0 ≤ 200000000 := by have := HF.out.bnd; omega
              have HRW := Lib.hid RW; clear RW
              go_wp2
              have I0 : L6I c k bp bu bv bow bd bf bo u v ow w4 k0 dist ord 0 (w4.setCell ⟨bu, k, none⟩ (.int .i64 (u k + dist k0))) :=
                ⟨upd u k (u k + dist k0), v, (HRW.out.ru.set hlt (.int .i64 (u k + dist k0))).congr fun _ _ => by rw [iv_upd], HRW.out.rv.other (Ne.symm d3) _, NewJ.start fun x hx i e => by
                  obtain ⟨i', h1, h2, _⟩ := HF.out.ownR HP.out x hx
                  omega, (KeepB.refl _ _ _).set (p := ⟨bu, k, none⟩) (.inl (by simp)) _⟩
              refine loop6_any HX.out k0 dist frm ord HF.out ⟨d1, d2, d3, Ne.symm d5, Ne.symm d6⟩ _ w4 _ u HRW.out.xP HS4.out.rd HS4.out.rb HRW.out.ro I0 ?_
              intro t18 t156 t157 t158 t159 t160 t161 t162 t163 t164 t165 t166 t167 t168 t169 t170 t171 t172 t173 t174 t175 t176 t177 t178 t179 t180 t181 t182 t183 t184 t185 t186 t187 t188 t189 t190 t191 t192 t193 t194 t195 t196 w6 I6
              obtain ⟨u1, v1, ru, rv, N, K6⟩ := I6
              have Hru := Lib.hid ru; have Hrv := Lib.hid rv; have HN := Lib.hid (N.fin fun x hx => (HF.out.lt x hx).1); have HK6 := Lib.hid K6
              clear ru rv N K6 gP gU fU
              have lt4 := HRW.out.lt
              have lf4 := HS4.out.rf.lt
              obtain ⟨m1, m2, m3, m4⟩ := lt4
              have lo := HR.out.lt
              go_wp2
              refine loop7_any HX.out k0 dist frm ord HF.out _ w6 u1 v1 HN.out (HS4.out.rf.of_eq (HK6.out.block bf lf4 (by simp; omega))) (HRW.out.ro.of_eq (HK6.out.block bow m4 (by simp; omega))) ?_
              intro t19 t198 t199 t200 t201 t202 t203 t204 t205 t206 t207 t208 t209 t210 t211 t212 t213 t214 t215 t216 t217 t218 t219 t220 t221 t222 w8 o ro K8 P8
              have s6 := HK6.out.size
              have RM8 : RM c.length (wideL c) bp bu bv bow w8 u1 v1 o := ⟨(K8.block bp (by omega) (by simpa using d4)).trans ((HK6.out.block bp m1 (by simp; omega)).trans HRW.out.xP), Hru.out.of_eq (K8.block bu (by omega) (by simpa using d5)), Hrv.out.of_eq (K8.block bv (by omega) (by simpa using d6)), ro⟩
              have hw1 := HBW.out.size
              have B8 : Below w1.heap.size w1 w8 := (HBW.out.trans (HS4.out.bel.mono hw1)).trans (((HK6.out.weaken (S' := []) (B' := w1.heap.size) (by have := HS4.out.bel.size; omega) (fun x hx hlt => by simp at hx; omega)).trans (K8.weaken (S' := []) (B' := w1.heap.size) (by have := HS4.out.bel.size; omega) (fun x hx hlt => by simp at hx; omega))).below)
              have HRM := Lib.hid RM8; have HP8 := Lib.hid P8; have HB8 := Lib.hid B8
              clear RM8 P8 B8 ro K8
              go_wp2
              go_roundw
              case rel => exact ⟨k + 1, by omega, by go_num, u1, v1, o, HRM.out, HP8.out, HB8.out⟩
              case measure => simp [intOf]; omega
      · have hkm : k = c.length := by omega
        subst hkm
        have hcP := box_cells HR.out.xP
        have hcR := box_cells (blk_keep HX0.out HBW.out)
        have hfR := box_free (blk_keep HX0.out HBW.out)
        have HSZ := Lib.hid (show w.heap.size < w1.heap.size from lt_blk HX0.out)
        have ne1 : bu ≠ w.heap.size := by have := HSZ.out; omega
        have ne2 : bv ≠ w.heap.size := by have := HSZ.out; omega
        go_wp2
        exact bodyPost_ret (v := .agg #[.slice (some ⟨bu, 0, none⟩) c.length c.length, .slice (some ⟨bv, 0, none⟩) (wideL c) (wideL c)]) (by simp [results, Tryz.results80, go_sem, hcR, hfR]) rfl
          ⟨u, v, bu, bv, rfl, ⟨ow, HP.out⟩, (HR.out.ru.other ne1 _).other ne1 _, (HR.out.rv.other ne2 _).other ne2 _, ((HB.out.trans (HBW.out.mono HB.out.size)).setCell (by simp <;> omega) _).setCell (by simp <;> omega) _⟩
end Go.Proofs.YtehdhbnbajfanaaGreat
