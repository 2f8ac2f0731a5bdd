/- match.raise: the loop that looks for the nearest column (its fifth loop). -/
import Derived.Test.YtkpgphadgomifaaMatchRaise1
namespace Go.Proofs.Ytkpgphadgomifaa
set_option linter.unusedSimpArgs false
set_option linter.unusedVariables false
open Go.RowKit Go.Sort Go.Shelf

set_option maxRecDepth 1000000 in
set_option maxHeartbeats 4000000 in
theorem loop5_any {c : List (List Int)} {a : Option Addr} {k bp bu bv bow bd bf bo : Nat} {u v ow : Nat → Int} {wo : World} (X : RC c a k bp bu bv bow bd bf bo u v ow wo) (dist frm : Nat → Int) (ord : List Nat)
    {s0 s1 s2 s3 s4 s5 s6 s8 s9 s11 s13 s14 s15 s16 s17 s18 s19 s20 s21 s22 s23 s24 s25 s26 s27 s28 s29 s30 s31 s32 s33 s34 s35 s36 s37 s38 s39 s40 s41 s42 s43 s44 s45 s46 s47 s48 s49 s50 s51 s52 s53 s54 s55 s56 s57 s58 s59 s60 s61 s62 s63 s64 s65 s66 s67 s68 s69 s70 s71 s72 s73 s74 s75 s76 s77 s78 s79 s80 s81 s82 s83 s84 s85 s86 s87 s88 s89 s90 s91 s92 s93 s94 s95 s96 s97 s98 s99 s100 s101 s102 s105 s106 s107 s108 s109 s110 s111 s112 s113 s114 s115 s116 s117 s118 s119 s120 s121 s122 s123 s124 s125 s126 s127 s128 s129 s130 s131 s132 s133 s134 s135 s136 s137 s138 s139 s140 s141 s142 s143 s144 s145 s146 s147 s148 s149 s150 s151 s152 s153 s154 s155 s156 s157 s158 s159 s160 s161 s162 s163 s164 s165 s166 s167 s168 s169 s170 s171 s172 s173 s174 s175 s176 s177 s178 s179 s180 s181 s182 s183 s184 s185 s186 s187 s188 s189 s190 s191 s192 s193 s194 s195 s196 s197 s198 s199 s200 s201 s202 s203 s204 s205 s206 s207 s208 s209 s210 s211 s212 s213 s214 s215 s216 s217 s218 s219 s220 s221 s222 s223 s224 : Value} (Q : Exit → Act → World → Prop) (W : World) (S : SM (wideL c) bd bf bo wo W dist frm (fun j => ord.contains j))
    (hexit : ∀ (t17 t105 t106 t107 t108 t109 t110 t111 t112 t113 t114 t115 t116 t117 t118 t119 t120 t121 t122 t123 t124 t125 t126 t127 t128 : Value) (now : Int) (W' : World), Sel dist ord (wideL c) now → SM (wideL c) bd bf bo wo W' dist frm (fun j => ord.contains j) → Q (.exit 8) ⟨(List.toArray (s0 :: s1 :: s2 :: s3 :: s4 :: s5 :: s6 :: .slice (some ⟨bd, 0, none⟩) (wideL c) (wideL c) :: s8 :: s9 :: .slice (some ⟨bo, 0, none⟩) (wideL c) (wideL c) :: s11 :: .int .i64 now :: s13 :: s14 :: s15 :: s16 :: t17 :: s18 :: s19 :: s20 :: s21 :: s22 :: s23 :: s24 :: s25 :: s26 :: s27 :: s28 :: s29 :: s30 :: s31 :: s32 :: s33 :: s34 :: s35 :: s36 :: s37 :: s38 :: s39 :: s40 :: s41 :: s42 :: s43 :: s44 :: s45 :: s46 :: s47 :: s48 :: s49 :: s50 :: s51 :: s52 :: s53 :: s54 :: s55 :: s56 :: s57 :: s58 :: s59 :: s60 :: s61 :: s62 :: s63 :: s64 :: s65 :: s66 :: s67 :: s68 :: s69 :: s70 :: s71 :: s72 :: s73 :: s74 :: s75 :: s76 :: s77 :: s78 :: s79 :: s80 :: s81 :: s82 :: s83 :: s84 :: s85 :: s86 :: s87 :: s88 :: s89 :: s90 :: s91 :: s92 :: s93 :: s94 :: s95 :: s96 :: s97 :: s98 :: s99 :: s100 :: s101 :: s102 :: .int .i64 (wideL c : Int) :: .int .i64 (wideL c : Int) :: t105 :: t106 :: t107 :: t108 :: t109 :: t110 :: t111 :: t112 :: t113 :: t114 :: t115 :: t116 :: t117 :: t118 :: t119 :: t120 :: t121 :: t122 :: t123 :: t124 :: t125 :: t126 :: t127 :: t128 :: s129 :: s130 :: s131 :: s132 :: s133 :: s134 :: s135 :: s136 :: s137 :: s138 :: s139 :: s140 :: s141 :: s142 :: s143 :: s144 :: s145 :: s146 :: s147 :: s148 :: s149 :: s150 :: s151 :: s152 :: s153 :: s154 :: s155 :: s156 :: s157 :: s158 :: s159 :: s160 :: s161 :: s162 :: s163 :: s164 :: s165 :: s166 :: s167 :: s168 :: s169 :: s170 :: s171 :: s172 :: s173 :: s174 :: s175 :: s176 :: s177 :: s178 :: s179 :: s180 :: s181 :: s182 :: s183 :: s184 :: s185 :: s186 :: s187 :: s188 :: s189 :: s190 :: s191 :: s192 :: s193 :: s194 :: s195 :: s196 :: s197 :: s198 :: s199 :: s200 :: s201 :: s202 :: s203 :: s204 :: s205 :: s206 :: s207 :: s208 :: s209 :: s210 :: s211 :: s212 :: s213 :: s214 :: s215 :: s216 :: s217 :: s218 :: s219 :: s220 :: s221 :: s222 :: s223 :: s224 :: List.nil)), []⟩ W') :
    Code.wp Try.prog (Code.loop (raiseBody 4)) Q ⟨(List.toArray (s0 :: s1 :: s2 :: s3 :: s4 :: s5 :: s6 :: .slice (some ⟨bd, 0, none⟩) (wideL c) (wideL c) :: s8 :: s9 :: .slice (some ⟨bo, 0, none⟩) (wideL c) (wideL c) :: s11 :: .int .i64 (-1) :: s13 :: s14 :: s15 :: s16 :: s17 :: s18 :: s19 :: s20 :: s21 :: s22 :: s23 :: s24 :: s25 :: s26 :: s27 :: s28 :: s29 :: s30 :: s31 :: s32 :: s33 :: s34 :: s35 :: s36 :: s37 :: s38 :: s39 :: s40 :: s41 :: s42 :: s43 :: s44 :: s45 :: s46 :: s47 :: s48 :: s49 :: s50 :: s51 :: s52 :: s53 :: s54 :: s55 :: s56 :: s57 :: s58 :: s59 :: s60 :: s61 :: s62 :: s63 :: s64 :: s65 :: s66 :: s67 :: s68 :: s69 :: s70 :: s71 :: s72 :: s73 :: s74 :: s75 :: s76 :: s77 :: s78 :: s79 :: s80 :: s81 :: s82 :: s83 :: s84 :: s85 :: s86 :: s87 :: s88 :: s89 :: s90 :: s91 :: s92 :: s93 :: s94 :: s95 :: s96 :: s97 :: s98 :: s99 :: s100 :: s101 :: s102 :: .int .i64 (wideL c : Int) :: .int .i64 0 :: s105 :: s106 :: s107 :: s108 :: s109 :: s110 :: s111 :: s112 :: s113 :: s114 :: s115 :: s116 :: s117 :: s118 :: s119 :: s120 :: s121 :: s122 :: s123 :: s124 :: s125 :: s126 :: s127 :: s128 :: s129 :: s130 :: s131 :: s132 :: s133 :: s134 :: s135 :: s136 :: s137 :: s138 :: s139 :: s140 :: s141 :: s142 :: s143 :: s144 :: s145 :: s146 :: s147 :: s148 :: s149 :: s150 :: s151 :: s152 :: s153 :: s154 :: s155 :: s156 :: s157 :: s158 :: s159 :: s160 :: s161 :: s162 :: s163 :: s164 :: s165 :: s166 :: s167 :: s168 :: s169 :: s170 :: s171 :: s172 :: s173 :: s174 :: s175 :: s176 :: s177 :: s178 :: s179 :: s180 :: s181 :: s182 :: s183 :: s184 :: s185 :: s186 :: s187 :: s188 :: s189 :: s190 :: s191 :: s192 :: s193 :: s194 :: s195 :: s196 :: s197 :: s198 :: s199 :: s200 :: s201 :: s202 :: s203 :: s204 :: s205 :: s206 :: s207 :: s208 :: s209 :: s210 :: s211 :: s212 :: s213 :: s214 :: s215 :: s216 :: s217 :: s218 :: s219 :: s220 :: s221 :: s222 :: s223 :: s224 :: List.nil)), []⟩ W := by
  obtain ⟨f1, f2, f3, f4⟩ := formE_ok X.he
  have HX := Lib.hid X; have HS := Lib.hid S; have HQ := Lib.hid hexit
  clear X S f3 f4 hexit
  conv => arg 2; arg 1; whnf
  go_loopw [12, 104] (fun s12 i W => ∃ (j : Nat) (now : Int), j ≤ wideL c ∧ s12 = .int .i64 now ∧ i = .int .i64 j ∧ Sel dist ord j now ∧ SM (wideL c) bd bf bo wo W dist frm (fun j => ord.contains j)) (fun _ i _ => wideL c - (intOf i).toNat)
  case atStart => exact ⟨0, -1, Nat.zero_le _, rfl, rfl, Sel.start, HS.out⟩
  case round =>
    obtain ⟨j, now, hj, rfl, rfl, sl, S5⟩ := hrel
    have HS5 := Lib.hid S5; have HSl := Lib.hid sl; clear S5 HS sl
    by_cases hjn : j < wideL c
    · have gD : wr.cell? ⟨bo, j, none⟩ = some (.bool (ord.contains j)) := HS5.out.rb.cell hjn
      have gd : wr.cell? ⟨bd, j, none⟩ = some (.int .i64 (dist j)) := HS5.out.rd.cell hjn
      cases h2 : ord.contains j
      · rw [h2] at gD
        have H2 := Lib.hid (show j ∉ ord by simpa using h2); clear h2
        rcases HSl.out.cases with rfl | ⟨k0, rfl, hk0⟩
        · go_wp2
          have g0 := cell_regrown gD; have g1 := cell_regrown gd
          refine wp_quietB (by kernel_rfl) (by kernel_rfl) ?_
          repeat (go_big_quiet_step (fail))
          refine wpQuiet_nil ?_
          intro w5 hb
          replace HS5 := Lib.hid (HS5.out.below hb)
          clear hb g0 g1 gD gd
          go_wp2
          go_roundw
          case rel => exact ⟨j + 1, j, by omega, rfl, by go_num, HSl.out.first H2.out, HS5.out⟩
          case measure => simp [intOf]; omega
        · have gk : wr.cell? ⟨bd, k0, none⟩ = some (.int .i64 (dist k0)) := HS5.out.rd.cell (by omega)
          have hneg : decide ((k0 : Int) < 0) = false := by simp <;> omega
          by_cases h3 : dist j < dist k0
          · have H3 := Lib.hid h3
            have h3b : decide (dist j < dist k0) = true := by simpa using h3
            go_wp2
            have g0 := cell_regrown gD; have g1 := cell_regrown gd; have g2 := cell_regrown gk
            refine wp_quietB (by kernel_rfl) (by kernel_rfl) ?_
            repeat (go_big_quiet_step (fail))
            refine wpQuiet_nil ?_
            intro w5 hb
            replace HS5 := Lib.hid (HS5.out.below hb)
            clear hb g0 g1 g2 gD gd gk
            go_wp2
            go_roundw
            case rel => exact ⟨j + 1, j, by omega, rfl, by go_num, HSl.out.less H2.out H3.out, HS5.out⟩
            case measure => simp [intOf]; omega
          · have H3 := Lib.hid h3
            have h3b : decide (dist j < dist k0) = false := by simpa using h3
            go_wp2
            have g0 := cell_regrown gD; have g1 := cell_regrown gd; have g2 := cell_regrown gk
            refine wp_quietB (by kernel_rfl) (by kernel_rfl) ?_
            repeat (go_big_quiet_step (fail))
            refine wpQuiet_nil ?_
            intro w5 hb
            replace HS5 := Lib.hid (HS5.out.below hb)
            clear hb g0 g1 g2 gD gd gk
            go_wp2
            go_roundw
            case rel => exact ⟨j + 1, k0, by omega, rfl, by go_num, HSl.out.more (by have := H3.out; omega), HS5.out⟩
            case measure => simp [intOf]; omega
      · rw [h2] at gD
        have H2 := Lib.hid (show j ∈ ord by simpa using h2); clear h2
        go_wp2
        have g0 := cell_regrown gD; have g1 := cell_regrown gd
        refine wp_quietB (by kernel_rfl) (by kernel_rfl) ?_
        repeat (go_big_quiet_step (fail))
        refine wpQuiet_nil ?_
        intro w5 hb
        replace HS5 := Lib.hid (HS5.out.below hb)
        clear hb g0 g1 gD gd
        go_wp2
        go_roundw
        case rel => exact ⟨j + 1, now, by omega, rfl, by go_num, HSl.out.done H2.out, HS5.out⟩
        case measure => simp [intOf]; omega
    · have hjn' : j = wideL c := by omega
      subst hjn'
      go_wp2
      exact HQ.out _ _ _ _ _ _ _ _ _ _ _ _ _ _ _ _ _ _ _ _ _ _ _ _ _ now wr HSl.out HS5.out
end Go.Proofs.Ytkpgphadgomifaa
