/- match.raise: the loop that looks at a row (its fourth loop). -/
import Derived.Test.YtkpgphadgomifaaMatchRaise0
import Derived.Deep.LoopGhost
namespace Go.Proofs.Ytkpgphadgomifaa
set_option linter.unusedSimpArgs false
set_option linter.unusedVariables false
open Go.RowKit Go.Sort Go.Shelf

/-- The bodies of all loops, in the order of the text. -/
def loopsOf : Code → List Code
  | .loop c => c :: loopsOf c
  | .seq a b => loopsOf a ++ loopsOf b
  | .block _ c => loopsOf c
  | .scope c => loopsOf c
  | .cond _ a b => loopsOf a ++ loopsOf b
  | _ => []
noncomputable def raiseBody (i : Nat) : Code := ((Try.f35.body.map loopsOf).getD []).getD i .skip
/-- What holds of all that a round of raise leaves alone. -/
structure RC (c : List (List Int)) (a : Option Addr) (k bp bu bv bow bd bf bo : Nat) (u v ow : Nat → Int) (wo : World) : Prop where
  he : formE c = 0
  hk : k < c.length
  rm : RM c.length (wideL c) bp bu bv bow wo u v ow
  pot : Pot (cc c) (wideL c) k (k * (wideL c * 1000000)) u v ow
  mat : MatAt wo a c
  mt : Mtd (may (cc c)) (fun i => i < c.length) (wideL c)
  ne : bd ≠ bf ∧ bd ≠ bo ∧ bf ≠ bo
  le : wo.heap.size ≤ bd ∧ wo.heap.size ≤ bf ∧ wo.heap.size ≤ bo
set_option maxRecDepth 1000000 in
set_option maxHeartbeats 4000000 in
theorem loop4_any {c : List (List Int)} {a : Option Addr} {k bp bu bv bow bd bf bo : Nat} {u v ow : Nat → Int} {wo : World} (X : RC c a k bp bu bv bow bd bf bo u v ow wo) (cur : Nat) (now base : Int) (dist frm : Nat → Int) (ord : List Nat) (ai : Option Addr) (ci : Nat) (hcm : cur < c.length) (hik : InAt wo ai c[cur])
    {s0 s1 s2 s3 s5 s6 s9 s14 s15 s16 s17 s18 s19 s20 s21 s22 s23 s24 s25 s26 s27 s28 s29 s30 s31 s32 s33 s34 s35 s36 s37 s38 s39 s40 s41 s42 s43 s44 s45 s46 s47 s48 s49 s50 s51 s52 s53 s57 s58 s59 s60 s61 s62 s63 s64 s65 s66 s67 s68 s69 s70 s71 s72 s73 s74 s75 s76 s77 s78 s79 s80 s81 s82 s83 s84 s85 s86 s87 s88 s89 s90 s91 s92 s93 s94 s95 s96 s97 s98 s99 s100 s101 s102 s103 s104 s105 s106 s107 s108 s109 s110 s111 s112 s113 s114 s115 s116 s117 s118 s119 s120 s121 s122 s123 s124 s125 s126 s127 s128 s129 s130 s131 s132 s133 s134 s135 s136 s137 s138 s139 s140 s141 s142 s143 s144 s145 s146 s147 s148 s149 s150 s151 s152 s153 s154 s155 s156 s157 s158 s159 s160 s161 s162 s163 s164 s165 s166 s167 s168 s169 s170 s171 s172 s173 s174 s175 s176 s177 s178 s179 s180 s181 s182 s183 s184 s185 s186 s187 s188 s189 s190 s191 s192 s193 s194 s195 s196 s197 s198 s199 s200 s201 s202 s203 s204 s205 s206 s207 s208 s209 s210 s211 s212 s213 s214 s215 s216 s217 s218 s219 s220 s221 s222 s223 s224 : Value} (Q : Exit → Act → World → Prop) (W : World) (S : SM (wideL c) bd bf bo wo W dist frm (fun j => ord.contains j)) (D : Dj (cc c) (wideL c) k u v ow true dist frm ord base cur)
    (hexit : ∀ (t14 t15 t16 t56 t57 t58 t59 t60 t61 t62 t63 t64 t65 t66 t67 t68 t69 t70 t71 t72 t73 t74 t75 t76 t77 t78 t79 t80 t81 t82 t83 t84 t85 t86 t87 t88 t89 t90 t91 t92 t93 t94 t95 t96 t97 t98 t99 t100 t101 : Value) (W' : World), SM (wideL c) bd bf bo wo W' (rdist (cc c) u v ord base cur dist (wideL c)) (rfrm (cc c) u v ord base cur dist frm now (wideL c)) (fun j => ord.contains j) → Q (.exit 6) ⟨(List.toArray (s0 :: s1 :: s2 :: s3 :: .pointer (some ⟨bp, 0, none⟩) :: s5 :: s6 :: .slice (some ⟨bd, 0, none⟩) (wideL c) (wideL c) :: .slice (some ⟨bf, 0, none⟩) (wideL c) (wideL c) :: s9 :: .slice (some ⟨bo, 0, none⟩) (wideL c) (wideL c) :: .int .i64 (cur : Int) :: .int .i64 now :: .int .i64 base :: t14 :: t15 :: t16 :: s17 :: s18 :: s19 :: s20 :: s21 :: s22 :: s23 :: s24 :: s25 :: s26 :: s27 :: s28 :: s29 :: s30 :: s31 :: s32 :: s33 :: s34 :: s35 :: s36 :: s37 :: s38 :: s39 :: s40 :: s41 :: s42 :: s43 :: s44 :: s45 :: s46 :: s47 :: s48 :: s49 :: s50 :: s51 :: s52 :: s53 :: .slice ai (wideL c) ci :: .int .i64 (wideL c : Int) :: t56 :: t57 :: t58 :: t59 :: t60 :: t61 :: t62 :: t63 :: t64 :: t65 :: t66 :: t67 :: t68 :: t69 :: t70 :: t71 :: t72 :: t73 :: t74 :: t75 :: t76 :: t77 :: t78 :: t79 :: t80 :: t81 :: t82 :: t83 :: t84 :: t85 :: t86 :: t87 :: t88 :: t89 :: t90 :: t91 :: t92 :: t93 :: t94 :: t95 :: t96 :: t97 :: t98 :: t99 :: t100 :: t101 :: s102 :: s103 :: s104 :: s105 :: s106 :: s107 :: s108 :: s109 :: s110 :: s111 :: s112 :: s113 :: s114 :: s115 :: s116 :: s117 :: s118 :: s119 :: s120 :: s121 :: s122 :: s123 :: s124 :: s125 :: s126 :: s127 :: s128 :: s129 :: s130 :: s131 :: s132 :: s133 :: s134 :: s135 :: s136 :: s137 :: s138 :: s139 :: s140 :: s141 :: s142 :: s143 :: s144 :: s145 :: s146 :: s147 :: s148 :: s149 :: s150 :: s151 :: s152 :: s153 :: s154 :: s155 :: s156 :: s157 :: s158 :: s159 :: s160 :: s161 :: s162 :: s163 :: s164 :: s165 :: s166 :: s167 :: s168 :: s169 :: s170 :: s171 :: s172 :: s173 :: s174 :: s175 :: s176 :: s177 :: s178 :: s179 :: s180 :: s181 :: s182 :: s183 :: s184 :: s185 :: s186 :: s187 :: s188 :: s189 :: s190 :: s191 :: s192 :: s193 :: s194 :: s195 :: s196 :: s197 :: s198 :: s199 :: s200 :: s201 :: s202 :: s203 :: s204 :: s205 :: s206 :: s207 :: s208 :: s209 :: s210 :: s211 :: s212 :: s213 :: s214 :: s215 :: s216 :: s217 :: s218 :: s219 :: s220 :: s221 :: s222 :: s223 :: s224 :: List.nil)), []⟩ W') :
    Code.wp Try.prog (Code.loop (raiseBody 3)) Q ⟨(List.toArray (s0 :: s1 :: s2 :: s3 :: .pointer (some ⟨bp, 0, none⟩) :: s5 :: s6 :: .slice (some ⟨bd, 0, none⟩) (wideL c) (wideL c) :: .slice (some ⟨bf, 0, none⟩) (wideL c) (wideL c) :: s9 :: .slice (some ⟨bo, 0, none⟩) (wideL c) (wideL c) :: .int .i64 (cur : Int) :: .int .i64 now :: .int .i64 base :: s14 :: s15 :: s16 :: s17 :: s18 :: s19 :: s20 :: s21 :: s22 :: s23 :: s24 :: s25 :: s26 :: s27 :: s28 :: s29 :: s30 :: s31 :: s32 :: s33 :: s34 :: s35 :: s36 :: s37 :: s38 :: s39 :: s40 :: s41 :: s42 :: s43 :: s44 :: s45 :: s46 :: s47 :: s48 :: s49 :: s50 :: s51 :: s52 :: s53 :: .slice ai (wideL c) ci :: .int .i64 (wideL c : Int) :: .int .i64 0 :: s57 :: s58 :: s59 :: s60 :: s61 :: s62 :: s63 :: s64 :: s65 :: s66 :: s67 :: s68 :: s69 :: s70 :: s71 :: s72 :: s73 :: s74 :: s75 :: s76 :: s77 :: s78 :: s79 :: s80 :: s81 :: s82 :: s83 :: s84 :: s85 :: s86 :: s87 :: s88 :: s89 :: s90 :: s91 :: s92 :: s93 :: s94 :: s95 :: s96 :: s97 :: s98 :: s99 :: s100 :: s101 :: s102 :: s103 :: s104 :: s105 :: s106 :: s107 :: s108 :: s109 :: s110 :: s111 :: s112 :: s113 :: s114 :: s115 :: s116 :: s117 :: s118 :: s119 :: s120 :: s121 :: s122 :: s123 :: s124 :: s125 :: s126 :: s127 :: s128 :: s129 :: s130 :: s131 :: s132 :: s133 :: s134 :: s135 :: s136 :: s137 :: s138 :: s139 :: s140 :: s141 :: s142 :: s143 :: s144 :: s145 :: s146 :: s147 :: s148 :: s149 :: s150 :: s151 :: s152 :: s153 :: s154 :: s155 :: s156 :: s157 :: s158 :: s159 :: s160 :: s161 :: s162 :: s163 :: s164 :: s165 :: s166 :: s167 :: s168 :: s169 :: s170 :: s171 :: s172 :: s173 :: s174 :: s175 :: s176 :: s177 :: s178 :: s179 :: s180 :: s181 :: s182 :: s183 :: s184 :: s185 :: s186 :: s187 :: s188 :: s189 :: s190 :: s191 :: s192 :: s193 :: s194 :: s195 :: s196 :: s197 :: s198 :: s199 :: s200 :: s201 :: s202 :: s203 :: s204 :: s205 :: s206 :: s207 :: s208 :: s209 :: s210 :: s211 :: s212 :: s213 :: s214 :: s215 :: s216 :: s217 :: s218 :: s219 :: s220 :: s221 :: s222 :: s223 :: s224 :: List.nil)), []⟩ W := by
  obtain ⟨f1, f2, f3, f4⟩ := formE_ok X.he
  have HX := Lib.hid X; have HS := Lib.hid S; have HD := Lib.hid D; have HIK := Lib.hid hik
  have HCC := Lib.hid (cc_le f3 f4)
  have HLen := Lib.hid (f3 c[cur] (List.getElem_mem _))
  have HPS := Lib.hid (pot_small X.pot (by have := X.hk; omega) f1 f2 fun i k hi hk => (HCC.out i k hi hk).2)
  have HQ := Lib.hid hexit; have HNE := Lib.hid X.ne; have HLE := Lib.hid X.le
  clear hexit
  have hb01 := D.b0.1
  have hb02 : base < 1099511627776 := D.b0.2
  have hu01 := (HPS.out.2.1 cur).1
  have hu02 := (HPS.out.2.1 cur).2
  clear X S D hik f3 f4
  conv => arg 2; arg 1; whnf
  go_loopw [56] (fun i W => ∃ j : Nat, j ≤ wideL c ∧ i = .int .i64 j ∧ SM (wideL c) bd bf bo wo W (rdist (cc c) u v ord base cur dist j) (rfrm (cc c) u v ord base cur dist frm now j) (fun j => ord.contains j)) (fun i _ => wideL c - (intOf i).toNat)
  case atStart => exact ⟨0, Nat.zero_le _, rfl, by rw [rdist_zero, rfrm_zero]; exact HS.out⟩
  case round =>
    obtain ⟨j, hj, rfl, S4⟩ := hrel
    have HS4 := Lib.hid S4; clear S4 HS
    by_cases hjn : j < wideL c
    · obtain ⟨b2, off2, rfl, d0⟩ := HIK.out.get j (by have := HLen.out; omega)
      rw [← cc_get hcm (by have := HLen.out; omega)] at d0
      have hd0 := cell_b HS4.out.bel d0
      have hN := HCC.out cur j hcm hjn
      obtain ⟨hN1, hN2⟩ := hN
      obtain ⟨hv1, hv2⟩ := HPS.out.2.2 j hjn
      have RW := HX.out.rm.below HS4.out.bel
      have gP := box_cells RW.xP
      have gU : wr.cell? ⟨bu, cur, none⟩ = some (.int .i64 (u cur)) := RW.ru.cell hcm
      have gV : wr.cell? ⟨bv, j, none⟩ = some (.int .i64 (v j)) := RW.rv.cell hjn
      clear RW d0
      go_wp2
      have g0 := cell_regrown (gP 0); have g1 := cell_regrown (gP 1); have g2 := cell_regrown gU; have g3 := cell_regrown gV
      refine wp_quietB (by kernel_rfl) (by kernel_rfl) ?_
      repeat (go_big_quiet_step (fail))
      refine wpQuiet_nil ?_
      intro w5 hb
      replace HS4 := Lib.hid (HS4.out.below hb)
      clear hb g0 g1 g2 g3 gP gU gV hd0
      have gD : w5.cell? ⟨bo, j, none⟩ = some (.bool (ord.contains j)) := HS4.out.rb.cell hjn
      have gd : w5.cell? ⟨bd, j, none⟩ = some (.int .i64 (dist j)) := by have := HS4.out.rd.cell hjn; rw [this]; simp only [iv, rdist_at]
      by_cases h1 : 0 ≤ cc c cur j
      · cases h2 : ord.contains j
        · rw [h2] at gD
          have H2 := Lib.hid (show j ∉ ord by simpa using h2); clear h2
          by_cases h3 : base + cc c cur j - u cur - v j < dist j
          · have H3 := Lib.hid h3; have H1 := Lib.hid h1
            have hfd := HS4.out.rd.free j; have hff := HS4.out.rf.free j
            have gf : w5.cell? ⟨bf, j, none⟩ = some (.int .i64 (rfrm (cc c) u v ord base cur dist frm now j j)) := HS4.out.rf.cell hjn
            have nbd := HNE.out.1
            go_wp2
            go_roundw
            case rel => exact ⟨j + 1, by omega, by go_num, by
              obtain ⟨e1, e2⟩ := rdist_yes (now := now) (frm := frm) H1.out H2.out H3.out
              rw [e1, e2]
              exact HS4.out.set hjn HLE.out.1 HLE.out.2.1 HNE.out.1 HNE.out.2.1 HNE.out.2.2 _ _⟩
            case measure => simp [intOf]; omega
          · have H3 := Lib.hid h3
            have h3' : ¬ (base + cc c cur j - u cur - v j < dist j) := h3
            go_wp2
            go_roundw
            case rel => exact ⟨j + 1, by omega, by go_num, by
              obtain ⟨e1, e2⟩ := rdist_no (C := cc c) (u := u) (v := v) (dist := dist) (frm := frm) (ord := ord) (base := base) (now := now) (cur := cur) (j := j) fun x => H3.out x.2.2
              rw [e1, e2]; exact HS4.out⟩
            case measure => simp [intOf]; omega
        · rw [h2] at gD
          have H2 := Lib.hid (show j ∈ ord by simpa using h2); clear h2
          go_wp2
          go_roundw
          case rel => exact ⟨j + 1, by omega, by go_num, by
            obtain ⟨e1, e2⟩ := rdist_no (C := cc c) (u := u) (v := v) (dist := dist) (frm := frm) (ord := ord) (base := base) (now := now) (cur := cur) (j := j) fun x => x.2.1 H2.out
            rw [e1, e2]; exact HS4.out⟩
          case measure => simp [intOf]; omega
      · have H1 := Lib.hid h1
        go_wp2
        go_roundw
        case rel => exact ⟨j + 1, by omega, by go_num, by
          obtain ⟨e1, e2⟩ := rdist_no (C := cc c) (u := u) (v := v) (dist := dist) (frm := frm) (ord := ord) (base := base) (now := now) (cur := cur) (j := j) fun x => H1.out x.1
          rw [e1, e2]; exact HS4.out⟩
        case measure => simp [intOf]; omega
    · have hjn' : j = wideL c := by omega
      subst hjn'
      go_wp2
      exact HQ.out _ _ _ _ _ _ _ _ _ _ _ _ _ _ _ _ _ _ _ _ _ _ _ _ _ _ _ _ _ _ _ _ _ _ _ _ _ _ _ _ _ _ _ _ _ _ _ _ _ wr HS4.out
end Go.Proofs.Ytkpgphadgomifaa
