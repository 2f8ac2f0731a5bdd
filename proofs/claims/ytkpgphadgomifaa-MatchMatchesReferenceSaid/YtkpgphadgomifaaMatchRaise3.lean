/- match.raise: the search for the least way (its third loop). -/
import Derived.Test.YtkpgphadgomifaaMatchRaise2
namespace Go.Proofs.Ytkpgphadgomifaa
set_option linter.unusedSimpArgs false
set_option linter.unusedVariables false
open Go.RowKit Go.Sort Go.Shelf

/-- What the search for the least way knows, a row not looked at yet. -/
def L3I (c : List (List Int)) (k : Nat) (u v ow : Nat → Int) (bd bf bo : Nat) (wo : World) (g : Nat) (s11 s12 s13 : Value) (W : World) : Prop :=
  ∃ (cur : Nat) (now base : Int) (dist frm : Nat → Int) (ord : List Nat), s11 = .int .i64 cur ∧ s12 = .int .i64 now ∧ s13 = .int .i64 base ∧ g + ord.length = wideL c + 1 ∧ SM (wideL c) bd bf bo wo W dist frm (fun j => ord.contains j) ∧ Dj (cc c) (wideL c) k u v ow true dist frm ord base cur ∧
    ((ord = [] ∧ now = -1) ∨ ∃ (k' : Nat) (ord0 : List Nat), ord = ord0 ++ [k'] ∧ now = (k' : Int))
theorem SM.mark {n bd bf bo : Nat} {wr W : World} {dist frm : Nat → Int} {ord : List Nat} (s : SM n bd bf bo wr W dist frm (fun j => ord.contains j)) {j : Nat} (hj : j < n) (n2 : bd ≠ bo) (n3 : bf ≠ bo) (h3 : wr.heap.size ≤ bo) :
    SM n bd bf bo wr (W.setCell ⟨bo, j, none⟩ (.bool true)) dist frm (fun x => (ord ++ [j]).contains x) :=
  ⟨s.rd.other n2 _, s.rf.other n3 _, (s.rb.set hj (.bool true)).congr fun x _ => by
    have e0 : (ord ++ [j]).contains x = upd (fun y => ord.contains y) j true x := congrFun (contains_app ord j) x
    rw [e0]
    by_cases e : x = j
    · subst e; simp only [upd_same]
    · simp only [upd_ne _ _ e], s.bel.setCell h3 _⟩
set_option maxRecDepth 1000000 in
set_option maxHeartbeats 4000000 in
theorem loop3_any {c : List (List Int)} {a : Option Addr} {cap k bp bu bv bow bd bf bo : Nat} {u v ow : Nat → Int} {wo : World} (X : RC c a k bp bu bv bow bd bf bo u v ow wo)
    {s1 s2 s3 s6 s9 s14 s15 s16 s17 s18 s19 s20 s21 s22 s23 s24 s25 s26 s27 s28 s29 s30 s31 s32 s33 s34 s35 s36 s37 s38 s39 s40 s41 s42 s43 s44 s45 s46 s47 s48 s49 s50 s51 s52 s53 s54 s55 s56 s57 s58 s59 s60 s61 s62 s63 s64 s65 s66 s67 s68 s69 s70 s71 s72 s73 s74 s75 s76 s77 s78 s79 s80 s81 s82 s83 s84 s85 s86 s87 s88 s89 s90 s91 s92 s93 s94 s95 s96 s97 s98 s99 s100 s101 s102 s103 s104 s105 s106 s107 s108 s109 s110 s111 s112 s113 s114 s115 s116 s117 s118 s119 s120 s121 s122 s123 s124 s125 s126 s127 s128 s129 s130 s131 s132 s133 s134 s135 s136 s137 s138 s139 s140 s141 s142 s143 s144 s145 s146 s147 s148 s149 s150 s151 s152 s153 s154 s155 s156 s157 s158 s159 s160 s161 s162 s163 s164 s165 s166 s167 s168 s169 s170 s171 s172 s173 s174 s175 s176 s177 s178 s179 s180 s181 s182 s183 s184 s185 s186 s187 s188 s189 s190 s191 s192 s193 s194 s195 s196 s197 s198 s199 s200 s201 s202 s203 s204 s205 s206 s207 s208 s209 s210 s211 s212 s213 s214 s215 s216 s217 s218 s219 s220 s221 s222 s223 s224 : Value} (Q : Exit → Act → World → Prop) (W : World) (S : SM (wideL c) bd bf bo wo W (fun _ => far) (fun _ => -1) (fun j => ([] : List Nat).contains j))
    (hexit : ∀ (t11 t14 t15 t16 t17 t51 t52 t53 t54 t55 t56 t57 t58 t59 t60 t61 t62 t63 t64 t65 t66 t67 t68 t69 t70 t71 t72 t73 t74 t75 t76 t77 t78 t79 t80 t81 t82 t83 t84 t85 t86 t87 t88 t89 t90 t91 t92 t93 t94 t95 t96 t97 t98 t99 t100 t101 t102 t103 t104 t105 t106 t107 t108 t109 t110 t111 t112 t113 t114 t115 t116 t117 t118 t119 t120 t121 t122 t123 t124 t125 t126 t127 t128 t129 t130 t131 t132 t133 t134 t135 t136 t137 t138 t139 t140 t141 t142 t143 t144 : Value) (k0 : Nat) (dist frm : Nat → Int) (ord : List Nat) (W' : World), Fin (cc c) (wideL c) k u v ow dist frm ord k0 → SM (wideL c) bd bf bo wo W' dist frm (fun j => (ord ++ [k0]).contains j) → Q (.exit 4) ⟨(List.toArray (.slice a c.length cap :: s1 :: s2 :: s3 :: .pointer (some ⟨bp, 0, none⟩) :: .slice (some ⟨bow, 0, none⟩) (wideL c) (wideL c) :: s6 :: .slice (some ⟨bd, 0, none⟩) (wideL c) (wideL c) :: .slice (some ⟨bf, 0, none⟩) (wideL c) (wideL c) :: s9 :: .slice (some ⟨bo, 0, none⟩) (wideL c) (wideL c) :: t11 :: .int .i64 (k0 : Int) :: .int .i64 (dist k0) :: t14 :: t15 :: t16 :: t17 :: s18 :: s19 :: s20 :: s21 :: s22 :: s23 :: s24 :: s25 :: s26 :: s27 :: s28 :: s29 :: s30 :: s31 :: s32 :: s33 :: s34 :: s35 :: s36 :: s37 :: s38 :: s39 :: s40 :: s41 :: s42 :: s43 :: s44 :: s45 :: s46 :: s47 :: s48 :: s49 :: s50 :: t51 :: t52 :: t53 :: t54 :: t55 :: t56 :: t57 :: t58 :: t59 :: t60 :: t61 :: t62 :: t63 :: t64 :: t65 :: t66 :: t67 :: t68 :: t69 :: t70 :: t71 :: t72 :: t73 :: t74 :: t75 :: t76 :: t77 :: t78 :: t79 :: t80 :: t81 :: t82 :: t83 :: t84 :: t85 :: t86 :: t87 :: t88 :: t89 :: t90 :: t91 :: t92 :: t93 :: t94 :: t95 :: t96 :: t97 :: t98 :: t99 :: t100 :: t101 :: t102 :: t103 :: t104 :: t105 :: t106 :: t107 :: t108 :: t109 :: t110 :: t111 :: t112 :: t113 :: t114 :: t115 :: t116 :: t117 :: t118 :: t119 :: t120 :: t121 :: t122 :: t123 :: t124 :: t125 :: t126 :: t127 :: t128 :: t129 :: t130 :: t131 :: t132 :: t133 :: t134 :: t135 :: t136 :: t137 :: t138 :: t139 :: t140 :: t141 :: t142 :: t143 :: t144 :: s145 :: s146 :: s147 :: s148 :: s149 :: s150 :: s151 :: s152 :: s153 :: s154 :: s155 :: s156 :: s157 :: s158 :: s159 :: s160 :: s161 :: s162 :: s163 :: s164 :: s165 :: s166 :: s167 :: s168 :: s169 :: s170 :: s171 :: s172 :: s173 :: s174 :: s175 :: s176 :: s177 :: s178 :: s179 :: s180 :: s181 :: s182 :: s183 :: s184 :: s185 :: s186 :: s187 :: s188 :: s189 :: s190 :: s191 :: s192 :: s193 :: s194 :: s195 :: s196 :: s197 :: s198 :: s199 :: s200 :: s201 :: s202 :: s203 :: s204 :: s205 :: s206 :: s207 :: s208 :: s209 :: s210 :: s211 :: s212 :: s213 :: s214 :: s215 :: s216 :: s217 :: s218 :: s219 :: s220 :: s221 :: s222 :: s223 :: s224 :: List.nil)), []⟩ W') :
    Code.wp Try.prog (Code.loop (raiseBody 2)) Q ⟨(List.toArray (.slice a c.length cap :: s1 :: s2 :: s3 :: .pointer (some ⟨bp, 0, none⟩) :: .slice (some ⟨bow, 0, none⟩) (wideL c) (wideL c) :: s6 :: .slice (some ⟨bd, 0, none⟩) (wideL c) (wideL c) :: .slice (some ⟨bf, 0, none⟩) (wideL c) (wideL c) :: s9 :: .slice (some ⟨bo, 0, none⟩) (wideL c) (wideL c) :: .int .i64 (k : Int) :: .int .i64 (-1) :: .int .i64 0 :: s14 :: s15 :: s16 :: s17 :: s18 :: s19 :: s20 :: s21 :: s22 :: s23 :: s24 :: s25 :: s26 :: s27 :: s28 :: s29 :: s30 :: s31 :: s32 :: s33 :: s34 :: s35 :: s36 :: s37 :: s38 :: s39 :: s40 :: s41 :: s42 :: s43 :: s44 :: s45 :: s46 :: s47 :: s48 :: s49 :: s50 :: s51 :: s52 :: s53 :: s54 :: s55 :: s56 :: s57 :: s58 :: s59 :: s60 :: s61 :: s62 :: s63 :: s64 :: s65 :: s66 :: s67 :: s68 :: s69 :: s70 :: s71 :: s72 :: s73 :: s74 :: s75 :: s76 :: s77 :: s78 :: s79 :: s80 :: s81 :: s82 :: s83 :: s84 :: s85 :: s86 :: s87 :: s88 :: s89 :: s90 :: s91 :: s92 :: s93 :: s94 :: s95 :: s96 :: s97 :: s98 :: s99 :: s100 :: s101 :: s102 :: s103 :: s104 :: s105 :: s106 :: s107 :: s108 :: s109 :: s110 :: s111 :: s112 :: s113 :: s114 :: s115 :: s116 :: s117 :: s118 :: s119 :: s120 :: s121 :: s122 :: s123 :: s124 :: s125 :: s126 :: s127 :: s128 :: s129 :: s130 :: s131 :: s132 :: s133 :: s134 :: s135 :: s136 :: s137 :: s138 :: s139 :: s140 :: s141 :: s142 :: s143 :: s144 :: s145 :: s146 :: s147 :: s148 :: s149 :: s150 :: s151 :: s152 :: s153 :: s154 :: s155 :: s156 :: s157 :: s158 :: s159 :: s160 :: s161 :: s162 :: s163 :: s164 :: s165 :: s166 :: s167 :: s168 :: s169 :: s170 :: s171 :: s172 :: s173 :: s174 :: s175 :: s176 :: s177 :: s178 :: s179 :: s180 :: s181 :: s182 :: s183 :: s184 :: s185 :: s186 :: s187 :: s188 :: s189 :: s190 :: s191 :: s192 :: s193 :: s194 :: s195 :: s196 :: s197 :: s198 :: s199 :: s200 :: s201 :: s202 :: s203 :: s204 :: s205 :: s206 :: s207 :: s208 :: s209 :: s210 :: s211 :: s212 :: s213 :: s214 :: s215 :: s216 :: s217 :: s218 :: s219 :: s220 :: s221 :: s222 :: s223 :: s224 :: List.nil)), []⟩ W := by
  obtain ⟨f1, f2, f3, f4⟩ := formE_ok X.he
  have HX := Lib.hid X; have HS := Lib.hid S; have HQ := Lib.hid hexit; have HF3 := Lib.hid f3
  have HCC := Lib.hid (cc_le f3 f4)
  have hkm := X.hk
  have HPS := Lib.hid (pot_small X.pot (by have := X.hk; omega) f1 f2 fun i k hi hk => (HCC.out i k hi hk).2)
  clear X S f3 f4 hexit
  conv => arg 2; arg 1; whnf
  go_loopg [11, 12, 13] (wideL c + 1) (fun g s11 s12 s13 W => L3I c k u v ow bd bf bo wo g s11 s12 s13 W)
  case atStart => exact ⟨k, -1, 0, _, _, [], rfl, rfl, rfl, by simp, HS.out, Dj.start _ _ _ _ _ _ _, .inl ⟨rfl, rfl⟩⟩
  case round =>
    obtain ⟨cur, now, base, dist, frm, ord, rfl, rfl, rfl, hg, S3, D, hnow⟩ := hrel
    have HS3 := Lib.hid S3; have HD := Lib.hid D; have HG := Lib.hid hg; have HN := Lib.hid hnow
    clear S3 D hg hnow HS
    have hcm : cur < c.length := by have := dj_cur HX.out.pot HD.out; omega
    obtain ⟨b1, off, ai, ci, rfl, c0, hsk, hik⟩ := HX.out.mat.get cur hcm
    have hc0 := cell_b HS3.out.bel c0
    rw [HF3.out c[cur] (List.getElem_mem _)] at hc0
    have HIK := Lib.hid hik
    clear c0 hsk hik
    go_wp2
    refine loop4_any HX.out cur now base dist frm ord ai ci hcm HIK.out _ _ HS3.out HD.out ?_
    intro t14 t15 t16 t56 t57 t58 t59 t60 t61 t62 t63 t64 t65 t66 t67 t68 t69 t70 t71 t72 t73 t74 t75 t76 t77 t78 t79 t80 t81 t82 t83 t84 t85 t86 t87 t88 t89 t90 t91 t92 t93 t94 t95 t96 t97 t98 t99 t100 t101 w4 S4
    have HS4 := Lib.hid S4; clear S4 hc0
    have HD4 := Lib.hid (HD.out.relax HX.out.pot (fun i k hi hk => (HCC.out i k (by omega) hk).2) (by have := HPS.out.1; omega) (by omega) HN.out)
    generalize rdist (cc c) u v ord base cur dist (wideL c) = dist2 at *
    generalize rfrm (cc c) u v ord base cur dist frm now (wideL c) = frm2 at *
    go_wp2
    refine loop5_any HX.out dist2 frm2 ord _ _ HS4.out ?_
    intro t17 t105 t106 t107 t108 t109 t110 t111 t112 t113 t114 t115 t116 t117 t118 t119 t120 t121 t122 t123 t124 t125 t126 t127 t128 now2 w5 sl S5
    have HS5 := Lib.hid S5; clear S5
    obtain ⟨k0, hk0, h1, h2, h3, h4⟩ := HD4.out.some HX.out.pot (fun i k hi hk => (HCC.out i k (by omega) hk).2) (by have := HPS.out.1; omega) (by omega) HX.out.mt hkm sl
    subst hk0
    have H2 := Lib.hid h2; have H3 := Lib.hid h3; have H4 := Lib.hid h4
    clear sl h2 h3 h4
    have gd : w5.cell? ⟨bd, k0, none⟩ = some (.int .i64 (dist2 k0)) := HS5.out.rd.cell h1
    have gb := HS5.out.rb.cell h1
    have gf := HS5.out.rb.free k0
    have RW := HX.out.rm.below HS5.out.bel
    have go : w5.cell? ⟨bow, k0, none⟩ = some (.int .i64 (ow k0)) := RW.ro.cell h1
    have nbo : bow ≠ bo := by have := HX.out.rm.lt; have := HX.out.le; omega
    clear RW
    rcases HX.out.pot.own.val k0 h1 trivial with e | ⟨i, e, e2, e3⟩
    · rw [e] at go
      have HE := Lib.hid e; clear e
      go_wp2
      exact HQ.out _ _ _ _ _ _ _ _ _ _ _ _ _ _ _ _ _ _ _ _ _ _ _ _ _ _ _ _ _ _ _ _ _ _ _ _ _ _ _ _ _ _ _ _ _ _ _ _ _ _ _ _ _ _ _ _ _ _ _ _ _ _ _ _ _ _ _ _ _ _ _ _ _ _ _ _ _ _ _ _ _ _ _ _ _ _ _ _ _ _ _ _ _ _ _ _ _ _ _ k0 dist2 frm2 ord _ (HD4.out.fin HX.out.pot h1 H2.out H3.out H4.out HE.out) (HS5.out.mark h1 HX.out.ne.2.1 HX.out.ne.2.2 HX.out.le.2.2)
    · rw [e] at go
      have HE := Lib.hid e; clear e
      have hng : ¬ ((i : Int) < 0) := by omega
      have hlen : ord.length ≤ wideL c := ord_len HD4.out.nod fun k hk => (HD4.out.lt k hk).1
      go_wp2
      go_roundg (gk - 1)
      case measure => have := HG.out; omega
      case rel => exact ⟨i, k0, dist2 k0, dist2, frm2, ord ++ [k0], rfl, rfl, rfl, by have := HG.out; simp; omega, HS5.out.mark h1 HX.out.ne.2.1 HX.out.ne.2.2 HX.out.le.2.2, HD4.out.next h1 H2.out H3.out H4.out HX.out.pot.own HE.out, .inr ⟨k0, ord, rfl, rfl⟩⟩
end Go.Proofs.Ytkpgphadgomifaa
