/- match.raise: the loop that raises prices (its sixth loop) and the one that gives columns anew (its seventh). -/
import Derived.Test.YtkpgphadgomifaaMatchRaise3
namespace Go.Proofs.Ytkpgphadgomifaa
set_option linter.unusedSimpArgs false
set_option linter.unusedVariables false
open Go.RowKit Go.Sort Go.Shelf

/-- The rows of prices while they are raised. -/
structure PM (m n bu bv : Nat) (wr W : World) (u v : Nat → Int) : Prop where
  ru : RowAt W bu m 3 (iv u)
  rv : RowAt W bv n 3 (iv v)
theorem PM.below {m n bu bv : Nat} {wr W W' : World} {u v : Nat → Int} (s : PM m n bu bv wr W u v) (hb : Below W.heap.size W W') : PM m n bu bv wr W' u v := ⟨s.ru.below hb, s.rv.below hb⟩
/-- What is kept while prices are raised: all below B but the two rows. -/
def L6I (c : List (List Int)) (k bp bu bv bow bd bf bo : Nat) (u v ow : Nat → Int) (w6 : World) (k0 : Nat) (dist : Nat → Int) (ord : List Nat) (j : Nat) (W : World) : Prop :=
  ∃ u1 v1, RowAt W bu c.length 3 (iv u1) ∧ RowAt W bv (wideL c) 3 (iv v1) ∧ NewJ (wideL c) k u v ow dist ord (dist k0) j u1 v1 ∧ KeepB w6.heap.size [bu, bv] w6 W
set_option maxRecDepth 1000000 in
set_option maxHeartbeats 4000000 in
theorem loop6_any {c : List (List Int)} {a : Option Addr} {k bp bu bv bow bd bf bo : Nat} {u v ow : Nat → Int} {wo : World} (X : RC c a k bp bu bv bow bd bf bo u v ow wo) (k0 : Nat) (dist frm : Nat → Int) (ord : List Nat) (F : Fin (cc c) (wideL c) k u v ow dist frm ord k0)
    (hne : bp ≠ bu ∧ bp ≠ bv ∧ bu ≠ bv ∧ bow ≠ bu ∧ bow ≠ bv)
    {s0 s1 s2 s3 s6 s8 s9 s11 s14 s15 s16 s17 s18 s19 s20 s21 s22 s23 s24 s25 s26 s27 s28 s29 s30 s31 s32 s33 s34 s35 s36 s37 s38 s39 s40 s41 s42 s43 s44 s45 s46 s47 s48 s49 s50 s51 s52 s53 s54 s55 s56 s57 s58 s59 s60 s61 s62 s63 s64 s65 s66 s67 s68 s69 s70 s71 s72 s73 s74 s75 s76 s77 s78 s79 s80 s81 s82 s83 s84 s85 s86 s87 s88 s89 s90 s91 s92 s93 s94 s95 s96 s97 s98 s99 s100 s101 s102 s103 s104 s105 s106 s107 s108 s109 s110 s111 s112 s113 s114 s115 s116 s117 s118 s119 s120 s121 s122 s123 s124 s125 s126 s127 s128 s129 s130 s131 s132 s133 s134 s135 s136 s137 s138 s139 s140 s141 s142 s143 s144 s145 s146 s147 s148 s149 s150 s151 s152 s153 s156 s157 s158 s159 s160 s161 s162 s163 s164 s165 s166 s167 s168 s169 s170 s171 s172 s173 s174 s175 s176 s177 s178 s179 s180 s181 s182 s183 s184 s185 s186 s187 s188 s189 s190 s191 s192 s193 s194 s195 s196 s197 s198 s199 s200 s201 s202 s203 s204 s205 s206 s207 s208 s209 s210 s211 s212 s213 s214 s215 s216 s217 s218 s219 s220 s221 s222 s223 s224 : Value} (Q : Exit → Act → World → Prop) (w6 W : World) (u1 : Nat → Int)
    (xP : w6.heap[bp]? = some (.cells #[.slice (some ⟨bu, 0, none⟩) c.length c.length, .slice (some ⟨bv, 0, none⟩) (wideL c) (wideL c)] 48 (0, 0)))
    (rd : RowAt w6 bd (wideL c) 3 (iv dist)) (rb : RowAt w6 bo (wideL c) 4 (fun j => .bool ((ord ++ [k0]).contains j))) (ro : RowAt w6 bow (wideL c) 3 (iv ow))
    (I : L6I c k bp bu bv bow bd bf bo u v ow w6 k0 dist ord 0 W)
    (hexit : ∀ (t18 t156 t157 t158 t159 t160 t161 t162 t163 t164 t165 t166 t167 t168 t169 t170 t171 t172 t173 t174 t175 t176 t177 t178 t179 t180 t181 t182 t183 t184 t185 t186 t187 t188 t189 t190 t191 t192 t193 t194 t195 t196 : Value) (W' : World), L6I c k bp bu bv bow bd bf bo u v ow w6 k0 dist ord (wideL c) W' → Q (.exit 10) ⟨(List.toArray (s0 :: s1 :: s2 :: s3 :: .pointer (some ⟨bp, 0, none⟩) :: .slice (some ⟨bow, 0, none⟩) (wideL c) (wideL c) :: s6 :: .slice (some ⟨bd, 0, none⟩) (wideL c) (wideL c) :: s8 :: s9 :: .slice (some ⟨bo, 0, none⟩) (wideL c) (wideL c) :: s11 :: .int .i64 (k0 : Int) :: .int .i64 (dist k0) :: s14 :: s15 :: s16 :: s17 :: t18 :: s19 :: s20 :: s21 :: s22 :: s23 :: s24 :: s25 :: s26 :: s27 :: s28 :: s29 :: s30 :: s31 :: s32 :: s33 :: s34 :: s35 :: s36 :: s37 :: s38 :: s39 :: s40 :: s41 :: s42 :: s43 :: s44 :: s45 :: s46 :: s47 :: s48 :: s49 :: s50 :: s51 :: s52 :: s53 :: s54 :: s55 :: s56 :: s57 :: s58 :: s59 :: s60 :: s61 :: s62 :: s63 :: s64 :: s65 :: s66 :: s67 :: s68 :: s69 :: s70 :: s71 :: s72 :: s73 :: s74 :: s75 :: s76 :: s77 :: s78 :: s79 :: s80 :: s81 :: s82 :: s83 :: s84 :: s85 :: s86 :: s87 :: s88 :: s89 :: s90 :: s91 :: s92 :: s93 :: s94 :: s95 :: s96 :: s97 :: s98 :: s99 :: s100 :: s101 :: s102 :: s103 :: s104 :: s105 :: s106 :: s107 :: s108 :: s109 :: s110 :: s111 :: s112 :: s113 :: s114 :: s115 :: s116 :: s117 :: s118 :: s119 :: s120 :: s121 :: s122 :: s123 :: s124 :: s125 :: s126 :: s127 :: s128 :: s129 :: s130 :: s131 :: s132 :: s133 :: s134 :: s135 :: s136 :: s137 :: s138 :: s139 :: s140 :: s141 :: s142 :: s143 :: s144 :: s145 :: s146 :: s147 :: s148 :: s149 :: s150 :: s151 :: s152 :: s153 :: .int .i64 (wideL c : Int) :: .int .i64 (wideL c : Int) :: t156 :: t157 :: t158 :: t159 :: t160 :: t161 :: t162 :: t163 :: t164 :: t165 :: t166 :: t167 :: t168 :: t169 :: t170 :: t171 :: t172 :: t173 :: t174 :: t175 :: t176 :: t177 :: t178 :: t179 :: t180 :: t181 :: t182 :: t183 :: t184 :: t185 :: t186 :: t187 :: t188 :: t189 :: t190 :: t191 :: t192 :: t193 :: t194 :: t195 :: t196 :: s197 :: s198 :: s199 :: s200 :: s201 :: s202 :: s203 :: s204 :: s205 :: s206 :: s207 :: s208 :: s209 :: s210 :: s211 :: s212 :: s213 :: s214 :: s215 :: s216 :: s217 :: s218 :: s219 :: s220 :: s221 :: s222 :: s223 :: s224 :: List.nil)), []⟩ W') :
    Code.wp Try.prog (Code.loop (raiseBody 5)) Q ⟨(List.toArray (s0 :: s1 :: s2 :: s3 :: .pointer (some ⟨bp, 0, none⟩) :: .slice (some ⟨bow, 0, none⟩) (wideL c) (wideL c) :: s6 :: .slice (some ⟨bd, 0, none⟩) (wideL c) (wideL c) :: s8 :: s9 :: .slice (some ⟨bo, 0, none⟩) (wideL c) (wideL c) :: s11 :: .int .i64 (k0 : Int) :: .int .i64 (dist k0) :: s14 :: s15 :: s16 :: s17 :: s18 :: s19 :: s20 :: s21 :: s22 :: s23 :: s24 :: s25 :: s26 :: s27 :: s28 :: s29 :: s30 :: s31 :: s32 :: s33 :: s34 :: s35 :: s36 :: s37 :: s38 :: s39 :: s40 :: s41 :: s42 :: s43 :: s44 :: s45 :: s46 :: s47 :: s48 :: s49 :: s50 :: s51 :: s52 :: s53 :: s54 :: s55 :: s56 :: s57 :: s58 :: s59 :: s60 :: s61 :: s62 :: s63 :: s64 :: s65 :: s66 :: s67 :: s68 :: s69 :: s70 :: s71 :: s72 :: s73 :: s74 :: s75 :: s76 :: s77 :: s78 :: s79 :: s80 :: s81 :: s82 :: s83 :: s84 :: s85 :: s86 :: s87 :: s88 :: s89 :: s90 :: s91 :: s92 :: s93 :: s94 :: s95 :: s96 :: s97 :: s98 :: s99 :: s100 :: s101 :: s102 :: s103 :: s104 :: s105 :: s106 :: s107 :: s108 :: s109 :: s110 :: s111 :: s112 :: s113 :: s114 :: s115 :: s116 :: s117 :: s118 :: s119 :: s120 :: s121 :: s122 :: s123 :: s124 :: s125 :: s126 :: s127 :: s128 :: s129 :: s130 :: s131 :: s132 :: s133 :: s134 :: s135 :: s136 :: s137 :: s138 :: s139 :: s140 :: s141 :: s142 :: s143 :: s144 :: s145 :: s146 :: s147 :: s148 :: s149 :: s150 :: s151 :: s152 :: s153 :: .int .i64 (wideL c : Int) :: .int .i64 0 :: s156 :: s157 :: s158 :: s159 :: s160 :: s161 :: s162 :: s163 :: s164 :: s165 :: s166 :: s167 :: s168 :: s169 :: s170 :: s171 :: s172 :: s173 :: s174 :: s175 :: s176 :: s177 :: s178 :: s179 :: s180 :: s181 :: s182 :: s183 :: s184 :: s185 :: s186 :: s187 :: s188 :: s189 :: s190 :: s191 :: s192 :: s193 :: s194 :: s195 :: s196 :: s197 :: s198 :: s199 :: s200 :: s201 :: s202 :: s203 :: s204 :: s205 :: s206 :: s207 :: s208 :: s209 :: s210 :: s211 :: s212 :: s213 :: s214 :: s215 :: s216 :: s217 :: s218 :: s219 :: s220 :: s221 :: s222 :: s223 :: s224 :: List.nil)), []⟩ W := by
  obtain ⟨f1, f2, f3, f4⟩ := formE_ok X.he
  have HX := Lib.hid X; have HQ := Lib.hid hexit; have HF3 := Lib.hid f3; have HI := Lib.hid I; have HF := Lib.hid F; have Hxp := Lib.hid xP; have Hrd := Lib.hid rd; have Hrb := Lib.hid rb; have Hro := Lib.hid ro
  have HCC := Lib.hid (cc_le f3 f4)
  have hkm := X.hk
  have HPS := Lib.hid (pot_small X.pot (by have := X.hk; omega) f1 f2 fun i k hi hk => (HCC.out i k hi hk).2)
  obtain ⟨e1, e2, e3, e4, e5⟩ := hne
  have hbd : bd ≠ bu ∧ bd ≠ bv := by have := X.rm.lt; have := X.le; omega
  have hbo : bo ≠ bu ∧ bo ≠ bv := by have := X.rm.lt; have := X.le; omega
  obtain ⟨e6, e7⟩ := hbd
  obtain ⟨e8, e9⟩ := hbo
  have hD0 := F.pos
  have hD1 : dist k0 ≤ 200000000 := by have := F.bnd; omega
  have lp := lt_blk xP; have ld := rd.lt; have lb := rb.lt; have lo := ro.lt
  clear X f3 f4 hexit I F xP rd rb ro
  conv => arg 2; arg 1; whnf
  go_loopw [155] (fun i W => ∃ j : Nat, j ≤ wideL c ∧ i = .int .i64 j ∧ L6I c k bp bu bv bow bd bf bo u v ow w6 k0 dist ord j W) (fun i _ => wideL c - (intOf i).toNat)
  case atStart => exact ⟨0, Nat.zero_le _, rfl, HI.out⟩
  case round =>
    obtain ⟨j, hj, rfl, u1, v1, ru, rv, N, K⟩ := hrel
    have Hru := Lib.hid ru; have Hrv := Lib.hid rv; have HN := Lib.hid N; have HK := Lib.hid K
    clear ru rv N K HI
    by_cases hjn : j < wideL c
    · have gb : wr.cell? ⟨bo, j, none⟩ = some (.bool ((ord ++ [k0]).contains j)) := (Hrb.out.of_eq (HK.out.block bo lb (by simp; omega))).cell hjn
      cases hc : (ord ++ [k0]).contains j
      · rw [hc] at gb
        have HC := Lib.hid (show j ∉ ord by simp at hc; exact hc.1); clear hc
        go_wp2
        go_roundw
        case rel => exact ⟨j + 1, by omega, by go_num, u1, v1, Hru.out, Hrv.out, HN.out.skip HC.out, HK.out⟩
        case measure => simp [intOf]; omega
      · rw [hc] at gb
        by_cases hk0 : j = k0
        · have hq : ((j : Int) != (k0 : Int)) = false := by simp; omega
          have HC := Lib.hid (show j ∉ ord by rw [hk0]; exact HF.out.k0o); clear hc hk0
          go_wp2
          go_roundw
          case rel => exact ⟨j + 1, by omega, by go_num, u1, v1, Hru.out, Hrv.out, HN.out.skip HC.out, HK.out⟩
          case measure => simp [intOf]; omega
        · have hq : ((j : Int) != (k0 : Int)) = true := by simp; omega
          have HC := Lib.hid (show j ∈ ord by simp [hk0] at hc; exact hc); clear hc hk0
          obtain ⟨i, hi, hik, _⟩ := HF.out.ownR HX.out.pot j HC.out
          obtain ⟨n1, n2, N2⟩ := HN.out.step HC.out hjn hi (by omega) fun x hx y e e' => HX.out.pot.own.inj x j y (HF.out.lt x hx).1 hjn trivial trivial e e'
          have HN2 := Lib.hid N2; clear N2
          have gP := box_cells ((HK.out.block bp lp (by simp; omega)).trans Hxp.out)
          have gd : wr.cell? ⟨bd, j, none⟩ = some (.int .i64 (dist j)) := (Hrd.out.of_eq (HK.out.block bd ld (by simp; omega))).cell hjn
          have go : wr.cell? ⟨bow, j, none⟩ = some (.int .i64 (ow j)) := (Hro.out.of_eq (HK.out.block bow lo (by simp; omega))).cell hjn
          rw [hi] at go
          have gv : wr.cell? ⟨bv, j, none⟩ = some (.int .i64 (v1 j)) := Hrv.out.cell hjn
          have him : i < c.length := by omega
          have gu : wr.cell? ⟨bu, i, none⟩ = some (.int .i64 (u1 i)) := Hru.out.cell him
          rw [n1] at gv
          rw [n2] at gu
          have fv := Hrv.out.free j; have fu := Hru.out.free i
          obtain ⟨b1, b2⟩ := HPS.out.2.2 j hjn
          obtain ⟨b3, b4⟩ := HPS.out.2.1 i
          obtain ⟨b5, b6⟩ := HF.out.le j HC.out
          have HHi := Lib.hid hi
          clear n1 n2 hi
          go_wp2
          have g0 := cell_regrown (gP 1); have g1 := cell_regrown gv; have g2 := cell_regrown gd
          refine wp_tailB 13 (by kernel_rfl) (by kernel_rfl) ?_
          simp only [List.take_succ_cons, List.take_zero, List.drop_succ_cons, List.drop_zero]
          repeat (go_big_quiet_step (fail))
          refine wpQuiet_nil ?_
          intro w7 hb
          clear g0 g1 g2 fv fu gP gd go gv gu gb
          have sz := HK.out.size
          have Hru7 := Lib.hid (Hru.out.below hb); have Hrv7 := Lib.hid (Hrv.out.below hb)
          have HK7 := Lib.hid (HK.out.trans (KeepB.of_below hb sz))
          have fv := Hrv7.out.free j
          have gv7 : w7.cell? ⟨bv, j, none⟩ = some (.int .i64 (v1 j)) := Hrv7.out.cell hjn
          clear hb
          go_wp2
          have Hrv8 := Lib.hid ((Hrv7.out.set hjn (.int .i64 (v j - (dist k0 - dist j)))).congr fun _ _ => by rw [iv_upd])
          have Hru8 := Lib.hid (Hru7.out.other (c := bv) (k := j) e3 (.int .i64 (v j - (dist k0 - dist j))))
          have HK8 := Lib.hid (HK7.out.set (p := ⟨bv, j, none⟩) (.inl (by simp)) (.int .i64 (v j - (dist k0 - dist j))))
          generalize w7.setCell ⟨bv, j, none⟩ (.int .i64 (v j - (dist k0 - dist j))) = w8 at *
          clear fv gv7 Hru7 Hrv7 HK7
          have gP := box_cells ((HK8.out.block bp lp (by simp; omega)).trans Hxp.out)
          have gd : w8.cell? ⟨bd, j, none⟩ = some (.int .i64 (dist j)) := (Hrd.out.of_eq (HK8.out.block bd ld (by simp; omega))).cell hjn
          have go : w8.cell? ⟨bow, j, none⟩ = some (.int .i64 (i : Int)) := by rw [← HHi.out]; exact (Hro.out.of_eq (HK8.out.block bow lo (by simp; omega))).cell hjn
          have gu : w8.cell? ⟨bu, i, none⟩ = some (.int .i64 (u i)) := by
            have := HN.out.ho j HC.out i HHi.out
            rw [if_neg (by omega)] at this
            rw [← this]; exact Hru8.out.cell him
          have g0 := cell_regrown (gP 0); have g1 := cell_regrown gu; have g2 := cell_regrown gd; have g3 := cell_regrown go
          refine wp_tailB 16 (by kernel_rfl) (by kernel_rfl) ?_
          simp only [List.take_succ_cons, List.take_zero, List.drop_succ_cons, List.drop_zero]
          repeat (go_big_quiet_step (fail))
          refine wpQuiet_nil ?_
          intro w9 hb
          clear g0 g1 g2 g3 gP gd go gu
          have sz8 := HK8.out.size
          have Hru9 := Lib.hid (Hru8.out.below hb); have Hrv9 := Lib.hid (Hrv8.out.below hb)
          have HK9 := Lib.hid (HK8.out.trans (KeepB.of_below hb sz8))
          have fu := Hru9.out.free i
          have gu9 : w9.cell? ⟨bu, i, none⟩ = some (.int .i64 (u1 i)) := Hru9.out.cell him
          clear hb
          go_wp2
          go_roundw
          case rel => exact ⟨j + 1, by omega, by go_num, upd u1 i (u i + (dist k0 - dist j)), upd v1 j (v j - (dist k0 - dist j)), (Hru9.out.set him (.int .i64 (u i + (dist k0 - dist j)))).congr fun _ _ => by rw [iv_upd], Hrv9.out.other (Ne.symm e3) _, HN2.out, HK9.out.set (p := ⟨bu, i, none⟩) (.inl (by simp)) _⟩
          case measure => simp [intOf]; omega
    · have hjn' : j = wideL c := by omega
      subst hjn'
      go_wp2
      exact HQ.out _ _ _ _ _ _ _ _ _ _ _ _ _ _ _ _ _ _ _ _ _ _ _ _ _ _ _ _ _ _ _ _ _ _ _ _ _ _ _ _ _ _ wr ⟨u1, v1, Hru.out, Hrv.out, HN.out, HK.out⟩
end Go.Proofs.Ytkpgphadgomifaa
