/- match.Best, walked. -/
import Derived.Test.YtkpgphadgomifaaMatchBest0
import Derived.WalkMore
namespace Go.Proofs.Ytkpgphadgomifaa
set_option linter.unusedSimpArgs false
set_option linter.unusedVariables false
open Go.RowKit Go.Sort Go.Shelf

def totL (c : List (List Int)) (l : List Nat) : Int := sumN (fun i => cc c i (l.getD i 0)) l.length
theorem totL_app (c : List (List Int)) (l : List Nat) (k : Nat) : totL c (l ++ [k]) = totL c l + cc c l.length k := by
  unfold totL
  rw [List.length_append]
  show sumN _ (l.length + 1) = _
  simp only [sumN]
  rw [getD_app, if_neg (by omega), if_pos rfl]
  congr 1
  exact sumN_congr fun i hi => by rw [getD_app, if_pos hi]
def BestSays (c : List (List Int)) (l : List Nat) (total : Int) (ok : Bool) (err : Int) : Prop :=
  (formE c ≠ 0 ∧ l = [] ∧ total = 0 ∧ ok = false ∧ err = formE c) ∨ (formE c = 0 ∧ err = 0 ∧ ¬ Mtd (may (cc c)) (fun i => i < c.length) (wideL c) ∧ l = [] ∧ total = 0 ∧ ok = false) ∨
    (formE c = 0 ∧ err = 0 ∧ ok = true ∧ total = totL c l ∧ l.length = c.length ∧ ∃ u v, (∃ ow, Pot (cc c) (wideL c) c.length (c.length * (wideL c * 1000000)) u v ow) ∧ Beg c u v l)
def BestPost (c : List (List Int)) (w : World) (e : Ending) (w' : World) : Prop :=
  ∃ (l : List Nat) (total : Int) (ok : Bool) (err : Int) (a : Option Addr) (cap : Nat), e = .returned (.tuple #[.slice a l.length cap, .int .i64 total, .bool ok, .int .i64 err]) ∧ BestSays c l total ok err ∧ SlOk a l.length cap ∧ SlAt w' a 1 (l.map metRow) ∧ Below w.heap.size w w'
def BInv (c : List (List Int)) (u v : Nat → Int) (w3 : World) (s2 s3 s7 s33 : Value) (W : World) : Prop :=
  ∃ (l : List Nat) (bs : Nat), s33 = .int .i64 (l.length : Int) ∧ s3 = .int .i64 (totL c l) ∧ s7 = .slice (some ⟨bs, 0, none⟩) (wideL c) (wideL c) ∧ Beg c u v l ∧ RowAt W bs (wideL c) 4 (fun k => .bool (l.contains k)) ∧ OwnR W w3.heap.size 3 1 s2 (l.map metRow) ∧
    Below w3.heap.size w3 W ∧ 0 ≤ totL c l ∧ totL c l ≤ 1000000 * l.length
theorem form_4 (c : List (List Int)) : formE c ≠ 4 := by unfold formE; split <;> (try split) <;> omega
structure BX (c : List (List Int)) (a : Option Addr) (bp bu bv : Nat) (u v : Nat → Int) (W : World) : Prop where
  xp : W.heap[bp]? = some (.cells #[.slice (some ⟨bu, 0, none⟩) c.length c.length, .slice (some ⟨bv, 0, none⟩) (wideL c) (wideL c)] 48 (0, 0))
  mat : MatAt W a c
  ru : RowAt W bu c.length 3 (iv u)
  rv : RowAt W bv (wideL c) 3 (iv v)
theorem BX.below {c : List (List Int)} {a : Option Addr} {bp bu bv : Nat} {u v : Nat → Int} {W W' : World} (x : BX c a bp bu bv u v W) (hb : Below W.heap.size W W') : BX c a bp bu bv u v W' :=
  ⟨blk_keep x.xp hb, x.mat.below hb, x.ru.below hb, x.rv.below hb⟩
theorem best_box {c : List (List Int)} {a : Option Addr} {bu bv : Nat} {u v : Nat → Int} {w w1 : World} (hm : MatAt w a c) (hb : Below (w.alloc (.cells #[.slice none 0 0, .slice none 0 0] 48)).heap.size (w.alloc (.cells #[.slice none 0 0, .slice none 0 0] 48)) w1)
    (ru : RowAt w1 bu c.length 3 (iv u)) (rv : RowAt w1 bv (wideL c) 3 (iv v)) :
    BX c a w.heap.size bu bv u v ((w1.setCell ⟨w.heap.size, 0, none⟩ (.slice (some ⟨bu, 0, none⟩) c.length c.length)).setCell ⟨w.heap.size, 1, none⟩ (.slice (some ⟨bv, 0, none⟩) (wideL c) (wideL c))) ∧
      Below w.heap.size w ((w1.setCell ⟨w.heap.size, 0, none⟩ (.slice (some ⟨bu, 0, none⟩) c.length c.length)).setCell ⟨w.heap.size, 1, none⟩ (.slice (some ⟨bv, 0, none⟩) (wideL c) (wideL c))) := by
  have x0 := box_below hb
  have B := ((allocB hb).setCell (u := .slice (some ⟨bu, 0, none⟩) c.length c.length) (p := ⟨w.heap.size, 0, none⟩) (by simp)).setCell (u := .slice (some ⟨bv, 0, none⟩) (wideL c) (wideL c)) (p := ⟨w.heap.size, 1, none⟩) (by simp)
  have ne : ∀ {b n : Nat} {f : Nat → Value}, RowAt w1 b n 3 f → b ≠ w.heap.size := fun r e => by
    obtain ⟨arr, e1, _⟩ := r.at_
    rw [e, x0] at e1
    simp only [Option.some.injEq, Obj.cells.injEq] at e1
    exact absurd e1.2.1 (by decide)
  refine ⟨⟨?_, hm.below B, (ru.other (ne ru) _).other (ne ru) _, (rv.other (ne rv) _).other (ne rv) _⟩, B⟩
  exact heap_setCell_same _ _ _ _ _ _ (heap_setCell_same _ _ _ _ _ _ x0)
theorem totL_bounds {c : List (List Int)} {l : List Nat} {k : Nat} (h : 0 ≤ totL c l ∧ totL c l ≤ 1000000 * l.length) (h1 : 0 ≤ cc c l.length k) (h2 : cc c l.length k ≤ 1000000) : 0 ≤ totL c (l ++ [k]) ∧ totL c (l ++ [k]) ≤ 1000000 * (l ++ [k]).length := by
  rw [totL_app, List.length_append]
  have : (([k] : List Nat).length) = 1 := rfl
  omega
theorem beg_start {c : List (List Int)} {V : Int} {u v ow : Nat → Int} (p : Pot (cc c) (wideL c) c.length V u v ow) : Beg c u v [] := by
  obtain ⟨_, f, hf⟩ := pot_fair p
  exact ⟨⟨f, hf, fun j hj => absurd hj (Nat.not_lt_zero _)⟩, fun j hj => absurd hj (Nat.not_lt_zero _), Nat.zero_le _⟩
set_option maxRecDepth 100000 in
set_option maxHeartbeats 8000000 in
theorem Best_any (a : Option Addr) (cap : Nat) (c : List (List Int)) (w : World) (hl : c.length ≤ 100000000000000) (hm : MatAt w a c) (hs : SlOk a c.length cap) :
    Calls Try.prog 11 #[.slice a c.length cap] w (BestPost c w) := by
  have HS := Lib.hid hs; have HM := Lib.hid hm; clear hs hm
  have hb0 := (Below.refl w.heap.size w).alloc (Nat.le_refl _) (.cells #[.slice none 0 0, .slice none 0 0] 48)
  have HM0 := Lib.hid (HM.out.below hb0); clear hb0
  go_enter Try.func11, Try.ntmps11
  go_wp2_with (fail)
  go_step3
  go_wp2_with (fail)
  refine (Prices_any a cap c _ hl HM0.out HS.out).mono ?_
  rintro e w1 ⟨v1, v2, err, rfl, hsay, hb⟩
  have x0 := box_below hb
  have HX := Lib.hid x0; have HB1 := Lib.hid hb; have HB := Lib.hid (allocB hb); have HM1 := Lib.hid (HM0.out.below hb)
  have hc := box_cells x0; have hf := box_free x0; have hz := lt_blk x0
  clear x0 hb
  rcases hsay with ⟨he, rfl, rfl, herr⟩ | ⟨he, hno, rfl, rfl, rfl⟩ | ⟨he, rfl, u, v, bu, bv, rfl, rfl, hp, ru, rv⟩
  · have HE := Lib.hid he; have HR := Lib.hid herr
    have e1 : (err == 0) = false := by rw [beq_eq_false_iff_ne, herr]; exact he
    have e2 : (err == 4) = false := by rw [beq_eq_false_iff_ne, herr]; exact form_4 c
    clear he herr
    go_wp2
    rw [Exit.noGoto_ret]; exact bodyPost_ret (v := .tuple #[.slice none 0 0, .int .i64 0, .bool false, .int .i64 err]) (by simp [results, Try.results11, go_sem]) rfl ⟨[], 0, false, err, none, 0, rfl, .inl ⟨HE.out, rfl, rfl, rfl, HR.out⟩, SlOk.nil, SlAt.nil _ _ _, (HB.out.setCell (by simp <;> omega) _).setCell (by simp <;> omega) _⟩
  · have HE := Lib.hid he; have HN := Lib.hid hno; clear he hno
    go_wp2
    rw [Exit.noGoto_ret]; exact bodyPost_ret (v := .tuple #[.slice none 0 0, .int .i64 0, .bool false, .int .i64 0]) (by simp [results, Try.results11, go_sem]) rfl ⟨[], 0, false, 0, none, 0, rfl, .inr (.inl ⟨HE.out, rfl, HN.out, rfl, rfl, rfl⟩), SlOk.nil, SlAt.nil _ _ _, (HB.out.setCell (by simp <;> omega) _).setCell (by simp <;> omega) _⟩
  · obtain ⟨f1, f2, f3, f4⟩ := formE_ok he
    have hmk3 := fun w => run_make_row' (P := Try.prog) 49 4 (.bool false) 1 Try.underlying49 (by kernel_rfl) rfl .i64 .i64 (wideL c) (by omega) (by omega) w
    obtain ⟨X0, B0⟩ := best_box HM.out HB1.out ru rv
    obtain ⟨ow, hp⟩ := hp
    obtain ⟨_, hus, hvs⟩ := pot_small hp (Nat.le_refl _) f1 f2 (fun i k hi hk => (cc_le f3 f4 i k hi hk).2)
    have HU := Lib.hid hus; have HV := Lib.hid hvs
    have HE := Lib.hid he; have HP := Lib.hid hp; have HF3 := Lib.hid f3; have HF4 := Lib.hid f4; have HX0 := Lib.hid X0; have HB0 := Lib.hid B0
    have HBeg := Lib.hid (beg_start hp)
    clear he hp f3 f4 X0 B0 ru rv hus hvs HB HM0 HB1 HM1
    go_wp2_with (fail)
    generalize (w1.setCell ⟨w.heap.size, 0, none⟩ (.slice (some ⟨bu, 0, none⟩) c.length c.length)).setCell ⟨w.heap.size, 1, none⟩ (.slice (some ⟨bv, 0, none⟩) (wideL c) (wideL c)) = w2 at *
    clear hc hf hz
    refine (wide_any a cap c w2 hl HX0.out.mat).mono ?_
    rintro e w' ⟨rfl, rfl⟩
    go_wp2
    have rb := RowAt.made w2 (wideL c) 4 (.bool false)
    have hb := (Below.refl w2.heap.size w2).alloc (Nat.le_refl _) (.cells (madeCells #[.bool false] (wideL c)) 4)
    have bsl : w2.heap.size < (w2.alloc (.cells (madeCells #[.bool false] (wideL c)) 4)).heap.size := by simp
    have HX3 := Lib.hid (HX0.out.below hb)
    have HB3 := Lib.hid (HB0.out.trans (hb.mono HB0.out.size))
    generalize w2.alloc (.cells (madeCells #[.bool false] (wideL c)) 4) = w3 at *
    generalize w2.heap.size = bs0 at *
    have HRB := Lib.hid rb
    clear rb hb
    go_step3
    go_wp2
    go_loopw [2, 3, 7, 33] (fun s2 s3 s7 s33 W => BInv c u v w3 s2 s3 s7 s33 W) (fun _ _ _ s33 _ => c.length - (intOf s33).toNat)
    case atStart => exact ⟨[], bs0, rfl, rfl, rfl, HBeg.out, HRB.out.congr fun k _ => by simp, OwnR.nil _ _ _ _, Below.refl _ _, by simp [totL, sumN], by simp [totL, sumN]⟩
    case round =>
      obtain ⟨l, bs, rfl, rfl, rfl, beg, rs, ow2, bw, t1, t2⟩ := hrel
      obtain ⟨wo, rfl⟩ : ∃ wo : World, wo = wr := ⟨_, rfl⟩
      have HBG := Lib.hid beg; have HRS := Lib.hid rs; have HO := Lib.hid ow2; have HBW := Lib.hid bw
      have hll := beg.len
      clear beg rs ow2 bw HBeg HRB
      have HX := Lib.hid (HX3.out.below HBW.out)
      by_cases hlt : l.length < c.length
      · obtain ⟨b1, off, ai, ci, rfl, c0, hsk, hik⟩ := HX.out.mat.get l.length hlt
        have hlen := HF3.out c[l.length] (List.getElem_mem _)
        rw [hlen] at c0
        have HIK := Lib.hid hik
        clear hsk hik
        go_wp2
        go_loopw [2, 3, 7, 40] (fun s2 s3 s7 s40 W => ∃ k : Nat, k ≤ wideL c ∧ s2 = u2 ∧ s3 = .int .i64 (totL c l) ∧ s7 = .slice (some ⟨bs, 0, none⟩) (wideL c) (wideL c) ∧ s40 = .int .i64 k ∧ Below w3.heap.size w3 W ∧ Below wo.heap.size wo W ∧ Not c u v l k) (fun _ _ _ s40 _ => wideL c - (intOf s40).toNat)
        case atStart => exact ⟨0, Nat.zero_le _, rfl, rfl, rfl, rfl, HBW.out, Below.refl _ _, Not.start _ _ _ _⟩
        case round =>
          obtain ⟨k, hk, rfl, rfl, rfl, rfl, b3, br, hn⟩ := hrel
          obtain ⟨w5, rfl⟩ : ∃ w5 : World, w5 = wr := ⟨_, rfl⟩
          have HX5 := Lib.hid (HX.out.below br); have HB5 := Lib.hid b3; have HBr := Lib.hid br; have HN := Lib.hid hn
          have HIK5 := Lib.hid (HIK.out.below br)
          clear b3 br hn
          by_cases hkn : k < wideL c
          · obtain ⟨b2, off2, rfl, d0⟩ := HIK5.out.get k (by omega)
            rw [← cc_get hlt (by omega)] at d0
            obtain ⟨n1, n2⟩ := cc_le HF3.out HF4.out l.length k hlt hkn
            have gs := (HRS.out.below HBr.out).cell hkn
            have gu : w5.cell? ⟨bu, l.length, none⟩ = some (.int .i64 (u l.length)) := HX5.out.ru.cell hlt
            have gv : w5.cell? ⟨bv, k, none⟩ = some (.int .i64 (v k)) := HX5.out.rv.cell hkn
            have gP := box_cells HX5.out.xp
            obtain ⟨q1, q2⟩ := HU.out l.length
            obtain ⟨q3, q4⟩ := HV.out k hkn
            go_wp2
            have g0 := cell_regrown gs; have g1 := cell_regrown gu; have g2 := cell_regrown gv; have g3 := cell_regrown (gP 0); have g4 := cell_regrown (gP 1)
            cases hc : l.contains k
            · rw [hc] at g0
              have HNc := Lib.hid hc; clear hc
              by_cases hn0 : 0 ≤ cc c l.length k
              · have hn1 : decide (cc c l.length k < 0) = false := by simpa using hn0
                cases hq : u l.length + v k == cc c l.length k
                · have hq2 : (u l.length + v k != cc c l.length k) = true := by simp [bne, hq]
                  have HK : Hid (k ∈ l ∨ cc c l.length k < 0 ∨ u l.length + v k ≠ cc c l.length k) := Lib.hid (.inr (.inr (by simpa using hq)))
                  refine wp_quietB (by kernel_rfl) (by kernel_rfl) ?_
                  repeat (go_big_quiet_step (fail))
                  refine wpQuiet_nil ?_
                  intro w6 hb6
                  replace HB5 := Lib.hid (HB5.out.trans (hb6.mono HB5.out.size)); replace HBr := Lib.hid (HBr.out.trans (hb6.mono HBr.out.size))
                  clear hb6
                  go_wp2
                  go_roundw
                  case rel => exact ⟨k + 1, by omega, rfl, rfl, rfl, by go_num, HB5.out, HBr.out, HN.out.skip hlt HK.out⟩
                  case measure => simp [intOf]; omega
                · have hq2 : (u l.length + v k != cc c l.length k) = false := by simp [bne, hq]
                  have HQ := Lib.hid hq; clear hq
                  refine wp_quietB (by kernel_rfl) (by kernel_rfl) ?_
                  repeat (go_big_quiet_step (fail))
                  refine wpQuiet_nil ?_
                  intro w6 hb6
                  have HB6 := Lib.hid (HB5.out.trans (hb6.mono HB5.out.size)); have HBr6 := Lib.hid (HBr.out.trans (hb6.mono HBr.out.size))
                  clear hb6 g0 g1 g2 g3 g4 gs gu gv gP
                  have rg := RowAt.made w6 (wideL c) 4 (.bool false)
                  have hb7 := (Below.refl w6.heap.size w6).alloc (Nat.le_refl _) (.cells (madeCells #[.bool false] (wideL c)) 4)
                  have HRg := Lib.hid rg; have HRb := Lib.hid ((HRS.out.below HBr6.out).below hb7)
                  have HB7 := Lib.hid (HB6.out.trans (hb7.mono HB6.out.size)); have HBr7 := Lib.hid (HBr6.out.trans (hb7.mono HBr6.out.size))
                  have z6 : w6.heap.size < (w6.alloc (.cells (madeCells #[.bool false] (wideL c)) 4)).heap.size := by simp
                  clear rg hb7
                  have z3 := HB6.out.size; have zo := HBr6.out.size
                  go_upto_region 19 with (refine wpList_copy_rows rfl (.tmp 71) (.tmp 72) 49 49 rfl 4 Try.underlying49 (by kernel_rfl) (wideL c) w6.heap.size bs 4 (fun _ => .bool false) (fun k => .bool (l.contains k)) rfl rfl HRg.out HRb.out (fun _ => rfl) ?_; intro w8 r8 hb8; have HR8 := Lib.hid r8; have HB8 := Lib.hid (HB7.out.trans (hb8.mono z3)); have HBr8 := Lib.hid (HBr7.out.trans (hb8.mono zo)); have f8 := r8.free k; have c8 := r8.cell hkn; clear r8 hb8)
                  have zw3 : w3.heap.size ≤ w6.heap.size := z3
                  have zwo : wo.heap.size ≤ w6.heap.size := zo
                  have r9 : RowAt (w8.setCell ⟨w6.heap.size, k, none⟩ (.bool true)) w6.heap.size (wideL c) 4 (fun x => .bool ((l ++ [k]).contains x)) := (HR8.out.set hkn (.bool true)).congr fun x hx => by
                    by_cases e : x = k
                    · subst e; simp [upd_same]
                    · rw [upd_ne _ _ e]; simp [e]
                  have HR9 := Lib.hid r9
                  have HB9 := Lib.hid (HB8.out.setCell (u := .bool true) (p := ⟨w6.heap.size, k, none⟩) zw3)
                  have HBr9 := Lib.hid (HBr8.out.setCell (u := .bool true) (p := ⟨w6.heap.size, k, none⟩) zwo)
                  clear r9 HR8 HB8 HBr8 HB7 HBr7 HRg HRb HB6 HBr6 HB5 HBr f8 c8 z6 z3 zo
                  generalize w8.setCell ⟨w6.heap.size, k, none⟩ (.bool true) = w9 at *
                  generalize w6.heap.size = bn at *
                  have HX9 := Lib.hid (HX.out.below HBr9.out)
                  have gP := box_cells HX9.out.xp
                  have X : RX c (some ⟨b1, off, none⟩) bu bv bn u v (fun x => (l ++ [k]).contains x) w9 := ⟨HE.out, HX9.out.mat, HX9.out.ru, HX9.out.rv, HR9.out, HU.out, HV.out⟩
                  have hr := reach_any (cap := cap) X (fr := l.length + 1) (by omega)
                  rw [show ((l.length + 1 : Nat) : Int) = (l.length : Int) + 1 from rfl] at hr
                  have HRe := Lib.hid hr
                  clear X hr
                  have hkl : k ∉ l := by have := HNc.out; simpa using this
                  have hcan := canEnd_iff HBG.out hlt hkn hkl hn0 (by have := HQ.out; simpa using this)
                  have HCan := Lib.hid hcan
                  clear hcan
                  go_wp2_with (fail)
                  refine HRe.out.mono ?_
                  rintro e w10 ⟨b, rfl, hb, bel⟩
                  have HB10 := Lib.hid (HB9.out.trans (bel.mono HB9.out.size)); have HBr10 := Lib.hid (HBr9.out.trans (bel.mono HBr9.out.size)); have HR10 := Lib.hid (HR9.out.below bel)
                  clear bel gP
                  cases b
                  · have HN2 := Lib.hid (HN.out.no (fun h => by have := hb.2 (HCan.out.2 h); cases this))
                    clear hb
                    go_wp2
                    go_roundw
                    case rel => exact ⟨k + 1, by omega, rfl, rfl, rfl, by go_num, HB10.out, HBr10.out, HN2.out⟩
                    case measure => simp [intOf]; omega
                  · have HG := Lib.hid (HBG.out.next hlt HN.out (HCan.out.1 (hb.1 rfl)))
                    clear hb
                    have HO10 := Lib.hid (HO.out.below HBr10.out)
                    have hne := own_ne HR10.out HO10.out (by decide)
                    have HTB := Lib.hid (totL_bounds ⟨t1, t2⟩ hn0 n2)
                    go_wp2_with (at_builtin; go_must (refine appE eltMet rfl (.tmp 83) (.tmp 85) rfl w3.heap.size _ l rfl (HO10.out.below ((Below.refl _ _).alloc (Nat.le_refl _) _)) _ _ _ [k] rfl rfl (fun e => by cases e) (eltMet.new _ _ _ _ rfl) (by simp; omega) (by have := HB10.out.size; simp; omega) ?_); intro v11 w11 o11 g11)
                    refine ⟨⟨l ++ [k], bn, by rw [List.length_append]; rfl, by rw [totL_app], rfl, HG.out, ?_, o11, ?_, HTB.out.1, HTB.out.2⟩, ?_⟩
                    · have r11 := HR10.out.below ((Below.refl w10.heap.size w10).alloc (Nat.le_refl _) (.cells #[.int .i64 (k : Int)] 3))
                      exact r11.of_eq (g11.block bn r11.lt (Ne.symm hne))
                    · exact below_grown (HB10.out.alloc HB10.out.size _) (HO10.out.below ((Below.refl _ _).alloc (Nat.le_refl _) _)) (by have := HB10.out.size; simp; omega) g11
                    · simp [intOf]; omega
              · have hn1 : decide (cc c l.length k < 0) = true := by simp; omega
                have HK : Hid (k ∈ l ∨ cc c l.length k < 0 ∨ u l.length + v k ≠ cc c l.length k) := Lib.hid (.inr (.inl (by omega)))
                refine wp_quietB (by kernel_rfl) (by kernel_rfl) ?_
                repeat (go_big_quiet_step (fail))
                refine wpQuiet_nil ?_
                intro w6 hb6
                replace HB5 := Lib.hid (HB5.out.trans (hb6.mono HB5.out.size)); replace HBr := Lib.hid (HBr.out.trans (hb6.mono HBr.out.size))
                clear hb6
                go_wp2
                go_roundw
                case rel => exact ⟨k + 1, by omega, rfl, rfl, rfl, by go_num, HB5.out, HBr.out, HN.out.skip hlt HK.out⟩
                case measure => simp [intOf]; omega
            · rw [hc] at g0
              have HK : Hid (k ∈ l ∨ cc c l.length k < 0 ∨ u l.length + v k ≠ cc c l.length k) := Lib.hid (.inl (by simpa using hc))
              refine wp_quietB (by kernel_rfl) (by kernel_rfl) ?_
              repeat (go_big_quiet_step (fail))
              refine wpQuiet_nil ?_
              intro w6 hb6
              replace HB5 := Lib.hid (HB5.out.trans (hb6.mono HB5.out.size)); replace HBr := Lib.hid (HBr.out.trans (hb6.mono HBr.out.size))
              clear hb6
              go_wp2
              go_roundw
              case rel => exact ⟨k + 1, by omega, rfl, rfl, rfl, by go_num, HB5.out, HBr.out, HN.out.skip hlt HK.out⟩
              case measure => simp [intOf]; omega
          · have := HN.out
            rw [show k = wideL c by omega] at this
            exact (Not.end_ HBG.out hlt this).elim
      · obtain ⟨a6, c6, e6, s6, i6⟩ := HO.out.slAt
        have HE6 := Lib.hid e6; have HS6 := Lib.hid s6; have HI6 := Lib.hid i6
        have hle : l.length = c.length := by omega
        clear e6 s6 i6 hlt
        go_wp2
        rw [Exit.noGoto_ret]
        refine bodyPost_ret (v := .tuple #[u2, .int .i64 (totL c l), .bool true, .int .i64 0]) (by simp [results, Try.results11, go_sem]) rfl ?_
        refine ⟨l, totL c l, true, 0, a6, c6, ?_, .inr (.inr ⟨HE.out, rfl, rfl, rfl, hle, u, v, ⟨ow, HP.out⟩, HBG.out⟩), ?_, ?_, HB3.out.trans (HBW.out.mono HB3.out.size)⟩
        · have := HE6.out
          rw [List.length_map] at this
          rw [← this]
        · have := HS6.out
          rw [List.length_map] at this
          exact this
        · exact HI6.out
end Go.Proofs.Ytkpgphadgomifaa
