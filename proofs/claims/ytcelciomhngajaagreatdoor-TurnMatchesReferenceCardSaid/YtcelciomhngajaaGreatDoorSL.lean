/- Texts of this seat, laid together: ScR14v, ScR14e, ScR14f, ScPure11. -/
import Derived.Test.YtcelciomhngajaaGreatDoorSJ
import Derived.Test.YtcelciomhngajaaGreatDoorSF
import Derived.Test.YtcelciomhngajaaGreatDoorSB
/- The reference's View: its inner loop: walked. -/
namespace Go.Proofs.YtcelciomhngajaaGreatDoor
set_option linter.unusedSimpArgs false
set_option linter.unusedVariables false
open Go.RowKit Go.Sort

/-- The bodies of all loops, in the order of the text. -/
def loopsOf : Code → List Code
  | .loop c => c :: loopsOf c
  | .seq a b => loopsOf a ++ loopsOf b
  | .block _ c => loopsOf c
  | .scope c => loopsOf c
  | .cond _ a b => loopsOf a ++ loopsOf b
  | _ => []
open Go.RowKit Go.Sort

theorem MeAt.get {w : World} {a : Option Addr} {l : List Me} (h : MeAt w a l) (i : Nat) (hi : i < l.length) : ∃ b off, a = some ⟨b, off, none⟩ ∧ b < w.heap.size ∧ w.cell? ⟨b, off + i * 5, none⟩ = some (.int .i64 l[i].bar) ∧ w.cell? ⟨b, off + i * 5 + 1, none⟩ = some (.int .i64 l[i].key) ∧ w.cell? ⟨b, off + i * 5 + 2, none⟩ = some (.int .i64 l[i].len.n) ∧ w.cell? ⟨b, off + i * 5 + 3, none⟩ = some (.int .i64 l[i].len.d) ∧ w.cell? ⟨b, off + i * 5 + 4, none⟩ = some (.slice l[i].na l[i].notes.length l[i].ncap) := by
  obtain ⟨b, off, e, hb, _, hc⟩ := h.at_ i l[i].cells (by simp [hi])
  exact ⟨b, off, e, hb, hc 0 _ rfl, hc 1 _ rfl, hc 2 _ rfl, hc 3 _ rfl, hc 4 _ rfl⟩
/-- Does layer 14 call a view few? -/
def few14 (l : List MeP) : Bool := decide (l.length ≤ 60) && decide ((l.map fun m => m.notes.length).sum ≤ 80)
/-- How many notes the first measures have. -/
def sumK (ms : List Me) (k : Nat) : Nat := ((ms.take k).map fun m => m.notes.length).sum
theorem sumK_succ {ms : List Me} {k : Nat} (h : k < ms.length) : sumK ms (k + 1) = sumK ms k + ms[k].notes.length := by
  unfold sumK
  rw [List.take_succ_eq_append_getElem h, List.map_append, List.sum_append]; simp
theorem sumK_le {ms : List Me} {B : Nat} (hn : ∀ m ∈ ms, m.notes.length ≤ B) (k : Nat) : sumK ms k ≤ k * B := by
  induction k with
  | zero => simp [sumK]
  | succ k ih =>
    rw [Nat.succ_mul]
    by_cases h : k < ms.length
    · rw [sumK_succ h]
      exact Nat.add_le_add ih (hn _ (List.getElem_mem h))
    · have : sumK ms (k + 1) = sumK ms k := by unfold sumK; rw [List.take_of_length_le (by omega), List.take_of_length_le (by omega)]
      rw [this]; exact Nat.le_trans ih (Nat.le_add_right _ _)
theorem few14_eq (ms : List Me) : few14 (ms.map Me.says) = (decide (ms.length ≤ 60) && decide (sumK ms ms.length ≤ 80)) := by
  unfold few14 sumK
  rw [List.take_length, List.length_map, List.map_map]; rfl
set_option maxRecDepth 100000 in
set_option maxHeartbeats 4000000 in
theorem RFew14_any (p : Int) (a : Option Addr) (cap : Nat) (ms : List Me) (w : World) (hl : ms.length ≤ 140737488355328) (hn : ∀ m ∈ ms, m.notes.length ≤ 140737488355328) (hm : MeAt w a ms) :
    Calls Tryz.prog 33 #[.agg #[.int .i64 p, .slice a ms.length cap]] w fun e w' => e = .returned (.bool (few14 (ms.map Me.says))) ∧ Below w.heap.size w w' := by
  have HR := Lib.hid (few14_eq ms)
  generalize few14 (ms.map Me.says) = R at *
  have HX1 := Lib.hid (heap_alloc_new w (.cells #[.int .i64 p, .slice a ms.length cap] 30))
  have HB := Lib.hid ((Below.refl w.heap.size w).alloc (Nat.le_refl _) (.cells #[.int .i64 p, .slice a ms.length cap] 30))
  have HM := Lib.hid hm; have HLe := Lib.hid (sumK_le hn)
  clear hm
  go_enter Tryz.func33, Tryz.ntmps33
  go_upto_region 1 with (fail)
  generalize w.alloc (.cells #[.int .i64 p, .slice a ms.length cap] 30) = W at *
  have hc1 := box_cells HX1.out
  go_wp2
  go_loopw [3, 4] (fun s3 s4 wr => ∃ k : Nat, k ≤ ms.length ∧ k ≤ 61 ∧ s4 = .int .i64 k ∧ s3 = .int .i64 (sumK ms k : Nat) ∧ W = wr) (fun _ s4 _ => 61 - (intOf s4).toNat)
  case atStart => exact ⟨0, Nat.zero_le _, by omega, rfl, by simp [sumK], rfl⟩
  case round =>
    obtain ⟨k, hk, hk2, rfl, rfl, rfl⟩ := hrel
    have hsl := HLe.out k
    by_cases hlt : k < ms.length
    · by_cases hlt2 : k < 61
      · obtain ⟨b, off, hqa, _, _, _, _, _, c4⟩ := (HM.out.below HB.out).get k hlt
        have HSu := Lib.hid (sumK_succ hlt)
        have hnl := hn _ (List.getElem_mem hlt)
        subst hqa
        generalize sumK ms k = S0 at *
        generalize ms[k] = M at *
        have hw : IntKind.i64.wrap ((S0 : Int) + (M.notes.length : Int)) = (S0 : Int) + (M.notes.length : Int) := IntWalk.i64_in _ (by omega)
        go_wp2
        exact ⟨⟨k + 1, by omega, by omega, by go_num, by rw [HSu.out]; simp, trivial⟩, by simp [intOf]; omega⟩
      · have HF := Lib.hid (show R = false by rw [HR.out, decide_eq_false (show ¬ ms.length ≤ 60 by omega)]; rfl)
        generalize sumK ms k = S0 at *
        have hbig : ¬ ((ms.length : Int) ≤ 60) := by omega
        go_wp2
        go_ret
        exact ⟨ret_bool HF.out.symm, HB.out⟩
    · obtain rfl : k = ms.length := by omega
      generalize sumK ms ms.length = S0 at *
      go_wp2
      all_goals (go_ret; refine ⟨ret_bool ?_, HB.out⟩; rw [HR.out, Bool.eq_iff_iff]; simp only [Bool.and_eq_true, decide_eq_true_eq, Bool.false_eq_true, false_iff, iff_false]; omega)
open Go.RowKit Go.Sort

noncomputable def rvalBody (i : Nat) : Code := ((Tryz.f72.body.map loopsOf).getD []).getD i .skip
theorem OwnR.neType {w : World} {B c : Nat} {E T : TypeId} {sz : Nat} {v : Value} {rows : List (List Value)} {cs : Array Value} {fr : Nat × Nat} (o : OwnR w B E sz v rows) (h : w.heap[c]? = some (.cells cs T fr)) (hne : T ≠ E) : some c ≠ v.ownBlock := fun e => by
  obtain ⟨cur, hc⟩ := o.isCells e.symm
  rw [h] at hc; cases hc; exact hne rfl
/-- What the inner loop of Valid rests on. -/
structure RVL (M : Me) (A0 : List Wr) (mb B0 : Nat) (R : Bool) (wo : World) : Prop where
  m : wo.heap[mb]? = some (.cells #[.int .i64 M.bar, .int .i64 M.key, .int .i64 M.len.n, .int .i64 M.len.d, .slice M.na M.notes.length M.ncap] 60)
  n : ∀ W, Below B0 wo W → WrAt W M.na M.notes
  few : M.notes.length ≤ 1000
  few0 : A0.length ≤ 50000
  le : B0 ≤ wo.heap.size
  form : ∀ k (hk : k < M.notes.length), formW M.notes[k] M.len = false → R = false
  dup : ∀ k (hk : k < M.notes.length), ((A0 ++ M.notes.take k).map Wr.id).contains M.notes[k].id = true → R = false
  many : ∀ k (hk : k < M.notes.length), 20000 ≤ A0.length + k → R = false
  ord : ∀ k (hk : k + 1 < M.notes.length), beforeW M.notes[k] M.notes[k + 1] = false → R = false
theorem formW_vld {x : Wr} {l : Rt} (h : formW x l = true) : vldP x.pitch = true := by simp only [formW, Bool.and_eq_true] at h; exact h.1.1.1.2
/-- What a measure's notes are that Valid has gone through. -/
structure RVOk (M : Me) (A0 : List Wr) (k : Nat) : Prop where
  form : ∀ j (hj : j < M.notes.length), j < k → formW M.notes[j] M.len = true
  dup : ∀ j (hj : j < M.notes.length), j < k → ((A0 ++ M.notes.take j).map Wr.id).contains M.notes[j].id = false
  many : ∀ j, j < M.notes.length → j < k → A0.length + j < 20000
  ord : ∀ j (hj : j + 1 < M.notes.length), j + 1 < k → beforeW M.notes[j] M.notes[j + 1] = true
theorem RVOk.zero (M : Me) (A0 : List Wr) : RVOk M A0 0 := ⟨fun j hj h => by omega, fun j hj h => by omega, fun j hj h => by omega, fun j hj h => by omega⟩
theorem RVOk.succ {M : Me} {A0 : List Wr} {k : Nat} (h : RVOk M A0 k) (hk : k < M.notes.length) (h1 : formW M.notes[k] M.len = true) (h2 : ((A0 ++ M.notes.take k).map Wr.id).contains M.notes[k].id = false) (h3 : A0.length + k < 20000) (h4 : ∀ j (hj : j + 1 = k), beforeW (M.notes[j]'(by omega)) M.notes[k] = true) : RVOk M A0 (k + 1) :=
  ⟨fun j hj hjk => if e : j = k then by subst e; exact h1 else h.form j hj (by omega), fun j hj hjk => if e : j = k then by subst e; exact h2 else h.dup j hj (by omega), fun j hj hjk => if e : j = k then by subst e; exact h3 else h.many j hj (by omega),
    fun j hj hjk => if e : j + 1 = k then by subst e; exact h4 j rfl else h.ord j hj (by omega)⟩
set_option maxRecDepth 1000000 in
set_option maxHeartbeats 8000000 in
theorem rval2_any {M : Me} {A0 : List Wr} {mb B0 : Nat} {R : Bool} {wo : World} (X : RVL M A0 mb B0 R wo) (v0 : Value) (h0 : OwnR wo B0 64 10 v0 (A0.map Wr.cells))
    (b off : Nat) (hna : M.notes ≠ [] → M.na = some ⟨b, off, none⟩) {s0 s1 s2 s3 s4 s5 s6 s8 s10 s12 s13 s14 s15 s16 s17 s18 s19 s20 s21 s22 s23 s24 s25 s26 s27 s28 s29 s30 s31 s32 s33 s34 s35 s36 s37 s38 s39 s40 s41 s42 s43 s44 s45 s46 s47 s48 s49 s50 s51 s52 s53 s54 s55 s56 s57 s58 s59 s60 s61 s62 s63 s64 s65 s66 s67 s68 s69 s70 s71 s72 s73 s74 s75 s76 s77 s78 s79 s80 s81 s82 s83 s84 s85 s86 s87 s88 s89 s90 s91 s92 s93 s94 s95 s96 s97 s98 s99 s100 s101 s102 s103 s104 s105 s106 s107 s108 s109 s110 s111 s112 s113 s114 s115 s116 s117 s118 s119 : Value} (Q : Exit → Act → World → Prop)
    (hfail : ∀ (t7 t11 t12 t13 t14 t63 t64 t65 t66 t67 t68 t69 t70 t71 t72 t73 t74 t75 t76 t77 t78 t79 t80 t81 t82 t83 t84 t85 t86 t87 t88 t89 t90 t91 t92 t93 t94 t95 t96 t97 t98 t99 t100 t101 t102 t103 t104 t105 t106 t107 t108 t109 t110 t111 t112 t113 t114 t115 t116 t117 t118 t119 : Value) (W' : World), R = false → Below B0 wo W' → Q .ret ⟨(List.toArray (s0 :: s1 :: s2 :: s3 :: .bool false :: s5 :: s6 :: t7 :: s8 :: .pointer (some ⟨mb, 0, none⟩) :: s10 :: t11 :: t12 :: t13 :: t14 :: s15 :: s16 :: s17 :: s18 :: s19 :: s20 :: s21 :: s22 :: s23 :: s24 :: s25 :: s26 :: s27 :: s28 :: s29 :: s30 :: s31 :: s32 :: s33 :: s34 :: s35 :: s36 :: s37 :: s38 :: s39 :: s40 :: s41 :: s42 :: s43 :: s44 :: s45 :: s46 :: s47 :: s48 :: s49 :: s50 :: s51 :: s52 :: s53 :: s54 :: s55 :: s56 :: s57 :: s58 :: s59 :: s60 :: s61 :: s62 :: t63 :: t64 :: t65 :: t66 :: t67 :: t68 :: t69 :: t70 :: t71 :: t72 :: t73 :: t74 :: t75 :: t76 :: t77 :: t78 :: t79 :: t80 :: t81 :: t82 :: t83 :: t84 :: t85 :: t86 :: t87 :: t88 :: t89 :: t90 :: t91 :: t92 :: t93 :: t94 :: t95 :: t96 :: t97 :: t98 :: t99 :: t100 :: t101 :: t102 :: t103 :: t104 :: t105 :: t106 :: t107 :: t108 :: t109 :: t110 :: t111 :: t112 :: t113 :: t114 :: t115 :: t116 :: t117 :: t118 :: t119 :: List.nil)), []⟩ W')
    (hexit : ∀ (t4 t11 t12 t13 t14 t63 t64 t65 t66 t67 t68 t69 t70 t71 t72 t73 t74 t75 t76 t77 t78 t79 t80 t81 t82 t83 t84 t85 t86 t87 t88 t89 t90 t91 t92 t93 t94 t95 t96 t97 t98 t99 t100 t101 t102 t103 t104 t105 t106 t107 t108 t109 t110 t111 t112 t113 t114 t115 t116 t117 t118 t119 : Value) (W' : World) (v' : Value), OwnR W' B0 64 10 v' ((A0 ++ M.notes).map Wr.cells) → RVOk M A0 M.notes.length → Below B0 wo W' → Q (.exit 2) ⟨(List.toArray (s0 :: s1 :: s2 :: s3 :: t4 :: s5 :: s6 :: v' :: s8 :: .pointer (some ⟨mb, 0, none⟩) :: s10 :: t11 :: t12 :: t13 :: t14 :: s15 :: s16 :: s17 :: s18 :: s19 :: s20 :: s21 :: s22 :: s23 :: s24 :: s25 :: s26 :: s27 :: s28 :: s29 :: s30 :: s31 :: s32 :: s33 :: s34 :: s35 :: s36 :: s37 :: s38 :: s39 :: s40 :: s41 :: s42 :: s43 :: s44 :: s45 :: s46 :: s47 :: s48 :: s49 :: s50 :: s51 :: s52 :: s53 :: s54 :: s55 :: s56 :: s57 :: s58 :: s59 :: s60 :: s61 :: s62 :: t63 :: t64 :: t65 :: t66 :: t67 :: t68 :: t69 :: t70 :: t71 :: t72 :: t73 :: t74 :: t75 :: t76 :: t77 :: t78 :: t79 :: t80 :: t81 :: t82 :: t83 :: t84 :: t85 :: t86 :: t87 :: t88 :: t89 :: t90 :: t91 :: t92 :: t93 :: t94 :: t95 :: t96 :: t97 :: t98 :: t99 :: t100 :: t101 :: t102 :: t103 :: t104 :: t105 :: t106 :: t107 :: t108 :: t109 :: t110 :: t111 :: t112 :: t113 :: t114 :: t115 :: t116 :: t117 :: t118 :: t119 :: List.nil)), []⟩ W') :
    Code.wp Tryz.prog (Code.loop (rvalBody 1)) Q ⟨(List.toArray (s0 :: s1 :: s2 :: s3 :: s4 :: s5 :: s6 :: v0 :: s8 :: .pointer (some ⟨mb, 0, none⟩) :: s10 :: .int .i64 0 :: s12 :: s13 :: s14 :: s15 :: s16 :: s17 :: s18 :: s19 :: s20 :: s21 :: s22 :: s23 :: s24 :: s25 :: s26 :: s27 :: s28 :: s29 :: s30 :: s31 :: s32 :: s33 :: s34 :: s35 :: s36 :: s37 :: s38 :: s39 :: s40 :: s41 :: s42 :: s43 :: s44 :: s45 :: s46 :: s47 :: s48 :: s49 :: s50 :: s51 :: s52 :: s53 :: s54 :: s55 :: s56 :: s57 :: s58 :: s59 :: s60 :: s61 :: s62 :: s63 :: s64 :: s65 :: s66 :: s67 :: s68 :: s69 :: s70 :: s71 :: s72 :: s73 :: s74 :: s75 :: s76 :: s77 :: s78 :: s79 :: s80 :: s81 :: s82 :: s83 :: s84 :: s85 :: s86 :: s87 :: s88 :: s89 :: s90 :: s91 :: s92 :: s93 :: s94 :: s95 :: s96 :: s97 :: s98 :: s99 :: s100 :: s101 :: s102 :: s103 :: s104 :: s105 :: s106 :: s107 :: s108 :: s109 :: s110 :: s111 :: s112 :: s113 :: s114 :: s115 :: s116 :: s117 :: s118 :: s119 :: List.nil)), []⟩ wo := by
  have HX := Lib.hid X; have HQ := Lib.hid hexit; have HQf := Lib.hid hfail
  have hL := X.few; have hL0 := X.few0
  have H0 := Lib.hid h0
  clear X hexit hfail h0
  conv => arg 2; arg 1; whnf
  go_loopw [7, 11] (fun s7 i wi => ∃ (k : Nat), k ≤ M.notes.length ∧ i = .int .i64 k ∧ OwnR wi B0 64 10 s7 ((A0 ++ M.notes.take k).map Wr.cells) ∧ RVOk M A0 k ∧ wi.heap[mb]? = some (.cells #[.int .i64 M.bar, .int .i64 M.key, .int .i64 M.len.n, .int .i64 M.len.d, .slice M.na M.notes.length M.ncap] 60) ∧ Below B0 wo wi) (fun _ i _ => M.notes.length - (intOf i).toNat)
  case atStart => exact ⟨0, Nat.zero_le _, rfl, by simpa using H0.out, RVOk.zero _ _, HX.out.m, Below.refl _ _⟩
  case round =>
    obtain ⟨k, hk, rfl, hov, hall, hm, hbe⟩ := hrel
    have HO := Lib.hid hov; have HA := Lib.hid hall; have HB := Lib.hid hbe; have HM := Lib.hid hm
    clear hov hall hbe hm H0
    by_cases hlt : k < M.notes.length
    · have hqa := hna (fun e => by rw [e] at hlt; simp at hlt)
      have HPrev := Lib.hid (show ∀ W, Below B0 wo W → ∀ j (hj : j < M.notes.length), W.cell? ⟨b, off + j * 10, none⟩ = some (.int .i64 M.notes[j].id) ∧ W.cell? ⟨b, off + j * 10 + 1, none⟩ = some (.int .i64 M.notes[j].voice) ∧ W.cell? ⟨b, off + j * 10 + 2, none⟩ = some (.int .i64 M.notes[j].ossia) ∧ W.cell? ⟨b, off + j * 10 + 3, none⟩ = some (.int .i64 M.notes[j].start.n) ∧ W.cell? ⟨b, off + j * 10 + 4, none⟩ = some (.int .i64 M.notes[j].start.d) ∧ W.cell? ⟨b, off + j * 10 + 5, none⟩ = some (.int .i64 M.notes[j].len.n) ∧ W.cell? ⟨b, off + j * 10 + 6, none⟩ = some (.int .i64 M.notes[j].len.d) ∧ W.cell? ⟨b, off + j * 10 + 7, none⟩ = some (.int .i64 M.notes[j].pitch.s) ∧ W.cell? ⟨b, off + j * 10 + 8, none⟩ = some (.int .i64 M.notes[j].pitch.a) ∧ W.cell? ⟨b, off + j * 10 + 9, none⟩ = some (.int .i64 M.notes[j].pitch.o) from fun W hb j hj => by
        obtain ⟨b', off', e', _, h⟩ := (HX.out.n W hb).get j hj
        rw [hqa] at e'
        cases e'
        exact h)
      obtain ⟨c0, c1, c2, c3, c4, c5, c6, c7, c8, c9⟩ := HPrev.out _ HB.out k hlt
      have HF1 := Lib.hid (HX.out.form k hlt); have HF2 := Lib.hid (HX.out.dup k hlt); have HF3 := Lib.hid (HX.out.many k hlt)
      have HSu := Lib.hid (HA.out.succ hlt)
      have HFo := Lib.hid (fun W => R14Form_any M.notes[k] M.len W)
      have hLt : (A0 ++ M.notes.take k).length = A0.length + k := by rw [List.length_append, List.length_take, Nat.min_eq_left hk]
      have HHas := Lib.hid (fun (W : World) (a : Option Addr) (c : Nat) (h : WrAt W a (A0 ++ M.notes.take k)) => by have := RHas_any a c (A0 ++ M.notes.take k) M.notes[k].id W (by omega) h; rwa [hLt] at this)
      have HTk := Lib.hid (show A0 ++ M.notes.take (k + 1) = (A0 ++ M.notes.take k) ++ [M.notes[k]] by rw [List.take_succ_eq_append_getElem hlt, List.append_assoc])
      obtain ⟨aa, cc, e7, _, hsA⟩ := HO.out.slAt
      rw [List.length_map, hLt] at e7
      subst e7
      have HSA := Lib.hid (show WrAt wr aa (A0 ++ M.notes.take k) from hsA)
      have HLt := Lib.hid hLt
      clear hsA hLt
      have HCs := Lib.hid (show _ ∧ _ ∧ _ ∧ _ ∧ _ ∧ _ ∧ _ ∧ _ ∧ _ ∧ _ from ⟨c0, c1, c2, c3, c4, c5, c6, c7, c8, c9⟩)
      have HId0 := Lib.hid c0
      have hc9q := HM.out
      rw [hqa] at hc9q
      have hc9 := box_cells hc9q
      clear hc9q
      have HNo := Lib.hid hqa; clear hqa
      have HTake := Lib.hid (rfl : M.notes.take k = M.notes.take k)
      have HBef := Lib.hid (fun (j : Nat) (hj : j + 1 = k) (h1 : vldP (M.notes[j]'(by omega)).pitch = true) (h2 : vldP M.notes[k].pitch = true) W => R14Before_any (M.notes[j]'(by omega)) M.notes[k] W h1 h2)
      generalize hxk : M.notes[k] = x at *
      have HXk := Lib.hid hxk; clear hxk
      obtain ⟨E, hE⟩ : ∃ E, E = formW x M.len := ⟨_, rfl⟩
      obtain ⟨D, hD⟩ : ∃ D, D = ((A0 ++ M.notes.take k).map Wr.id).contains x.id := ⟨_, rfl⟩
      rw [← hE] at HF1 HFo HSu; rw [← hD] at HF2 HHas HSu
      have HE := Lib.hid hE; clear hE hD
      have g2 := cell_regrown (hc9 2); have g3 := cell_regrown (hc9 3); have g4 := cell_regrown (hc9 4)
      have y0 := cell_regrown c0; have y1 := cell_regrown c1; have y2 := cell_regrown c2; have y3 := cell_regrown c3; have y4 := cell_regrown c4; have y5 := cell_regrown c5; have y6 := cell_regrown c6; have y7 := cell_regrown c7; have y8 := cell_regrown c8; have y9 := cell_regrown c9
      clear c0 c1 c2 c3 c4 c5 c6 c7 c8 c9
      go_wp2
      refine wp_quietB (by kernel_rfl) (by kernel_rfl) ?_
      (repeat (go_big_quiet_step (fail)))
      go_big_quiet_step ((go_at_call 118; refine Calls.regrown_of (HFo.out _)))
      (repeat (go_big_quiet_step (fail)))
      refine wpQuiet_nil ?_
      intro w5 hb
      have HSB := Lib.hid (Nat.le_trans HX.out.le HB.out.size)
      replace HSA := Lib.hid (HSA.out.below hb)
      replace HB := Lib.hid (HB.out.trans (hb.mono (Nat.le_trans HX.out.le HB.out.size))); replace HO := Lib.hid (HO.out.below hb); replace HM := Lib.hid (blk_keep HM.out hb)
      clear hb g2 g3 g4 y0 y1 y2 y3 y4 y5 y6 y7 y8 y9 hc9
      have hc9q := HM.out
      rw [HNo.out] at hc9q
      have hc9 := box_cells hc9q
      clear hc9q
      obtain ⟨c0, c1, c2, c3, c4, c5, c6, c7, c8, c9⟩ := HPrev.out _ HB.out k hlt
      rw [HXk.out] at c0 c1 c2 c3 c4 c5 c6 c7 c8 c9
      cases E
      · have HF := Lib.hid (HF1.out rfl)
        cases D <;> (go_wp2_with (go_at_call 119; refine (HHas.out _ _ _ HSA.out).mono ?_; rintro e w6 ⟨rfl, rfl⟩); exact HQf.out _ _ _ _ _ _ _ _ _ _ _ _ _ _ _ _ _ _ _ _ _ _ _ _ _ _ _ _ _ _ _ _ _ _ _ _ _ _ _ _ _ _ _ _ _ _ _ _ _ _ _ _ _ _ _ _ _ _ _ _ _ _ _ HF.out HB.out)
      cases D
      case true =>
        have HF := Lib.hid (HF2.out rfl)
        go_wp2_with (go_at_call 119; refine (HHas.out _ _ _ HSA.out).mono ?_; rintro e w6 ⟨rfl, rfl⟩)
        exact HQf.out _ _ _ _ _ _ _ _ _ _ _ _ _ _ _ _ _ _ _ _ _ _ _ _ _ _ _ _ _ _ _ _ _ _ _ _ _ _ _ _ _ _ _ _ _ _ _ _ _ _ _ _ _ _ _ _ _ _ _ _ _ _ _ HF.out HB.out
      by_cases hmany : 20000 ≤ A0.length + k
      · have HF := Lib.hid (HF3.out hmany)
        have hmi : (20000 : Int) ≤ (A0.length : Int) + (k : Int) := by omega
        go_wp2_with (go_at_call 119; refine (HHas.out _ _ _ HSA.out).mono ?_; rintro e w6 ⟨rfl, rfl⟩)
        exact HQf.out _ _ _ _ _ _ _ _ _ _ _ _ _ _ _ _ _ _ _ _ _ _ _ _ _ _ _ _ _ _ _ _ _ _ _ _ _ _ _ _ _ _ _ _ _ _ _ _ _ _ _ _ _ _ _ _ _ _ _ _ _ _ _ HF.out HB.out
      have hmi : ¬ (20000 : Int) ≤ (A0.length : Int) + (k : Int) := by omega
      have HVx := Lib.hid (formW_vld HE.out.symm)
      go_upto_region 22 with (go_at_call 119; refine (HHas.out _ _ _ HSA.out).mono ?_; rintro e w6 ⟨rfl, rfl⟩)
      have HSB2 := Lib.hid (Nat.le_trans HX.out.le HB.out.size)
      by_cases hk0 : 0 < (k : Int)
      · obtain ⟨j, hj⟩ : ∃ j, j + 1 = k := ⟨k - 1, by omega⟩
        have HJ := Lib.hid hj
        have hjl : j < M.notes.length := by omega
        have HVj := Lib.hid (formW_vld (HA.out.form j hjl (by omega)))
        have HBe := Lib.hid (fun W => show Calls Tryz.prog 120 #[.agg #[.int .i64 (M.notes[j]'hjl).id, .int .i64 (M.notes[j]'hjl).voice, .int .i64 (M.notes[j]'hjl).ossia, .int .i64 (M.notes[j]'hjl).start.n, .int .i64 (M.notes[j]'hjl).start.d, .int .i64 (M.notes[j]'hjl).len.n, .int .i64 (M.notes[j]'hjl).len.d, .int .i64 (M.notes[j]'hjl).pitch.s, .int .i64 (M.notes[j]'hjl).pitch.a, .int .i64 (M.notes[j]'hjl).pitch.o], .agg #[.int .i64 x.id, .int .i64 x.voice, .int .i64 x.ossia, .int .i64 x.start.n, .int .i64 x.start.d, .int .i64 x.len.n, .int .i64 x.len.d, .int .i64 x.pitch.s, .int .i64 x.pitch.a, .int .i64 x.pitch.o]] W fun e w' => e = .returned (.bool (beforeW (M.notes[j]'hjl) x)) ∧ Below W.heap.size W w' from HBef.out j hj HVj.out HVx.out W)
        have HF4 := Lib.hid (show beforeW (M.notes[j]'hjl) x = false → R = false from fun h => by
          have hjk : j + 1 < M.notes.length := by omega
          refine HX.out.ord j hjk ?_
          have e : M.notes[j + 1] = x := by have := HXk.out; simpa [hj] using this
          rw [e]; exact h)
        have hw : IntKind.i64.wrap ((k : Int) - 1) = (j : Int) := by rw [IntWalk.i64_in _ (by omega)]; omega
        obtain ⟨d0, d1, d2, d3, d4, d5, d6, d7, d8, d9⟩ := HPrev.out _ HB.out j hjl
        have HSu2 := Lib.hid (show beforeW (M.notes[j]'hjl) x = true → RVOk M A0 (k + 1) from fun h => HSu.out trivial trivial (by omega) (fun j2 hj2 => by (have e : j2 = j := Nat.succ.inj (hj2.trans hj.symm); subst e; exact h)))
        clear hj HBef HVj HSu
        generalize M.notes[j] = y at *
        have g4 := cell_regrown (hc9 4)
        replace c0 := cell_regrown c0; replace c1 := cell_regrown c1; replace c2 := cell_regrown c2; replace c3 := cell_regrown c3; replace c4 := cell_regrown c4; replace c5 := cell_regrown c5; replace c6 := cell_regrown c6; replace c7 := cell_regrown c7; replace c8 := cell_regrown c8; replace c9 := cell_regrown c9
        replace d0 := cell_regrown d0; replace d1 := cell_regrown d1; replace d2 := cell_regrown d2; replace d3 := cell_regrown d3; replace d4 := cell_regrown d4; replace d5 := cell_regrown d5; replace d6 := cell_regrown d6; replace d7 := cell_regrown d7; replace d8 := cell_regrown d8; replace d9 := cell_regrown d9
        obtain ⟨Q2, hQ2⟩ : ∃ Q2, Q2 = beforeW y x := ⟨_, rfl⟩
        rw [← hQ2] at HBe HF4 HSu2
        clear hQ2
        go_wp2
        refine wp_quietB (by kernel_rfl) (by kernel_rfl) ?_
        (repeat (go_big_quiet_step (fail)))
        go_big_quiet_step ((go_at_call 120; refine Calls.regrown_of (HBe.out _)))
        (repeat (go_big_quiet_step (fail)))
        refine wpQuiet_nil ?_
        intro w7 hb
        replace HB := Lib.hid (HB.out.trans (hb.mono (Nat.le_trans HX.out.le HB.out.size))); replace HO := Lib.hid (HO.out.below hb); replace HM := Lib.hid (blk_keep HM.out hb)
        replace HSB2 := Lib.hid (Nat.le_trans HX.out.le HB.out.size)
        clear hb g4 c0 c1 c2 c3 c4 c5 c6 c7 c8 c9 d0 d1 d2 d3 d4 d5 d6 d7 d8 d9 hc9
        cases Q2
        · have HF := Lib.hid (HF4.out rfl)
          go_wp2
          exact HQf.out _ _ _ _ _ _ _ _ _ _ _ _ _ _ _ _ _ _ _ _ _ _ _ _ _ _ _ _ _ _ _ _ _ _ _ _ _ _ _ _ _ _ _ _ _ _ _ _ _ _ _ _ _ _ _ _ _ _ _ _ _ _ _ HF.out HB.out
        · have HOk := Lib.hid (HSu2.out rfl)
          have hc9q := HM.out
          rw [HNo.out] at hc9q
          have hc9 := box_cells hc9q
          clear hc9q
          obtain ⟨c0, c1, c2, c3, c4, c5, c6, c7, c8, c9⟩ := HPrev.out _ HB.out k hlt
          rw [HXk.out] at c0 c1 c2 c3 c4 c5 c6 c7 c8 c9
          go_wp2_with (at_builtin; refine appE eltWr rfl (.tmp 112) (.tmp 118) rfl B0 _ (A0 ++ M.notes.take k) rfl (HO.out.below (below_box _)) _ _ _ [x] rfl rfl (fun e => by cases e) (eltWr.new _ x _ _ rfl) (by rw [HLt.out]; simp; omega) (Nat.le_trans HSB2.out (below_box _).size) ?_; intro v2 w2 ho2 hg2; have HO2 := Lib.hid ho2; have HG2 := Lib.hid hg2; clear ho2 hg2); refine ⟨⟨k + 1, by omega, by go_num, by rw [HTk.out]; exact HO2.out, HOk.out, ?_, ?_⟩, by simp [intOf]; omega⟩; (· exact (HG2.out.block mb (by have := lt_blk HM.out; simp; omega) (HO.out.neType HM.out (by decide))).trans (up_alloc HM.out _)); (· exact (HB.out.alloc HSB2.out _).grown HG2.out (Nat.le_trans HSB2.out (below_box _).size) (fun j e => (HO.out.lt j e).1))
      · have hk0' : k = 0 := by omega
        have HOk := Lib.hid (HSu.out trivial trivial (by omega) (fun j hj => by omega))
        clear hk0'
        go_wp2_with (at_builtin; refine appE eltWr rfl (.tmp 112) (.tmp 118) rfl B0 _ (A0 ++ M.notes.take k) rfl (HO.out.below (below_box _)) _ _ _ [x] rfl rfl (fun e => by cases e) (eltWr.new _ x _ _ rfl) (by rw [HLt.out]; simp; omega) (Nat.le_trans HSB2.out (below_box _).size) ?_; intro v2 w2 ho2 hg2; have HO2 := Lib.hid ho2; have HG2 := Lib.hid hg2; clear ho2 hg2); refine ⟨⟨k + 1, by omega, by go_num, by rw [HTk.out]; exact HO2.out, HOk.out, ?_, ?_⟩, by simp [intOf]; omega⟩; (· exact (HG2.out.block mb (by have := lt_blk HM.out; simp; omega) (HO.out.neType HM.out (by decide))).trans (up_alloc HM.out _)); (· exact (HB.out.alloc HSB2.out _).grown HG2.out (Nat.le_trans HSB2.out (below_box _).size) (fun j e => (HO.out.lt j e).1))
    · obtain rfl : k = M.notes.length := by omega
      have hc9 := box_cells HM.out
      go_wp2
      refine HQ.out _ _ _ _ _ _ _ _ _ _ _ _ _ _ _ _ _ _ _ _ _ _ _ _ _ _ _ _ _ _ _ _ _ _ _ _ _ _ _ _ _ _ _ _ _ _ _ _ _ _ _ _ _ _ _ _ _ _ _ _ _ _ wr _ (by have := HO.out; rwa [List.take_length] at this) HA.out HB.out
open Go.RowKit Go.Sort

theorem nodup_snoc {l r : List Int} (h : (l ++ r).Nodup) (k : Nat) (hk : k < r.length) : (l ++ r.take k).contains r[k] = false := by
  rw [← Bool.not_eq_true]
  intro hc
  have hc : r[k] ∈ l ++ r.take k := by simpa using hc
  have e : l ++ r = (l ++ r.take k) ++ r.drop k := by rw [List.append_assoc, List.take_append_drop]
  rw [e, List.nodup_append] at h
  exact h.2.2 r[k] hc r[k] (by rw [List.drop_eq_getElem_cons hk]; exact List.mem_cons_self) rfl
theorem nodup_of {l r : List Int} (hl : l.Nodup) (h : ∀ k (hk : k < r.length), (l ++ r.take k).contains r[k] = false) : (l ++ r).Nodup := by
  have key : ∀ m, m ≤ r.length → (l ++ r.take m).Nodup := by
    intro m
    induction m with
    | zero => intro _; simpa using hl
    | succ m ih =>
      intro hm
      have h1 := ih (by omega)
      have h2 := h m (by omega)
      rw [List.take_succ_eq_append_getElem (by omega), ← List.append_assoc, List.nodup_append]
      refine ⟨h1, by simp, fun a ha b hb e => ?_⟩
      simp only [List.mem_singleton] at hb
      subst hb; subst e
      have : (l ++ r.take m).contains r[m] = true := by simpa using ha
      rw [h2] at this; cases this
  have := key r.length (Nat.le_refl _)
  rwa [List.take_length] at this
/-- The notes of a measure are in their order, if neighbours are. -/
theorem sortedW_ok {M : Me} {A0 : List Wr} (h : RVOk M A0 M.notes.length) : sortedW M.notes = true := by
  unfold sortedW
  rw [List.all_eq_true]
  intro j hj
  have hj := List.mem_range.1 hj
  have e1 : M.notes.getD j default = M.notes[j] := by simp [List.getD, show j < M.notes.length by omega]
  have e2 : M.notes.getD (j + 1) default = M.notes[j + 1] := by simp [List.getD, show j + 1 < M.notes.length by omega]
  rw [e1, e2]; exact h.ord j (by omega) (by omega)
theorem formW_ok {M : Me} {A0 : List Wr} (h : RVOk M A0 M.notes.length) : M.notes.all (fun w => formW w M.len) = true := by
  rw [List.all_eq_true]
  intro x hx
  obtain ⟨j, hj, rfl⟩ := List.getElem_of_mem hx
  exact h.form j hj hj
theorem ids_ok {M : Me} {A0 : List Wr} (h : RVOk M A0 M.notes.length) (h0 : (A0.map Wr.id).Nodup) : ((A0 ++ M.notes).map Wr.id).Nodup := by
  rw [List.map_append]
  refine nodup_of h0 fun k hk => ?_
  have hk' : k < M.notes.length := by simpa using hk
  have := h.dup k hk' hk'
  rw [List.map_append, List.map_take] at this
  simpa using this
theorem many_ok {M : Me} {A0 : List Wr} (h : RVOk M A0 M.notes.length) (h0 : A0.length ≤ 20000) : (A0 ++ M.notes).length ≤ 20000 := by
  rw [List.length_append]
  rcases Nat.eq_zero_or_pos M.notes.length with e | e
  · omega
  · have := h.many (M.notes.length - 1) (by omega) (by omega); omega
theorem allW_split {l : List MeP} {i : Nat} (hi : i < l.length) : allW l = allW (l.take i) ++ (l[i].notes ++ allW (l.drop (i + 1))) := by
  have e : l = l.take i ++ l[i] :: l.drop (i + 1) := by rw [← List.drop_eq_getElem_cons hi, List.take_append_drop]
  unfold allW
  calc (l.map MeP.notes).flatten = ((l.take i ++ l[i] :: l.drop (i + 1)).map MeP.notes).flatten := by rw [← e]
    _ = _ := by rw [List.map_append, List.map_cons, List.flatten_append, List.flatten_cons]
theorem allW_succ {l : List MeP} {i : Nat} (hi : i < l.length) : allW (l.take (i + 1)) = allW (l.take i) ++ l[i].notes := by
  unfold allW
  rw [List.take_succ_eq_append_getElem hi, List.map_append, List.flatten_append, List.map_singleton, List.flatten_singleton]
/-- What is asked of a view of a valid score, the part found. -/
theorem validV_eq {s : Sc} {part : Int} {p : Pa} {l : List MeP} (h : validS s = true) (hl : l.length = s.bars.length) (hp : partAt s.parts part = some p) :
    validV s part l = ((List.zipWith (fun b m => measureB p b m) s.bars l).all id && decide ((allW l).map Wr.id).Nodup && decide ((allW l).length ≤ 20000)) := by
  unfold validV; rw [h, hp]; simp [hl, Bool.and_assoc]
theorem validV_bad {s : Sc} {part : Int} {p : Pa} {l : List MeP} (h : validS s = true) (hl : l.length = s.bars.length) (hp : partAt s.parts part = some p) (i : Nat) (hi : i < l.length) (hb : measureB p (s.bars[i]'(by omega)) l[i] = false) : validV s part l = false := by
  rw [validV_eq h hl hp]
  have : (List.zipWith (fun b m => measureB p b m) s.bars l).all id = false := by
    rw [← Bool.not_eq_true]; intro ha
    have := List.all_eq_true.1 ha (measureB p (s.bars[i]'(by omega)) l[i]) (by
      rw [List.mem_iff_getElem]
      exact ⟨i, by simp; omega, by simp⟩)
    rw [hb] at this; cases this
  rw [this]; rfl
theorem validV_dup {s : Sc} {part : Int} {p : Pa} {l : List MeP} (h : validS s = true) (hl : l.length = s.bars.length) (hp : partAt s.parts part = some p) (hd : ¬ ((allW l).map Wr.id).Nodup) : validV s part l = false := by
  rw [validV_eq h hl hp, decide_eq_false hd]; simp
theorem validV_many {s : Sc} {part : Int} {p : Pa} {l : List MeP} (h : validS s = true) (hl : l.length = s.bars.length) (hp : partAt s.parts part = some p) (hd : 20000 < (allW l).length) : validV s part l = false := by
  rw [validV_eq h hl hp, decide_eq_false (by omega : ¬ (allW l).length ≤ 20000)]; simp
/-- A double among the notes gone through. -/
theorem dup_all {l : List MeP} {i k : Nat} (hi : i < l.length) (hk : k < l[i].notes.length) (hc : ((allW (l.take i) ++ l[i].notes.take k).map Wr.id).contains l[i].notes[k].id = true) : ¬ ((allW l).map Wr.id).Nodup := by
  intro hn
  have e : (allW l).map Wr.id = (allW (l.take i)).map Wr.id ++ ((l[i].notes ++ allW (l.drop (i + 1))).map Wr.id) := by rw [allW_split hi, List.map_append]
  rw [e] at hn
  have hk2 : k < ((l[i].notes ++ allW (l.drop (i + 1))).map Wr.id).length := by simp; omega
  have := nodup_snoc hn k hk2
  have e2 : ((l[i].notes ++ allW (l.drop (i + 1))).map Wr.id).take k = (l[i].notes.take k).map Wr.id := by
    rw [← List.map_take, List.take_append_of_le_length (by omega)]
  have e3 : ((l[i].notes ++ allW (l.drop (i + 1))).map Wr.id)[k] = l[i].notes[k].id := by rw [List.getElem_map, List.getElem_append_left hk]
  rw [e2, e3, ← List.map_append, hc] at this
  cases this
theorem many_all {l : List MeP} {i k : Nat} (hi : i < l.length) (hk : k < l[i].notes.length) (hc : 20000 ≤ (allW (l.take i)).length + k) : 20000 < (allW l).length := by
  rw [allW_split hi, List.length_append, List.length_append]; omega
theorem validV_done {s : Sc} {part : Int} {p : Pa} {l : List MeP} (h : validS s = true) (hl : l.length = s.bars.length) (hp : partAt s.parts part = some p) (hm : ∀ i (hi : i < l.length), measureB p (s.bars[i]'(by omega)) l[i] = true) (hd : ((allW l).map Wr.id).Nodup) (hn : (allW l).length ≤ 20000) : validV s part l = true := by
  rw [validV_eq h hl hp, decide_eq_true hd, decide_eq_true hn]
  have : (List.zipWith (fun b m => measureB p b m) s.bars l).all id = true := by
    rw [List.all_eq_true]
    intro x hx
    obtain ⟨i, hi, rfl⟩ := List.getElem_of_mem hx
    simp only [List.length_zipWith] at hi
    simp only [List.getElem_zipWith, id]
    exact hm i (by omega)
  rw [this]; rfl
end Go.Proofs.YtcelciomhngajaaGreatDoor

