/- Texts of this seat, laid together: ScR17c, ScR17e, ScR17f, ScR17g. -/
import Derived.Test.YtppjbnnnppffaaaGreatDoorUL
import Derived.Test.YtppjbnnnppffaaaGreatDoorUB
import Derived.Test.YtppjbnnnppffaaaGreatDoorUI
import Derived.Test.YtppjbnnnppffaaaGreatDoorUF
import Derived.IntWalk

/- The reference of layer 17: put: walked. -/
namespace Go.Proofs.YtppjbnnnppffaaaGreatDoor
set_option linter.unusedSimpArgs false
set_option linter.unusedVariables false
open Go.RowKit Go.Sort Go.Shelf

/-- What put has done with the first notes. -/
def PutOk (x : Wr) (l : List Wr) (m : Nat) (d : Bool) (o : List Wr) : Prop :=
  (d = false ∧ o = l.take m ∧ ∀ y ∈ l.take m, beforeW x y = false) ∨ (d = true ∧ o = putL x (l.take m) ∧ ∃ y ∈ l.take m, beforeW x y = true)
theorem PutOk.done {x : Wr} {l : List Wr} {m : Nat} {o : List Wr} (h : PutOk x l m true o) (hm : m < l.length) : PutOk x l (m + 1) true (o ++ [l[m]]) := by
  rcases h with ⟨h, _⟩ | ⟨_, rfl, y, hy, hb⟩
  · cases h
  · refine .inr ⟨rfl, ?_, y, by rw [List.take_succ_eq_append_getElem hm]; exact List.mem_append_left _ hy, hb⟩
    rw [List.take_succ_eq_append_getElem hm, putL_app ⟨y, hy, hb⟩]
theorem PutOk.puts {x : Wr} {l : List Wr} {m : Nat} {o : List Wr} (h : PutOk x l m false o) (hm : m < l.length) (hb : beforeW x l[m] = true) : PutOk x l (m + 1) true (o ++ [x] ++ [l[m]]) := by
  rcases h with ⟨_, rfl, h3⟩ | ⟨h, _⟩
  · refine .inr ⟨rfl, ?_, l[m], by rw [List.take_succ_eq_append_getElem hm]; exact List.mem_append_right _ (List.mem_singleton.2 rfl), hb⟩
    rw [List.take_succ_eq_append_getElem hm, putL_at h3 hb]
  · cases h
theorem PutOk.pass {x : Wr} {l : List Wr} {m : Nat} {o : List Wr} (h : PutOk x l m false o) (hm : m < l.length) (hb : beforeW x l[m] = false) : PutOk x l (m + 1) false (o ++ [l[m]]) := by
  rcases h with ⟨_, rfl, h3⟩ | ⟨h, _⟩
  · refine .inl ⟨rfl, by rw [List.take_succ_eq_append_getElem hm], fun y hy => ?_⟩
    rw [List.take_succ_eq_append_getElem hm] at hy
    rcases List.mem_append.1 hy with hy | hy
    · exact h3 y hy
    · simp at hy; subst hy; exact hb
  · cases h
theorem PutOk.endT {x : Wr} {l o : List Wr} (h : PutOk x l l.length true o) : o = putL x l := by
  rcases h with ⟨h, _⟩ | ⟨_, rfl, _⟩
  · cases h
  · rw [List.take_length]
theorem PutOk.endF {x : Wr} {l o : List Wr} (h : PutOk x l l.length false o) : o ++ [x] = putL x l := by
  rcases h with ⟨_, rfl, h3⟩ | ⟨h, _⟩
  · rw [List.take_length] at h3 ⊢
    exact (putL_none h3).symm
  · cases h
theorem PutOk.len {x : Wr} {l o : List Wr} {m : Nat} {d : Bool} (h : PutOk x l m d o) : o.length ≤ m + 1 := by
  rcases h with ⟨_, rfl, _⟩ | ⟨_, rfl, _⟩
  · rw [List.length_take]; omega
  · rw [putL_len, List.length_take]; omega
/-- Written notes that are handed back. -/
def RetW (l : List Wr) (w : World) (e : Ending) (w' : World) : Prop := ∃ a cap, e = .returned (.slice a l.length cap) ∧ OwnR w' w.heap.size 68 10 (.slice a l.length cap) (l.map Wr.cells) ∧ Below w.heap.size w w'
set_option maxRecDepth 100000 in
set_option maxHeartbeats 8000000 in
theorem RPut_any (a : Option Addr) (cap : Nat) (l : List Wr) (x : Wr) (w : World) (hl : l.length ≤ 100000) (hv : ∀ y ∈ l, vldP y.pitch = true) (hx : vldP x.pitch = true) (hm : WrAt w a l) :
    Calls Tryz.prog 111 #[.slice a l.length cap, .agg #[.int .i64 x.id, .int .i64 x.voice, .int .i64 x.ossia, .int .i64 x.start.n, .int .i64 x.start.d, .int .i64 x.len.n, .int .i64 x.len.d, .int .i64 x.pitch.s, .int .i64 x.pitch.a, .int .i64 x.pitch.o]] w (RetW (putL x l) w) := by
  have HX := Lib.hid (heap_alloc_new w (.cells #[.int .i64 x.id, .int .i64 x.voice, .int .i64 x.ossia, .int .i64 x.start.n, .int .i64 x.start.d, .int .i64 x.len.n, .int .i64 x.len.d, .int .i64 x.pitch.s, .int .i64 x.pitch.a, .int .i64 x.pitch.o] 68))
  have HB0 := Lib.hid ((Below.refl w.heap.size w).alloc (Nat.le_refl _) (.cells #[.int .i64 x.id, .int .i64 x.voice, .int .i64 x.ossia, .int .i64 x.start.n, .int .i64 x.start.d, .int .i64 x.len.n, .int .i64 x.len.d, .int .i64 x.pitch.s, .int .i64 x.pitch.a, .int .i64 x.pitch.o] 68))
  have HL := Lib.hid (fun W (hb : Below w.heap.size w W) => show WrAt W a l from SlAt.below hm hb)
  have HV := Lib.hid hv
  have HBf := fun (y : Wr) (hy : vldP y.pitch = true) W => R14Before_any x y W hx hy
  have HBF := Lib.hid HBf
  clear hm hv HBf
  go_enter Tryz.func111, Tryz.ntmps111
  go_upto_region 1 with (fail)
  generalize w.alloc (.cells #[.int .i64 x.id, .int .i64 x.voice, .int .i64 x.ossia, .int .i64 x.start.n, .int .i64 x.start.d, .int .i64 x.len.n, .int .i64 x.len.d, .int .i64 x.pitch.s, .int .i64 x.pitch.a, .int .i64 x.pitch.o] 68) = W0 at *
  have HZ0 := Lib.hid (lt_blk HX.out)
  go_wp2
  go_loopw [5, 6, 7] (fun s5 s6 s7 wi => ∃ (m : Nat) (d : Bool) (o : List Wr), m ≤ l.length ∧ s7 = .int .i64 m ∧ s6 = .bool d ∧ Hid (PutOk x l m d o) ∧ OwnR wi W0.heap.size 68 10 s5 (o.map Wr.cells) ∧ Below W0.heap.size W0 wi) (fun _ _ s7 _ => l.length - (intOf s7).toNat)
  case atStart => exact ⟨0, false, [], Nat.zero_le _, rfl, rfl, Lib.hid (.inl ⟨rfl, by simp, by simp⟩), OwnR.nil _ _ _ _, Below.refl _ _⟩
  case round =>
    obtain ⟨m, d, o, hm, rfl, rfl, hpo, ho, hb⟩ := hrel
    have HO := Lib.hid ho; have HB := Lib.hid hb
    clear ho hb
    have holen := hpo.out.len
    by_cases hlt : m < l.length
    · obtain ⟨b, off, hqa, _, c0, c1, c2, c3, c4, c5, c6, c7, c8, c9⟩ := (HL.out w (Below.refl _ _)).get m hlt
      subst hqa
      have hml : (m : Int) < (l.length : Int) := by omega
      have hvy := HV.out _ (List.getElem_mem hlt)
      have HDn := Lib.hid (fun (h : PutOk x l m true o) => h.done hlt); have HPs := Lib.hid (fun (h : PutOk x l m false o) hb => h.puts hlt hb); have HPa := Lib.hid (fun (h : PutOk x l m false o) hb => h.pass hlt hb)
      generalize l[m] = y at *
      have HBy := Lib.hid (HBF.out y hvy)
      generalize hbb : beforeW x y = bf at *
      have HC := Lib.hid (fun W (hb : Below w.heap.size w W) => show W.cell? ⟨b, off + m * 10, none⟩ = some (.int .i64 y.id) ∧ W.cell? ⟨b, off + m * 10 + 1, none⟩ = some (.int .i64 y.voice) ∧ W.cell? ⟨b, off + m * 10 + 2, none⟩ = some (.int .i64 y.ossia) ∧ W.cell? ⟨b, off + m * 10 + 3, none⟩ = some (.int .i64 y.start.n) ∧ W.cell? ⟨b, off + m * 10 + 4, none⟩ = some (.int .i64 y.start.d) ∧ W.cell? ⟨b, off + m * 10 + 5, none⟩ = some (.int .i64 y.len.n) ∧ W.cell? ⟨b, off + m * 10 + 6, none⟩ = some (.int .i64 y.len.d) ∧ W.cell? ⟨b, off + m * 10 + 7, none⟩ = some (.int .i64 y.pitch.s) ∧ W.cell? ⟨b, off + m * 10 + 8, none⟩ = some (.int .i64 y.pitch.a) ∧ W.cell? ⟨b, off + m * 10 + 9, none⟩ = some (.int .i64 y.pitch.o) from ⟨keepE c0 hb, keepE c1 hb, keepE c2 hb, keepE c3 hb, keepE c4 hb, keepE c5 hb, keepE c6 hb, keepE c7 hb, keepE c8 hb, keepE c9 hb⟩)
      clear c0 c1 c2 c3 c4 c5 c6 c7 c8 c9
      obtain ⟨c0, c1, c2, c3, c4, c5, c6, c7, c8, c9⟩ := HC.out wr (HB0.out.trans (HB.out.mono HB0.out.size))
      have hcx := box_cells (blk_keep HX.out HB.out)
      have g0 := cell_regrown (hcx 0); have g1 := cell_regrown (hcx 1); have g2 := cell_regrown (hcx 2); have g3 := cell_regrown (hcx 3); have g4 := cell_regrown (hcx 4); have g5 := cell_regrown (hcx 5); have g6 := cell_regrown (hcx 6); have g7 := cell_regrown (hcx 7); have g8 := cell_regrown (hcx 8); have g9 := cell_regrown (hcx 9); have j0 := cell_regrown c0; have j1 := cell_regrown c1; have j2 := cell_regrown c2; have j3 := cell_regrown c3; have j4 := cell_regrown c4; have j5 := cell_regrown c5; have j6 := cell_regrown c6; have j7 := cell_regrown c7; have j8 := cell_regrown c8; have j9 := cell_regrown c9
      go_upto_region 6 with (fail)
      refine wp_quietB (by kernel_rfl) (by kernel_rfl) ?_
      (repeat (go_big_quiet_step ((go_at_call 71; refine Calls.regrown_of (HBy.out _)))))
      refine wpQuiet_nil ?_
      intro w5 hb
      replace HO := Lib.hid (HO.out.below hb); replace HB := Lib.hid (HB.out.trans (hb.mono HB.out.size))
      replace c0 := keepE c0 hb; replace c1 := keepE c1 hb; replace c2 := keepE c2 hb; replace c3 := keepE c3 hb; replace c4 := keepE c4 hb; replace c5 := keepE c5 hb; replace c6 := keepE c6 hb; replace c7 := keepE c7 hb; replace c8 := keepE c8 hb; replace c9 := keepE c9 hb
      clear hb g0 g1 g2 g3 g4 g5 g6 g7 g8 g9 j0 j1 j2 j3 j4 j5 j6 j7 j8 j9 hcx
      have hcx := box_cells (blk_keep HX.out HB.out)
      cases d
      · cases bf
        · have HP2 := Lib.hid (HPa.out hpo.out (by first | rfl | assumption))
          clear hbb
          go_wp2_with (at_builtin; go_must (refine appE eltWr rfl (.tmp 30) (.tmp 35) rfl W0.heap.size _ o rfl (HO.out.below (below_box _)) _ _ _ [y] rfl rfl (fun e => by cases e) (eltWr.new _ _ _ _ rfl) (by simp; omega) (by have := HB.out.size; simp; omega) ?_); intro v5 w6 ho5 hg5)
          have HB3 := Lib.hid (below_grown (HB.out.alloc HB.out.size _) (HO.out.below (below_box _)) (by have := HB.out.size; simp; omega) hg5)
          exact ⟨⟨m + 1, false, o ++ [y], by omega, by go_num, rfl, HP2, ho5, HB3.out⟩, by simp [intOf]; omega⟩
        · have HP2 := Lib.hid (HPs.out hpo.out (by first | rfl | assumption))
          clear hbb
          go_upto_region 10 with (at_builtin; go_must (refine appE eltWr rfl (.tmp 26) (.tmp 28) rfl W0.heap.size _ o rfl (HO.out.below (below_box _)) _ _ _ [x] rfl rfl (fun e => by cases e) (eltWr.new _ _ _ _ rfl) (by simp; omega) (by have := HB.out.size; simp; omega) ?_); intro v4 w4 ho4 hg4)
          have HB4 := Lib.hid (below_grown (HB.out.alloc HB.out.size _) (HO.out.below (below_box _)) (by have := HB.out.size; simp; omega) hg4)
          have HO4 := Lib.hid ho4
          clear c0 c1 c2 c3 c4 c5 c6 c7 c8 c9 hcx hg4 ho4
          obtain ⟨c0, c1, c2, c3, c4, c5, c6, c7, c8, c9⟩ := HC.out w4 (HB0.out.trans (HB4.out.mono HB0.out.size))
          go_wp2_with (at_builtin; go_must (refine appE eltWr rfl (.tmp 30) (.tmp 35) rfl W0.heap.size _ (o ++ [x]) rfl (HO4.out.below (below_box _)) _ _ _ [y] rfl rfl (fun e => by cases e) (eltWr.new _ _ _ _ rfl) (by simp; omega) (by have := HB4.out.size; simp; omega) ?_); intro v5 w6 ho5 hg5)
          have HB3 := Lib.hid (below_grown (HB4.out.alloc HB4.out.size _) (HO4.out.below (below_box _)) (by have := HB4.out.size; simp; omega) hg5)
          exact ⟨⟨m + 1, true, o ++ [x] ++ [y], by omega, by go_num, rfl, HP2, ho5, HB3.out⟩, by simp [intOf]; omega⟩
      · have HP2 := Lib.hid (HDn.out hpo.out)
        clear hbb
        go_wp2_with (at_builtin; go_must (refine appE eltWr rfl (.tmp 30) (.tmp 35) rfl W0.heap.size _ o rfl (HO.out.below (below_box _)) _ _ _ [y] rfl rfl (fun e => by cases e) (eltWr.new _ _ _ _ rfl) (by simp; omega) (by have := HB.out.size; simp; omega) ?_); intro v5 w6 ho5 hg5)
        have HB3 := Lib.hid (below_grown (HB.out.alloc HB.out.size _) (HO.out.below (below_box _)) (by have := HB.out.size; simp; omega) hg5)
        exact ⟨⟨m + 1, true, o ++ [y], by omega, by go_num, rfl, HP2, ho5, HB3.out⟩, by simp [intOf]; omega⟩
    · obtain rfl : m = l.length := by omega
      cases d
      · have HE := Lib.hid hpo.out.endF
        have hcx := box_cells (blk_keep HX.out HB.out)
        go_wp2_with (at_builtin; go_must (refine appE eltWr rfl (.tmp 39) (.tmp 41) rfl W0.heap.size _ o rfl (HO.out.below (below_box _)) _ _ _ [x] rfl rfl (fun e => by cases e) (eltWr.new _ _ _ _ rfl) (by simp; omega) (by have := HB.out.size; simp; omega) ?_); intro v5 w6 ho5 hg5)
        have HB3 := Lib.hid (below_grown (HB.out.alloc HB.out.size _) (HO.out.below (below_box _)) (by have := HB.out.size; simp; omega) hg5)
        go_ret
        rw [HE.out] at ho5
        obtain ⟨a9, c9, e9, hk9, hs9⟩ := ho5.slAt
        rw [List.length_map] at e9 hk9
        exact ⟨a9, c9, by rw [e9]; rfl, by rw [e9] at ho5; exact ho5.mono HB0.out.size, HB0.out.trans (HB3.out.mono HB0.out.size)⟩
      · have HE := Lib.hid hpo.out.endT
        go_wp2
        go_ret
        have ho5 := HO.out
        rw [HE.out] at ho5
        obtain ⟨a9, c9, e9, hk9, hs9⟩ := ho5.slAt
        rw [List.length_map] at e9 hk9
        exact ⟨a9, c9, by rw [e9]; rfl, by rw [e9] at ho5; exact ho5.mono HB0.out.size, HB0.out.trans (HB.out.mono HB0.out.size)⟩
end Go.Proofs.YtppjbnnnppffaaaGreatDoor


/- The reference of layer 17: cue: walked. -/
namespace Go.Proofs.YtppjbnnnppffaaaGreatDoor
set_option linter.unusedSimpArgs false
set_option linter.unusedVariables false
open Go.RowKit Go.Sort Go.Shelf

/-- A cue that is handed back, or none. -/
def RetCue (o : Option CuP) (w : World) (e : Ending) (w' : World) : Prop :=
  (o = none ∧ e = .returned (.tuple #[.agg #[.int .i64 0, .int .i64 0, .slice none 0 0], .bool false]) ∧ Below w.heap.size w w') ∨
  ∃ c : Cu, o = some c.says ∧ e = .returned (.tuple #[.agg #[.int .i64 c.measure, .int .i64 c.part, .slice c.na c.notes.length c.ncap], .bool true]) ∧ OwnR w' w.heap.size 68 10 (.slice c.na c.notes.length c.ncap) (c.notes.map Wr.cells) ∧ Below w.heap.size w w'
theorem own_ne {w : World} {B : Nat} {E : TypeId} {sz : Nat} {v : Value} {rows : List (List Value)} (o : OwnR w B E sz v rows) {i c : Nat} (hi : v.ownBlock = some i) {cs : Array Value} {T : TypeId} {fr : Nat × Nat} (hc : w.heap[c]? = some (.cells cs T fr)) (hne : T ≠ E) : i ≠ c := fun e => by
  obtain ⟨cur, h1⟩ := o.isCells hi
  rw [e, hc] at h1
  simp only [Option.some.injEq, Obj.cells.injEq] at h1
  exact hne h1.2.1
theorem set3c {w : World} {c : Nat} {a0 a1 a2 v0 v1 v2 : Value} {T : TypeId} (h : w.heap[c]? = some (.cells #[a0, a1, a2] T (0, 0))) : (((w.setCell ⟨c, 0, none⟩ v0).setCell ⟨c, 1, none⟩ v1).setCell ⟨c, 2, none⟩ v2).heap[c]? = some (.cells #[v0, v1, v2] T (0, 0)) :=
  heap_setCell_same _ _ _ _ _ _ (heap_setCell_same _ _ _ _ _ _ (heap_setCell_same _ _ _ _ _ _ h))
set_option maxRecDepth 100000 in
set_option maxHeartbeats 8000000 in
theorem RCue_any (s : Sc) (q : Sp) (rd : Pa) (k : Nat) (w : World) (hf : ScFew s) (hvs : validS s = true) (hr : rd ∈ s.parts) (hs : ScAt w s q) (hk : k < s.bars.length) :
    Calls Tryz.prog 53 #[.agg #[.int .i64 s.version, .slice q.ab s.bars.length q.cb, .slice q.ap s.parts.length q.cp, .slice q.an s.notes.length q.cn], .agg #[.int .i64 rd.id, .int .i64 rd.section_, .int .i64 rd.of, .int .i64 rd.octave, .int .i64 rd.desks, .int .i64 rd.shift.x, .int .i64 rd.shift.y, .int .i64 rd.low.s, .int .i64 rd.low.a, .int .i64 rd.low.o, .int .i64 rd.high.s, .int .i64 rd.high.a, .int .i64 rd.high.o], .int .i64 k] w (RetCue (cueO s rd k) w) := by
  obtain ⟨ab, cb, ap, cp, an, cn⟩ := q
  obtain ⟨x1, x2, x3, hb⟩ := box3 (w := w) (A := .cells #[.int .i64 s.version, .slice (⟨ab, cb, ap, cp, an, cn⟩ : Sp).ab s.bars.length (⟨ab, cb, ap, cp, an, cn⟩ : Sp).cb, .slice (⟨ab, cb, ap, cp, an, cn⟩ : Sp).ap s.parts.length (⟨ab, cb, ap, cp, an, cn⟩ : Sp).cp, .slice (⟨ab, cb, ap, cp, an, cn⟩ : Sp).an s.notes.length (⟨ab, cb, ap, cp, an, cn⟩ : Sp).cn] 26) (B := .cells #[.int .i64 rd.id, .int .i64 rd.section_, .int .i64 rd.of, .int .i64 rd.octave, .int .i64 rd.desks, .int .i64 rd.shift.x, .int .i64 rd.shift.y, .int .i64 rd.low.s, .int .i64 rd.low.a, .int .i64 rd.low.o, .int .i64 rd.high.s, .int .i64 rd.high.a, .int .i64 rd.high.o] 59) (C := .cells #[.int .i64 0, .int .i64 0, .slice none 0 0] 29) (Below.refl _ _)
  have HX1 := Lib.hid x1; have HX2 := Lib.hid x2; have HX3 := Lib.hid x3; have HB := Lib.hid hb; clear x1 x2 x3 hb
  have v := scV hvs
  have HMo := Lib.hid (fun W (hb : Below w.heap.size w W) => RMost_any s (⟨ab, cb, ap, cp, an, cn⟩ : Sp) k W hf (fun p hp => oct_ok hvs hp) (hs.below hb) hk)
  have HNt := Lib.hid (fun (p : Pa) (hp : p ∈ s.parts) W (hb : Below w.heap.size w W) => RNotes17_any s (⟨ab, cb, ap, cp, an, cn⟩ : Sp) p k W hf (oct_ok hvs hp) (hs.below hb) hk)
  have HNone := Lib.hid (fun h => cueO_none (s := s) (reader := rd) hk h)
  have HSome := Lib.hid (fun (b : Nat) (hb : b < s.parts.length) h => cueO_some' v (reader := rd) hk hb h)
  have HVal := Lib.hid (fun (p : Pa) (hp : p ∈ s.parts) => wsL_valid v hr hp (List.getElem_mem hk))
  have HPa := Lib.hid (fun W (hb : Below w.heap.size w W) => hs.parts.below hb)
  have HBa := Lib.hid (fun W (hb : Below w.heap.size w W) => hs.bars.below hb)
  have hcl := fun p => Nat.le_trans (cntB_le s s.bars[k] p) hf.notes
  have HCl := Lib.hid hcl
  have hnp := hf.parts; have hnb := hf.bars
  clear hf hvs hr hs v hcl
  dsimp only at *
  generalize cueO s rd k = CO at *
  go_enter Tryz.func53, Tryz.ntmps53
  go_upto_region 1 with (fail)
  generalize ((w.alloc (.cells #[.int .i64 s.version, .slice (⟨ab, cb, ap, cp, an, cn⟩ : Sp).ab s.bars.length (⟨ab, cb, ap, cp, an, cn⟩ : Sp).cb, .slice (⟨ab, cb, ap, cp, an, cn⟩ : Sp).ap s.parts.length (⟨ab, cb, ap, cp, an, cn⟩ : Sp).cp, .slice (⟨ab, cb, ap, cp, an, cn⟩ : Sp).an s.notes.length (⟨ab, cb, ap, cp, an, cn⟩ : Sp).cn] 26)).alloc (.cells #[.int .i64 rd.id, .int .i64 rd.section_, .int .i64 rd.of, .int .i64 rd.octave, .int .i64 rd.desks, .int .i64 rd.shift.x, .int .i64 rd.shift.y, .int .i64 rd.low.s, .int .i64 rd.low.a, .int .i64 rd.low.o, .int .i64 rd.high.s, .int .i64 rd.high.a, .int .i64 rd.high.o] 59)).alloc (.cells #[.int .i64 0, .int .i64 0, .slice none 0 0] 29) = W0 at *
  have hc1 := box_cells HX1.out; have hc2 := box_cells HX2.out; have hc3 := box_cells HX3.out; have hf3 := box_free HX3.out; have hz3 := lt_blk HX3.out
  go_upto_region 2 with (go_at_call 109; refine (HMo.out _ HB.out).mono ?_; rintro e w4 ⟨r, rfl, hmo, hb⟩; have HMk := Lib.hid hmo; clear hmo; (try replace hb := drewB hb); replace HB := Lib.hid (HB.out.trans (hb.mono HB.out.size)); (try (replace HX1 := Lib.hid (blk_keep HX1.out hb); replace hc1 := box_cells HX1.out; replace hf1 := box_free HX1.out; replace hz1 := lt_blk HX1.out)); (try (replace HX2 := Lib.hid (blk_keep HX2.out hb); replace hc2 := box_cells HX2.out; replace hf2 := box_free HX2.out; replace hz2 := lt_blk HX2.out)); (try (replace HX3 := Lib.hid (blk_keep HX3.out hb); replace hc3 := box_cells HX3.out; replace hf3 := box_free HX3.out; replace hz3 := lt_blk HX3.out)); (try (replace HX7 := Lib.hid (blk_keep HX7.out hb); replace hc7 := box_cells HX7.out; replace hf7 := box_free HX7.out; replace hz7 := lt_blk HX7.out)); (try (replace HX9 := Lib.hid (blk_keep HX9.out hb); replace hc9 := box_cells HX9.out; replace hf9 := box_free HX9.out; replace hz9 := lt_blk HX9.out)); (try (replace HX10 := Lib.hid (blk_keep HX10.out hb); replace hc10 := box_cells HX10.out; replace hf10 := box_free HX10.out; replace hz10 := lt_blk HX10.out)); clear hb)
  by_cases hr : r < 0
  · obtain rfl := HMk.out.neg hr
    have HN0 := Lib.hid (HNone.out HMk.out)
    clear hr
    go_wp2
    exact bodyPost_ret (v := .tuple #[.agg #[.int .i64 0, .int .i64 0, .slice none 0 0], .bool false]) (by simp [results, Tryz.results53, go_sem, hc3, hf3]) rfl (.inl ⟨HN0.out, rfl, ((HB.out.setCell (by simp <;> omega) _).setCell (by simp <;> omega) _).setCell (by simp <;> omega) _⟩)
  obtain ⟨bst, hbst, rfl⟩ := HMk.out.pos hr
  have HCo := Lib.hid (HSome.out bst hbst HMk.out)
  obtain ⟨b, off, hqa, _, e0, e1, e2, e3, e4, e5, e6, e7, e8, e9, e10, e11, e12⟩ := (HPa.out _ HB.out).get bst hbst
  subst hqa
  have hbl : (bst : Int) < (s.parts.length : Int) := by omega
  have HNb := Lib.hid (HNt.out _ (List.getElem_mem hbst)); have HVx := Lib.hid (HVal.out _ (List.getElem_mem hbst))
  have hcx := HCl.out s.parts[bst]
  generalize s.parts[bst] = x at *
  clear HMk HNone HSome HVal HNt HMo hr
  go_upto_region 5 with (fail)
  have hcx0 : w.heap.size + 2 < w4.heap.size := lt_blk HX3.out
  have HXc := Lib.hid (heap_alloc_new w4 (.cells #[.int .i64 k, .int .i64 x.id, .slice none 0 0] 29))
  have hb := (Below.refl w4.heap.size w4).alloc (Nat.le_refl _) (.cells #[.int .i64 k, .int .i64 x.id, .slice none 0 0] 29)
  replace e0 := keepE e0 hb; replace e1 := keepE e1 hb; replace e2 := keepE e2 hb; replace e3 := keepE e3 hb; replace e4 := keepE e4 hb; replace e5 := keepE e5 hb; replace e6 := keepE e6 hb; replace e7 := keepE e7 hb; replace e8 := keepE e8 hb; replace e9 := keepE e9 hb; replace e10 := keepE e10 hb; replace e11 := keepE e11 hb; replace e12 := keepE e12 hb
  replace HX1 := Lib.hid (blk_keep HX1.out hb); replace HX2 := Lib.hid (blk_keep HX2.out hb); replace HX3 := Lib.hid (blk_keep HX3.out hb); replace HB := Lib.hid (HB.out.trans (hb.mono HB.out.size))
  clear hb hc1 hc2 hc3 hf1 hf2 hf3 hz1 hz2 hz3
  generalize w4.alloc (.cells #[.int .i64 k, .int .i64 x.id, .slice none 0 0] 29) = W4 at *
  obtain ⟨cx, hcxe⟩ : ∃ cx, cx = w4.heap.size := ⟨_, rfl⟩
  rw [← hcxe] at HXc ⊢
  rw [← hcxe] at hcx0
  have HCX := Lib.hid hcx0
  clear hcxe hcx0
  have hc1 := box_cells HX1.out
  have KS := Lib.hid (fun W (hb : RowKit.Below W4.heap.size W4 W) => show W.cell? ⟨w.heap.size, 0, none⟩ = some (.int .i64 s.version) ∧ W.cell? ⟨w.heap.size, 1, none⟩ = some (.slice ab s.bars.length cb) ∧ W.cell? ⟨w.heap.size, 2, none⟩ = some (.slice (some ⟨b, off, none⟩) s.parts.length cp) ∧ W.cell? ⟨w.heap.size, 3, none⟩ = some (.slice an s.notes.length cn) ∧ W.cell? ⟨b, off + bst * 13, none⟩ = some (.int .i64 x.id) ∧ W.cell? ⟨b, off + bst * 13 + 1, none⟩ = some (.int .i64 x.section_) ∧ W.cell? ⟨b, off + bst * 13 + 2, none⟩ = some (.int .i64 x.of) ∧ W.cell? ⟨b, off + bst * 13 + 3, none⟩ = some (.int .i64 x.octave) ∧ W.cell? ⟨b, off + bst * 13 + 4, none⟩ = some (.int .i64 x.desks) ∧ W.cell? ⟨b, off + bst * 13 + 5, none⟩ = some (.int .i64 x.shift.x) ∧ W.cell? ⟨b, off + bst * 13 + 6, none⟩ = some (.int .i64 x.shift.y) ∧ W.cell? ⟨b, off + bst * 13 + 7, none⟩ = some (.int .i64 x.low.s) ∧ W.cell? ⟨b, off + bst * 13 + 8, none⟩ = some (.int .i64 x.low.a) ∧ W.cell? ⟨b, off + bst * 13 + 9, none⟩ = some (.int .i64 x.low.o) ∧ W.cell? ⟨b, off + bst * 13 + 10, none⟩ = some (.int .i64 x.high.s) ∧ W.cell? ⟨b, off + bst * 13 + 11, none⟩ = some (.int .i64 x.high.a) ∧ W.cell? ⟨b, off + bst * 13 + 12, none⟩ = some (.int .i64 x.high.o) from ⟨keepE (hc1 0) hb, keepE (hc1 1) hb, keepE (hc1 2) hb, keepE (hc1 3) hb, keepE e0 hb, keepE e1 hb, keepE e2 hb, keepE e3 hb, keepE e4 hb, keepE e5 hb, keepE e6 hb, keepE e7 hb, keepE e8 hb, keepE e9 hb, keepE e10 hb, keepE e11 hb, keepE e12 hb⟩)
  clear e0 e1 e2 e3 e4 e5 e6 e7 e8 e9 e10 e11 e12 hc1
  go_region_held3 (fun W => W.cell? ⟨w.heap.size, 0, none⟩ = some (.int .i64 s.version) ∧ W.cell? ⟨w.heap.size, 1, none⟩ = some (.slice ab s.bars.length cb) ∧ W.cell? ⟨w.heap.size, 2, none⟩ = some (.slice (some ⟨b, off, none⟩) s.parts.length cp) ∧ W.cell? ⟨w.heap.size, 3, none⟩ = some (.slice an s.notes.length cn) ∧ W.cell? ⟨b, off + bst * 13, none⟩ = some (.int .i64 x.id) ∧ W.cell? ⟨b, off + bst * 13 + 1, none⟩ = some (.int .i64 x.section_) ∧ W.cell? ⟨b, off + bst * 13 + 2, none⟩ = some (.int .i64 x.of) ∧ W.cell? ⟨b, off + bst * 13 + 3, none⟩ = some (.int .i64 x.octave) ∧ W.cell? ⟨b, off + bst * 13 + 4, none⟩ = some (.int .i64 x.desks) ∧ W.cell? ⟨b, off + bst * 13 + 5, none⟩ = some (.int .i64 x.shift.x) ∧ W.cell? ⟨b, off + bst * 13 + 6, none⟩ = some (.int .i64 x.shift.y) ∧ W.cell? ⟨b, off + bst * 13 + 7, none⟩ = some (.int .i64 x.low.s) ∧ W.cell? ⟨b, off + bst * 13 + 8, none⟩ = some (.int .i64 x.low.a) ∧ W.cell? ⟨b, off + bst * 13 + 9, none⟩ = some (.int .i64 x.low.o) ∧ W.cell? ⟨b, off + bst * 13 + 10, none⟩ = some (.int .i64 x.high.s) ∧ W.cell? ⟨b, off + bst * 13 + 11, none⟩ = some (.int .i64 x.high.a) ∧ W.cell? ⟨b, off + bst * 13 + 12, none⟩ = some (.int .i64 x.high.o))
    (first | (refine KS.out _ ?_; (repeat (first | with_reducible exact RowKit.Below.refl _ _ | with_reducible refine RowKit.Below.drew ?_ | with_reducible refine RowKit.Below.alloc ?_ (by first | omega | (simp; done) | (simp; omega)) _)); done) | (refine KS.out _ hb5; done))
    ((go_at_call 108; refine (HNb.out _ (by first | with_reducible exact HB.out | exact HB.out.drew)).mono ?_; rintro e w5 ⟨aL, cL, rfl, _, hnL, hb5⟩; replace hb5 := drewB hb5))
  have hb5' : Below W4.heap.size W4 w5 := hb5
  replace HX1 := Lib.hid (blk_keep HX1.out hb5'); replace HX2 := Lib.hid (blk_keep HX2.out hb5'); replace HX3 := Lib.hid (blk_keep HX3.out hb5'); replace HXc := Lib.hid (blk_keep HXc.out hb5'); replace HB := Lib.hid (HB.out.trans (hb5'.mono HB.out.size))
  clear hb5 hb5' KS HNb
  have hcL : (playsB s x s.bars[k]).length ≤ 1000 := hcx
  have hkl : (k : Int) < (s.bars.length : Int) := by omega
  obtain ⟨WS, hWS⟩ : ∃ WS, WS = wsL s rd x s.bars[k] := ⟨_, rfl⟩
  rw [← hWS] at HCo HVx
  have HWS := Lib.hid (show WS = (playsB s x s.bars[k]).map (writtenW rd s.bars[k]) from hWS)
  have hWl : WS.length = (playsB s x s.bars[k]).length := by rw [hWS]; unfold wsL; rw [List.length_map]
  have HWl := Lib.hid hWl
  clear hWS hcx hWl
  generalize playsB s x s.bars[k] = L at *
  have HBar := Lib.hid (fun wi (hk : KeepB w5.heap.size [cx] w5 wi) => show BaAt wi ab s.bars from SlAt.keptB (HBa.out _ HB.out) hk (Nat.le_refl _) (fun ad e h0 => by
    have h1 := HBa.out _ HB.out
    rw [e] at h1
    have := SlAt.small (b := ad.block) (off := ad.off) (c := cx) (by
      obtain ⟨r, rs, er⟩ := List.exists_cons_of_ne_nil h0
      obtain ⟨b0, o0, e0, _⟩ := h1 0 r (by rw [er]; rfl)
      cases e0; exact h1) h0 HXc.out (by simp)
    simpa using this))
  have HLr := Lib.hid (fun wi (hk : KeepB w5.heap.size [cx] w5 wi) => show NoAt wi aL L from SlAt.keptB hnL hk (Nat.le_refl _) (fun ad e h0 => by
    have h1 := hnL
    rw [e] at h1
    have := SlAt.small (b := ad.block) (off := ad.off) (c := cx) (by
      obtain ⟨r, rs, er⟩ := List.exists_cons_of_ne_nil h0
      obtain ⟨b0, o0, e0, _⟩ := h1 0 r (by rw [er]; rfl)
      cases e0; exact h1) h0 HXc.out (by simp)
    simpa using this))
  clear hnL HBa HPa
  have HLt := Lib.hid (show w.heap.size + 2 < w5.heap.size ∧ cx < w5.heap.size from ⟨lt_blk HX3.out, lt_blk HXc.out⟩)
  go_wp2
  go_loopw [11] (fun s11 wi => ∃ (j : Nat) (a : Option Addr) (cap : Nat), j ≤ L.length ∧ s11 = .int .i64 j ∧ wi.heap[cx]? = some (.cells #[.int .i64 k, .int .i64 x.id, .slice a j cap] 29) ∧ OwnR wi w.heap.size 68 10 (.slice a j cap) ((putsL WS j).map Wr.cells) ∧ KeepB w5.heap.size [cx] w5 wi) (fun s11 _ => L.length - (intOf s11).toNat)
  case atStart => exact ⟨0, none, 0, Nat.zero_le _, rfl, HXc.out, OwnR.nil _ _ _ _, KeepB.refl _ _ _⟩
  case round =>
    obtain ⟨j, va, vc, hj, rfl, hxc, hwv, hkb⟩ := hrel
    have HXv := Lib.hid hxc; have HWv := Lib.hid hwv; have HK := Lib.hid hkb
    clear hxc hwv hkb
    obtain ⟨hl1, hl2⟩ := HLt.out
    have hcxl := HCX.out
    have HY1 := Lib.hid (HK.out.at_ HX1.out (by omega) (by simp; omega)); have HY2 := Lib.hid (HK.out.at_ HX2.out (by omega) (by simp; omega)); have HY3 := Lib.hid (HK.out.at_ HX3.out (by omega) (by simp; omega))
    have hKs := HK.out.size
    by_cases hlt : j < L.length
    · obtain ⟨lb, loff, hqa, _, n0, n1, n2, n3, n4, n5, n6, n7, n8, n9, n10, n11⟩ := (HLr.out _ HK.out).get j hlt
      obtain ⟨bb, boff, hqb, _, _, _, _, d3⟩ := (HBar.out _ HK.out).get k hk
      subst hqa; subst hqb
      have hjl : (j : Int) < (L.length : Int) := by omega
      have hlbn : lb ≠ cx := SlAt.small (off := loff) (HLr.out _ HK.out) (fun e => by have := congrArg List.length e; rw [List.length_map, List.length_nil] at this; omega) HXv.out (by simp)
      have hcxw : cx < wr.heap.size := lt_blk HXv.out
      have hjw : j < WS.length := by have := HWl.out; omega
      have HPs := Lib.hid (putsL_succ hjw); have HPl := Lib.hid (putsL_len WS j (by omega)); have HPl2 := Lib.hid (putsL_len WS (j + 1) (by omega))
      have hwj : WS[j] = writtenW rd s.bars[k] L[j] := by simp only [HWS.out, List.getElem_map]
      have HVj := Lib.hid (And.intro (HVx.out _ (List.getElem_mem hjw)) (fun y (hy : y ∈ putsL WS j) => HVx.out y (putsL_mem (by omega) hy)))
      have HWr := Lib.hid (fun W => R13Write_any rd s.bars[k].key L[j].pitch W)
      obtain ⟨pw, hpw⟩ : ∃ pw, pw = (writeR rd s.bars[k].key L[j].pitch).1 := ⟨_, rfl⟩
      have HWj := Lib.hid (show WS[j] = ⟨L[j].id, L[j].voice, L[j].ossia, L[j].start, L[j].len, pw⟩ by rw [hwj, hpw]; rfl)
      rw [← hpw] at HWr
      clear hwj hpw
      generalize (writeR rd s.bars[k].key L[j].pitch).2 = er at *
      generalize WS[j] = wj at *
      generalize hbk : s.bars[k] = bar at *
      generalize L[j] = n at *
      go_upto_region 9 with (fail)
      go_cut [12, 13] from 36 to 88 (fun s12 s13 W => ∃ pb, s12 = .pointer (some ⟨pb, 0, none⟩) ∧ s13 = .int .i64 er ∧ wr.heap.size ≤ pb ∧ W.heap[pb]? = some (.cells #[.int .i64 pw.s, .int .i64 pw.a, .int .i64 pw.o] 57) ∧ Below wr.heap.size wr W)
      case first =>
        have hc2 := box_cells HY2.out
        have s1 : wr.cell? ⟨w.heap.size, 1, none⟩ = some (.slice (some ⟨bb, boff, none⟩) s.bars.length cb) := box_cells HY1.out 1
        have KS := Lib.hid (fun W (hb : RowKit.Below wr.heap.size wr W) => show W.cell? ⟨w.heap.size + 1, 0, none⟩ = some (.int .i64 rd.id) ∧ W.cell? ⟨w.heap.size + 1, 1, none⟩ = some (.int .i64 rd.section_) ∧ W.cell? ⟨w.heap.size + 1, 2, none⟩ = some (.int .i64 rd.of) ∧ W.cell? ⟨w.heap.size + 1, 3, none⟩ = some (.int .i64 rd.octave) ∧ W.cell? ⟨w.heap.size + 1, 4, none⟩ = some (.int .i64 rd.desks) ∧ W.cell? ⟨w.heap.size + 1, 5, none⟩ = some (.int .i64 rd.shift.x) ∧ W.cell? ⟨w.heap.size + 1, 6, none⟩ = some (.int .i64 rd.shift.y) ∧ W.cell? ⟨w.heap.size + 1, 7, none⟩ = some (.int .i64 rd.low.s) ∧ W.cell? ⟨w.heap.size + 1, 8, none⟩ = some (.int .i64 rd.low.a) ∧ W.cell? ⟨w.heap.size + 1, 9, none⟩ = some (.int .i64 rd.low.o) ∧ W.cell? ⟨w.heap.size + 1, 10, none⟩ = some (.int .i64 rd.high.s) ∧ W.cell? ⟨w.heap.size + 1, 11, none⟩ = some (.int .i64 rd.high.a) ∧ W.cell? ⟨w.heap.size + 1, 12, none⟩ = some (.int .i64 rd.high.o) ∧ W.cell? ⟨w.heap.size, 1, none⟩ = some (.slice (some ⟨bb, boff, none⟩) s.bars.length cb) ∧ W.cell? ⟨bb, boff + k * 4 + 3, none⟩ = some (.int .i64 bar.key) ∧ W.cell? ⟨lb, loff + j * 12 + 9, none⟩ = some (.int .i64 n.pitch.s) ∧ W.cell? ⟨lb, loff + j * 12 + 10, none⟩ = some (.int .i64 n.pitch.a) ∧ W.cell? ⟨lb, loff + j * 12 + 11, none⟩ = some (.int .i64 n.pitch.o) from ⟨keepE (hc2 0) hb, keepE (hc2 1) hb, keepE (hc2 2) hb, keepE (hc2 3) hb, keepE (hc2 4) hb, keepE (hc2 5) hb, keepE (hc2 6) hb, keepE (hc2 7) hb, keepE (hc2 8) hb, keepE (hc2 9) hb, keepE (hc2 10) hb, keepE (hc2 11) hb, keepE (hc2 12) hb, keepE s1 hb, keepE d3 hb, keepE n9 hb, keepE n10 hb, keepE n11 hb⟩)
        clear hc2 s1 d3 n0 n1 n2 n3 n4 n5 n6 n7 n8 n9 n10 n11
        go_region_held3 (fun W => W.cell? ⟨w.heap.size + 1, 0, none⟩ = some (.int .i64 rd.id) ∧ W.cell? ⟨w.heap.size + 1, 1, none⟩ = some (.int .i64 rd.section_) ∧ W.cell? ⟨w.heap.size + 1, 2, none⟩ = some (.int .i64 rd.of) ∧ W.cell? ⟨w.heap.size + 1, 3, none⟩ = some (.int .i64 rd.octave) ∧ W.cell? ⟨w.heap.size + 1, 4, none⟩ = some (.int .i64 rd.desks) ∧ W.cell? ⟨w.heap.size + 1, 5, none⟩ = some (.int .i64 rd.shift.x) ∧ W.cell? ⟨w.heap.size + 1, 6, none⟩ = some (.int .i64 rd.shift.y) ∧ W.cell? ⟨w.heap.size + 1, 7, none⟩ = some (.int .i64 rd.low.s) ∧ W.cell? ⟨w.heap.size + 1, 8, none⟩ = some (.int .i64 rd.low.a) ∧ W.cell? ⟨w.heap.size + 1, 9, none⟩ = some (.int .i64 rd.low.o) ∧ W.cell? ⟨w.heap.size + 1, 10, none⟩ = some (.int .i64 rd.high.s) ∧ W.cell? ⟨w.heap.size + 1, 11, none⟩ = some (.int .i64 rd.high.a) ∧ W.cell? ⟨w.heap.size + 1, 12, none⟩ = some (.int .i64 rd.high.o) ∧ W.cell? ⟨w.heap.size, 1, none⟩ = some (.slice (some ⟨bb, boff, none⟩) s.bars.length cb) ∧ W.cell? ⟨bb, boff + k * 4 + 3, none⟩ = some (.int .i64 bar.key) ∧ W.cell? ⟨lb, loff + j * 12 + 9, none⟩ = some (.int .i64 n.pitch.s) ∧ W.cell? ⟨lb, loff + j * 12 + 10, none⟩ = some (.int .i64 n.pitch.a) ∧ W.cell? ⟨lb, loff + j * 12 + 11, none⟩ = some (.int .i64 n.pitch.o))
          (first | (refine KS.out _ ?_; (repeat (first | with_reducible exact HBr.out | with_reducible exact RowKit.Below.refl _ _ | with_reducible refine RowKit.Below.drew ?_ | with_reducible refine RowKit.Below.alloc ?_ (by first | omega | (simp; done) | (have := HBr.out.size; simp <;> omega)) _ | with_reducible refine RowKit.Below.setCell ?_ (by first | omega | (simp; done)) _)); done))
          ((go_at_call 110; refine (HWr.out _).mono ?_; rintro e w6 ⟨rfl, hb⟩; (try replace hb := drewB hb); (first | (have x0 := box_below hb; have HX9 := Lib.hid x0; have hc9 := box_cells x0; have hf9 := box_free x0; have hz9 := lt_blk x0; clear x0; replace hb := allocB hb) | skip); (try replace hb := drewB hb); have HBr := Lib.hid hb; clear hb))
        · go_wp2
          go_meet
          case rel => exact ⟨_, rfl, rfl, HBr.out.size, heap_alloc_new _ _, HBr.out.alloc HBr.out.size _⟩
        · go_wp2
          go_meet
          case rel => exact ⟨_, rfl, rfl, Nat.le_refl _, set3c HX9.out, set3_below HBr.out (Nat.le_refl _)⟩
      case rest =>
        obtain ⟨pb, rfl, rfl, hpb, xp, hbp⟩ := hcut
        have hp := box_cells xp
        replace HXv := Lib.hid (blk_keep HXv.out hbp); replace HWv := Lib.hid (HWv.out.below hbp)
        replace HK := Lib.hid (HK.out.andBelow hbp HK.out.size)
        replace n0 := keepE n0 hbp; replace n3 := keepE n3 hbp; replace n4 := keepE n4 hbp; replace n5 := keepE n5 hbp; replace n6 := keepE n6 hbp; replace n7 := keepE n7 hbp; replace n8 := keepE n8 hbp
        clear n1 n2 n9 n10 n11 d3 xp hbp HY1 HY2 HY3 HWr hKs
        have KS := Lib.hid (fun W (hb : RowKit.Below wc.heap.size wc W) => show W.cell? ⟨lb, loff + j * 12, none⟩ = some (.int .i64 n.id) ∧ W.cell? ⟨lb, loff + j * 12 + 3, none⟩ = some (.int .i64 n.voice) ∧ W.cell? ⟨lb, loff + j * 12 + 4, none⟩ = some (.int .i64 n.ossia) ∧ W.cell? ⟨lb, loff + j * 12 + 5, none⟩ = some (.int .i64 n.start.n) ∧ W.cell? ⟨lb, loff + j * 12 + 6, none⟩ = some (.int .i64 n.start.d) ∧ W.cell? ⟨lb, loff + j * 12 + 7, none⟩ = some (.int .i64 n.len.n) ∧ W.cell? ⟨lb, loff + j * 12 + 8, none⟩ = some (.int .i64 n.len.d) ∧ W.cell? ⟨pb, 0, none⟩ = some (.int .i64 pw.s) ∧ W.cell? ⟨pb, 1, none⟩ = some (.int .i64 pw.a) ∧ W.cell? ⟨pb, 2, none⟩ = some (.int .i64 pw.o) from ⟨keepE n0 hb, keepE n3 hb, keepE n4 hb, keepE n5 hb, keepE n6 hb, keepE n7 hb, keepE n8 hb, keepE (hp 0) hb, keepE (hp 1) hb, keepE (hp 2) hb⟩)
        have HPut := Lib.hid (fun W (hb : Below wc.heap.size wc W) => show Calls Tryz.prog 111 #[.slice va j vc, .agg #[.int .i64 n.id, .int .i64 n.voice, .int .i64 n.ossia, .int .i64 n.start.n, .int .i64 n.start.d, .int .i64 n.len.n, .int .i64 n.len.d, .int .i64 pw.s, .int .i64 pw.a, .int .i64 pw.o]] W (fun e w' => ∃ a' cap', e = .returned (.slice a' (j + 1) cap') ∧ OwnR w' W.heap.size 68 10 (.slice a' (j + 1) cap') ((putsL WS (j + 1)).map Wr.cells) ∧ Below W.heap.size W w') from by
          have h0 := RPut_any va vc (putsL WS j) wj W (by rw [HPl.out]; omega) HVj.out.2 HVj.out.1 (by obtain ⟨a9, c9, e9, _, hs9⟩ := (HWv.out.below hb).slAt; rw [List.length_map, HPl.out] at e9; cases e9; exact hs9)
          rw [← HPs.out, HPl.out] at h0
          rw [HWj.out] at h0
          exact h0.mono fun e w' ⟨a', c', h1, h2, h4⟩ => ⟨a', c', by rw [h1, HPl2.out], by rwa [HPl2.out] at h2, h4⟩)
        have hpbn : pb ≠ cx := by omega
        have hv2 : wc.drew.cell? ⟨cx, 2, none⟩ = some (.slice va j vc) := box_cells HXv.out 2
        clear n0 n3 n4 n5 n6 n7 n8 hp
        go_upto_region 10 with (fail)
        refine wp_region_noPanic ?_
        refine wp_region_held_drew (S := fun W => W.cell? ⟨lb, loff + j * 12, none⟩ = some (.int .i64 n.id) ∧ W.cell? ⟨lb, loff + j * 12 + 3, none⟩ = some (.int .i64 n.voice) ∧ W.cell? ⟨lb, loff + j * 12 + 4, none⟩ = some (.int .i64 n.ossia) ∧ W.cell? ⟨lb, loff + j * 12 + 5, none⟩ = some (.int .i64 n.start.n) ∧ W.cell? ⟨lb, loff + j * 12 + 6, none⟩ = some (.int .i64 n.start.d) ∧ W.cell? ⟨lb, loff + j * 12 + 7, none⟩ = some (.int .i64 n.len.n) ∧ W.cell? ⟨lb, loff + j * 12 + 8, none⟩ = some (.int .i64 n.len.d) ∧ W.cell? ⟨pb, 0, none⟩ = some (.int .i64 pw.s) ∧ W.cell? ⟨pb, 1, none⟩ = some (.int .i64 pw.a) ∧ W.cell? ⟨pb, 2, none⟩ = some (.int .i64 pw.o)) (by kernel_rfl) (KS.out _ (RowKit.Below.refl _ _).drew) (fun hHeld => ?_)
        (refine wpAnyH_take1 0 (oi := ?_) (v := ?_) ?_ (by kernel_rfl) (by kernel_rfl) (by kernel_rfl) (by assumption) ?_ ?_ ?_; rotate_left 2; (· simp only [List.getElem?_toArray, List.getElem?_cons_succ, List.getElem?_cons_zero]; try rfl); (· refine ⟨by kernel_rfl, ?_⟩; intro wq hSw; obtain ⟨z0, z3, z4, z5, z6, z7, z8, y0, y1, y2⟩ := hSw; go_simp; first | done | with_reducible rfl); (· exact fun _ _ _ h => h); try simp only [Act.put, List.setIfInBounds_toArray, List.set_cons_zero, List.set_cons_succ])
        (refine wpAnyH_take1 2 (oi := ?_) (v := ?_) ?_ (by kernel_rfl) (by kernel_rfl) (by kernel_rfl) (by assumption) ?_ ?_ ?_; rotate_left 2; (· simp only [List.getElem?_toArray, List.getElem?_cons_succ, List.getElem?_cons_zero]; try rfl); (· refine ⟨by kernel_rfl, ?_⟩; intro wq hSw; obtain ⟨z0, z3, z4, z5, z6, z7, z8, y0, y1, y2⟩ := hSw; go_simp; first | done | with_reducible rfl); (· exact fun _ _ _ h => h); try simp only [Act.put, List.setIfInBounds_toArray, List.set_cons_zero, List.set_cons_succ])
        (refine wpAnyH_take1 3 (oi := ?_) (v := ?_) ?_ (by kernel_rfl) (by kernel_rfl) (by kernel_rfl) (by assumption) ?_ ?_ ?_; rotate_left 2; (· simp only [List.getElem?_toArray, List.getElem?_cons_succ, List.getElem?_cons_zero]; try rfl); (· refine ⟨by kernel_rfl, ?_⟩; intro wq hSw; obtain ⟨z0, z3, z4, z5, z6, z7, z8, y0, y1, y2⟩ := hSw; go_simp; first | done | with_reducible rfl); (· exact fun _ _ _ h => h); try simp only [Act.put, List.setIfInBounds_toArray, List.set_cons_zero, List.set_cons_succ])
        (refine wpAnyH_take1 4 (oi := ?_) (v := ?_) ?_ (by kernel_rfl) (by kernel_rfl) (by kernel_rfl) (by assumption) ?_ ?_ ?_; rotate_left 2; (· simp only [List.getElem?_toArray, List.getElem?_cons_succ, List.getElem?_cons_zero]; try rfl); (· refine ⟨by kernel_rfl, ?_⟩; intro wq hSw; obtain ⟨z0, z3, z4, z5, z6, z7, z8, y0, y1, y2⟩ := hSw; go_simp; first | done | with_reducible rfl); (· exact fun _ _ _ h => h); try simp only [Act.put, List.setIfInBounds_toArray, List.set_cons_zero, List.set_cons_succ])
        (refine wpAnyH_take1 5 (oi := ?_) (v := ?_) ?_ (by kernel_rfl) (by kernel_rfl) (by kernel_rfl) (by assumption) ?_ ?_ ?_; rotate_left 2; (· simp only [List.getElem?_toArray, List.getElem?_cons_succ, List.getElem?_cons_zero]; try rfl); (· refine ⟨by kernel_rfl, ?_⟩; intro wq hSw; obtain ⟨z0, z3, z4, z5, z6, z7, z8, y0, y1, y2⟩ := hSw; go_simp; first | done | with_reducible rfl); (· exact fun _ _ _ h => h); try simp only [Act.put, List.setIfInBounds_toArray, List.set_cons_zero, List.set_cons_succ])
        (refine wpAnyH_take1 6 (oi := ?_) (v := ?_) ?_ (by kernel_rfl) (by kernel_rfl) (by kernel_rfl) (by assumption) ?_ ?_ ?_; rotate_left 2; (· simp only [List.getElem?_toArray, List.getElem?_cons_succ, List.getElem?_cons_zero]; try rfl); (· refine ⟨by kernel_rfl, ?_⟩; intro wq hSw; obtain ⟨z0, z3, z4, z5, z6, z7, z8, y0, y1, y2⟩ := hSw; go_simp; first | done | with_reducible rfl); (· exact fun _ _ _ h => h); try simp only [Act.put, List.setIfInBounds_toArray, List.set_cons_zero, List.set_cons_succ])
        (refine wpAnyH_take1 7 (oi := ?_) (v := ?_) ?_ (by kernel_rfl) (by kernel_rfl) (by kernel_rfl) (by assumption) ?_ ?_ ?_; rotate_left 2; (· simp only [List.getElem?_toArray, List.getElem?_cons_succ, List.getElem?_cons_zero]; try rfl); (· refine ⟨by kernel_rfl, ?_⟩; intro wq hSw; obtain ⟨z0, z3, z4, z5, z6, z7, z8, y0, y1, y2⟩ := hSw; go_simp; first | done | with_reducible rfl); (· exact fun _ _ _ h => h); try simp only [Act.put, List.setIfInBounds_toArray, List.set_cons_zero, List.set_cons_succ])
        (refine wpAnyH_take1 8 (oi := ?_) (v := ?_) ?_ (by kernel_rfl) (by kernel_rfl) (by kernel_rfl) (by assumption) ?_ ?_ ?_; rotate_left 2; (· simp only [List.getElem?_toArray, List.getElem?_cons_succ, List.getElem?_cons_zero]; try rfl); (· refine ⟨by kernel_rfl, ?_⟩; intro wq hSw; obtain ⟨z0, z3, z4, z5, z6, z7, z8, y0, y1, y2⟩ := hSw; go_simp; first | done | with_reducible rfl); (· exact fun _ _ _ h => h); try simp only [Act.put, List.setIfInBounds_toArray, List.set_cons_zero, List.set_cons_succ])
        (refine wpAnyH_take1 9 (oi := ?_) (v := ?_) ?_ (by kernel_rfl) (by kernel_rfl) (by kernel_rfl) (by assumption) ?_ ?_ ?_; rotate_left 2; (· simp only [List.getElem?_toArray, List.getElem?_cons_succ, List.getElem?_cons_zero]; try rfl); (· refine ⟨by kernel_rfl, ?_⟩; intro wq hSw; obtain ⟨z0, z3, z4, z5, z6, z7, z8, y0, y1, y2⟩ := hSw; go_simp; first | done | with_reducible rfl); (· exact fun _ _ _ h => h); try simp only [Act.put, List.setIfInBounds_toArray, List.set_cons_zero, List.set_cons_succ])
        (refine wpAnyH_take1 10 (oi := ?_) (v := ?_) ?_ (by kernel_rfl) (by kernel_rfl) (by kernel_rfl) (by assumption) ?_ ?_ ?_; rotate_left 2; (· simp only [List.getElem?_toArray, List.getElem?_cons_succ, List.getElem?_cons_zero]; try rfl); (· refine ⟨by kernel_rfl, ?_⟩; intro wq hSw; obtain ⟨z0, z3, z4, z5, z6, z7, z8, y0, y1, y2⟩ := hSw; go_simp; first | done | with_reducible rfl); (· exact fun _ _ _ h => h); try simp only [Act.put, List.setIfInBounds_toArray, List.set_cons_zero, List.set_cons_succ])
        (refine wpAnyH_take1 11 (oi := ?_) (v := ?_) ?_ (by kernel_rfl) (by kernel_rfl) (by kernel_rfl) (by assumption) ?_ ?_ ?_; rotate_left 2; (· simp only [List.getElem?_toArray, List.getElem?_cons_succ, List.getElem?_cons_zero]; try rfl); (· refine ⟨by kernel_rfl, ?_⟩; intro wq hSw; obtain ⟨z0, z3, z4, z5, z6, z7, z8, y0, y1, y2⟩ := hSw; go_simp; first | done | with_reducible rfl); (· exact fun _ _ _ h => h); try simp only [Act.put, List.setIfInBounds_toArray, List.set_cons_zero, List.set_cons_succ])
        (refine wpAnyH_take1 12 (oi := ?_) (v := ?_) ?_ (by kernel_rfl) (by kernel_rfl) (by kernel_rfl) (by assumption) ?_ ?_ ?_; rotate_left 2; (· simp only [List.getElem?_toArray, List.getElem?_cons_succ, List.getElem?_cons_zero]; try rfl); (· refine ⟨by kernel_rfl, ?_⟩; intro wq hSw; obtain ⟨z0, z3, z4, z5, z6, z7, z8, y0, y1, y2⟩ := hSw; go_simp; first | done | with_reducible rfl); (· exact fun _ _ _ h => h); try simp only [Act.put, List.setIfInBounds_toArray, List.set_cons_zero, List.set_cons_succ])
        (refine wpAnyH_take1 13 (oi := ?_) (v := ?_) ?_ (by kernel_rfl) (by kernel_rfl) (by kernel_rfl) (by assumption) ?_ ?_ ?_; rotate_left 2; (· simp only [List.getElem?_toArray, List.getElem?_cons_succ, List.getElem?_cons_zero]; try rfl); (· refine ⟨by kernel_rfl, ?_⟩; intro wq hSw; obtain ⟨z0, z3, z4, z5, z6, z7, z8, y0, y1, y2⟩ := hSw; go_simp; first | done | with_reducible rfl); (· exact fun _ _ _ h => h); try simp only [Act.put, List.setIfInBounds_toArray, List.set_cons_zero, List.set_cons_succ])
        (refine wpAnyH_take1 14 (oi := ?_) (v := ?_) ?_ (by kernel_rfl) (by kernel_rfl) (by kernel_rfl) (by assumption) ?_ ?_ ?_; rotate_left 2; (· simp only [List.getElem?_toArray, List.getElem?_cons_succ, List.getElem?_cons_zero]; try rfl); (· refine ⟨by kernel_rfl, ?_⟩; intro wq hSw; obtain ⟨z0, z3, z4, z5, z6, z7, z8, y0, y1, y2⟩ := hSw; go_simp; first | done | with_reducible rfl); (· exact fun _ _ _ h => h); try simp only [Act.put, List.setIfInBounds_toArray, List.set_cons_zero, List.set_cons_succ])
        (refine wpAnyH_take1 15 (oi := ?_) (v := ?_) ?_ (by kernel_rfl) (by kernel_rfl) (by kernel_rfl) (by assumption) ?_ ?_ ?_; rotate_left 2; (· simp only [List.getElem?_toArray, List.getElem?_cons_succ, List.getElem?_cons_zero]; try rfl); (· refine ⟨by kernel_rfl, ?_⟩; intro wq hSw; obtain ⟨z0, z3, z4, z5, z6, z7, z8, y0, y1, y2⟩ := hSw; go_simp; first | done | with_reducible rfl); (· exact fun _ _ _ h => h); try simp only [Act.put, List.setIfInBounds_toArray, List.set_cons_zero, List.set_cons_succ])
        (refine wpAnyH_take1 16 (oi := ?_) (v := ?_) ?_ (by kernel_rfl) (by kernel_rfl) (by kernel_rfl) (by assumption) ?_ ?_ ?_; rotate_left 2; (· simp only [List.getElem?_toArray, List.getElem?_cons_succ, List.getElem?_cons_zero]; try rfl); (· refine ⟨by kernel_rfl, ?_⟩; intro wq hSw; obtain ⟨z0, z3, z4, z5, z6, z7, z8, y0, y1, y2⟩ := hSw; go_simp; first | done | with_reducible rfl); (· exact fun _ _ _ h => h); try simp only [Act.put, List.setIfInBounds_toArray, List.set_cons_zero, List.set_cons_succ])
        (refine wpAnyH_take1 17 (oi := ?_) (v := ?_) ?_ (by kernel_rfl) (by kernel_rfl) (by kernel_rfl) (by assumption) ?_ ?_ ?_; rotate_left 2; (· simp only [List.getElem?_toArray, List.getElem?_cons_succ, List.getElem?_cons_zero]; try rfl); (· refine ⟨by kernel_rfl, ?_⟩; intro wq hSw; obtain ⟨z0, z3, z4, z5, z6, z7, z8, y0, y1, y2⟩ := hSw; go_simp; first | done | with_reducible rfl); (· exact fun _ _ _ h => h); try simp only [Act.put, List.setIfInBounds_toArray, List.set_cons_zero, List.set_cons_succ])
        (refine wpAnyH_take1 18 (oi := ?_) (v := ?_) ?_ (by kernel_rfl) (by kernel_rfl) (by kernel_rfl) (by assumption) ?_ ?_ ?_; rotate_left 2; (· simp only [List.getElem?_toArray, List.getElem?_cons_succ, List.getElem?_cons_zero]; try rfl); (· refine ⟨by kernel_rfl, ?_⟩; intro wq hSw; obtain ⟨z0, z3, z4, z5, z6, z7, z8, y0, y1, y2⟩ := hSw; go_simp; first | done | with_reducible rfl); (· exact fun _ _ _ h => h); try simp only [Act.put, List.setIfInBounds_toArray, List.set_cons_zero, List.set_cons_succ])
        (refine wpAnyH_take1 19 (oi := ?_) (v := ?_) ?_ (by kernel_rfl) (by kernel_rfl) (by kernel_rfl) (by assumption) ?_ ?_ ?_; rotate_left 2; (· simp only [List.getElem?_toArray, List.getElem?_cons_succ, List.getElem?_cons_zero]; try rfl); (· refine ⟨by kernel_rfl, ?_⟩; intro wq hSw; obtain ⟨z0, z3, z4, z5, z6, z7, z8, y0, y1, y2⟩ := hSw; go_simp; first | done | with_reducible rfl); (· exact fun _ _ _ h => h); try simp only [Act.put, List.setIfInBounds_toArray, List.set_cons_zero, List.set_cons_succ])
        (refine wpAnyH_take1 20 (oi := ?_) (v := ?_) ?_ (by kernel_rfl) (by kernel_rfl) (by kernel_rfl) (by assumption) ?_ ?_ ?_; rotate_left 2; (· simp only [List.getElem?_toArray, List.getElem?_cons_succ, List.getElem?_cons_zero]; try rfl); (· refine ⟨by kernel_rfl, ?_⟩; intro wq hSw; obtain ⟨z0, z3, z4, z5, z6, z7, z8, y0, y1, y2⟩ := hSw; go_simp; first | done | with_reducible rfl); (· exact fun _ _ _ h => h); try simp only [Act.put, List.setIfInBounds_toArray, List.set_cons_zero, List.set_cons_succ])
        (refine wpAnyH_take1 21 (oi := ?_) (v := ?_) ?_ (by kernel_rfl) (by kernel_rfl) (by kernel_rfl) (by assumption) ?_ ?_ ?_; rotate_left 2; (· simp only [List.getElem?_toArray, List.getElem?_cons_succ, List.getElem?_cons_zero]; try rfl); (· refine ⟨by kernel_rfl, ?_⟩; intro wq hSw; obtain ⟨z0, z3, z4, z5, z6, z7, z8, y0, y1, y2⟩ := hSw; go_simp; first | done | with_reducible rfl); (· exact fun _ _ _ h => h); try simp only [Act.put, List.setIfInBounds_toArray, List.set_cons_zero, List.set_cons_succ])
        (refine wpAnyH_take1 22 (oi := ?_) (v := ?_) ?_ (by kernel_rfl) (by kernel_rfl) (by kernel_rfl) (by assumption) ?_ ?_ ?_; rotate_left 2; (· simp only [List.getElem?_toArray, List.getElem?_cons_succ, List.getElem?_cons_zero]; try rfl); (· refine ⟨by kernel_rfl, ?_⟩; intro wq hSw; obtain ⟨z0, z3, z4, z5, z6, z7, z8, y0, y1, y2⟩ := hSw; go_simp; first | done | with_reducible rfl); (· exact fun _ _ _ h => h); try simp only [Act.put, List.setIfInBounds_toArray, List.set_cons_zero, List.set_cons_succ])
        (refine wpAnyH_take1 23 (oi := ?_) (v := ?_) ?_ (by kernel_rfl) (by kernel_rfl) (by kernel_rfl) (by assumption) ?_ ?_ ?_; rotate_left 2; (· simp only [List.getElem?_toArray, List.getElem?_cons_succ, List.getElem?_cons_zero]; try rfl); (· refine ⟨by kernel_rfl, ?_⟩; intro wq hSw; obtain ⟨z0, z3, z4, z5, z6, z7, z8, y0, y1, y2⟩ := hSw; go_simp; first | done | with_reducible rfl); (· exact fun _ _ _ h => h); try simp only [Act.put, List.setIfInBounds_toArray, List.set_cons_zero, List.set_cons_succ])
        (refine wpAnyH_take1 24 (oi := ?_) (v := ?_) ?_ (by kernel_rfl) (by kernel_rfl) (by kernel_rfl) (by assumption) ?_ ?_ ?_; rotate_left 2; (· simp only [List.getElem?_toArray, List.getElem?_cons_succ, List.getElem?_cons_zero]; try rfl); (· refine ⟨by kernel_rfl, ?_⟩; intro wq hSw; obtain ⟨z0, z3, z4, z5, z6, z7, z8, y0, y1, y2⟩ := hSw; go_simp; first | done | with_reducible rfl); (· exact fun _ _ _ h => h); try simp only [Act.put, List.setIfInBounds_toArray, List.set_cons_zero, List.set_cons_succ])
        (refine wpAnyH_take1 25 (oi := ?_) (v := ?_) ?_ (by kernel_rfl) (by kernel_rfl) (by kernel_rfl) (by assumption) ?_ ?_ ?_; rotate_left 2; (· simp only [List.getElem?_toArray, List.getElem?_cons_succ, List.getElem?_cons_zero]; try rfl); (· refine ⟨by kernel_rfl, ?_⟩; intro wq hSw; obtain ⟨z0, z3, z4, z5, z6, z7, z8, y0, y1, y2⟩ := hSw; go_simp; first | done | with_reducible rfl); (· exact fun _ _ _ h => h); try simp only [Act.put, List.setIfInBounds_toArray, List.set_cons_zero, List.set_cons_succ])
        (refine wpAnyH_take1 26 (oi := ?_) (v := ?_) ?_ (by kernel_rfl) (by kernel_rfl) (by kernel_rfl) (by assumption) ?_ ?_ ?_; rotate_left 2; (· simp only [List.getElem?_toArray, List.getElem?_cons_succ, List.getElem?_cons_zero]; try rfl); (· refine ⟨by kernel_rfl, ?_⟩; intro wq hSw; obtain ⟨z0, z3, z4, z5, z6, z7, z8, y0, y1, y2⟩ := hSw; go_simp; first | done | with_reducible rfl); (· exact fun _ _ _ h => h); try simp only [Act.put, List.setIfInBounds_toArray, List.set_cons_zero, List.set_cons_succ])
        (refine wpAnyH_take1 27 (oi := ?_) (v := ?_) ?_ (by kernel_rfl) (by kernel_rfl) (by kernel_rfl) (by assumption) ?_ ?_ ?_; rotate_left 2; (· simp only [List.getElem?_toArray, List.getElem?_cons_succ, List.getElem?_cons_zero]; try rfl); (· refine ⟨by kernel_rfl, ?_⟩; intro wq hSw; obtain ⟨z0, z3, z4, z5, z6, z7, z8, y0, y1, y2⟩ := hSw; go_simp; first | done | with_reducible rfl); (· exact fun _ _ _ h => h); try simp only [Act.put, List.setIfInBounds_toArray, List.set_cons_zero, List.set_cons_succ])
        (refine wpAnyH_take1 28 (oi := ?_) (v := ?_) ?_ (by kernel_rfl) (by kernel_rfl) (by kernel_rfl) (by assumption) ?_ ?_ ?_; rotate_left 2; (· simp only [List.getElem?_toArray, List.getElem?_cons_succ, List.getElem?_cons_zero]; try rfl); (· refine ⟨by kernel_rfl, ?_⟩; intro wq hSw; obtain ⟨z0, z3, z4, z5, z6, z7, z8, y0, y1, y2⟩ := hSw; go_simp; first | done | with_reducible rfl); (· exact fun _ _ _ h => h); try simp only [Act.put, List.setIfInBounds_toArray, List.set_cons_zero, List.set_cons_succ])
        (refine wpAnyH_call1 (i := 1) (o := ?_) (by kernel_rfl) ?_ (fun K hK => ?_); rotate_left 1; (· simp only [List.getElem?_toArray, List.getElem?_cons_succ, List.getElem?_cons_zero]; try rfl); go_simp)
        refine hK.out _ _ hHeld (fun hHeld2 => ?_)
        clear hK K
        (try simp only [Act.put, List.setIfInBounds_toArray, List.set_cons_zero, List.set_cons_succ])
        (refine wpAnyH_call1 (i := 29) (o := ?_) (by kernel_rfl) ?_ (fun K hK => ?_); rotate_left 1; (· simp only [List.getElem?_toArray, List.getElem?_cons_succ, List.getElem?_cons_zero]; try rfl); go_simp)
        refine (HPut.out _ (RowKit.Below.refl _ _).drew).mono ?_
        have HBw := Lib.hid (show w.heap.size ≤ wc.heap.size from Nat.le_trans HB.out.size HK.out.size)
        rintro e w7 ⟨a7, c7, rfl, hw7, hb⟩
        replace hb := drewB hb
        have HW7 := Lib.hid hw7; have HX7 := Lib.hid (blk_keep HXv.out hb); have HBr := Lib.hid hb
        have hx7 := box_cells HX7.out; have hfx7 := box_free HX7.out; have hzx7 := lt_blk HX7.out
        clear hb hw7 hv2
        refine hK.out _ _ (KS.out _ HBr.out) (fun hHeld3 => ?_)
        clear hK K
        (try simp only [Act.put, List.setIfInBounds_toArray, List.set_cons_zero, List.set_cons_succ])
        ((refine wpAnyH_take1 30 (oi := ?_) (v := ?_) ?_ (by kernel_rfl) (by kernel_rfl) (by kernel_rfl) (by assumption) ?_ ?_ ?_; rotate_left 2; (· simp only [List.getElem?_toArray, List.getElem?_cons_succ, List.getElem?_cons_zero]; try rfl); (· refine ⟨by kernel_rfl, ?_⟩; intro wq hSw; skip; go_simp; first | done | with_reducible rfl); (· exact fun _ _ _ h => h); try simp only [Act.put, List.setIfInBounds_toArray, List.set_cons_zero, List.set_cons_succ]))
        (refine wpAnyH_call1 (i := 31) (o := ?_) (by kernel_rfl) ?_ (fun K hK => ?_); rotate_left 1; (· simp only [List.getElem?_toArray, List.getElem?_cons_succ, List.getElem?_cons_zero]; try rfl); go_simp)
        refine hK.out _ _ ⟨cell1_far hHeld3.1 hlbn _, cell1_far hHeld3.2.1 hlbn _, cell1_far hHeld3.2.2.1 hlbn _, cell1_far hHeld3.2.2.2.1 hlbn _, cell1_far hHeld3.2.2.2.2.1 hlbn _, cell1_far hHeld3.2.2.2.2.2.1 hlbn _, cell1_far hHeld3.2.2.2.2.2.2.1 hlbn _, cell1_far hHeld3.2.2.2.2.2.2.2.1 hpbn _, cell1_far hHeld3.2.2.2.2.2.2.2.2.1 hpbn _, cell1_far hHeld3.2.2.2.2.2.2.2.2.2 hpbn _⟩ (fun hHeld4 => ?_)
        clear hK K
        (try simp only [Act.put, List.setIfInBounds_toArray, List.set_cons_zero, List.set_cons_succ])
        refine wpAnyH_done (by kernel_rfl) ?_ _
        refine NoPanic.normal ?_
        go_wp2
        exact ⟨⟨j + 1, a7, c7, by omega, by go_num, heap_setCell_same _ _ _ _ _ _ HX7.out, (HW7.out.mono (by have := HBw.out; simp; omega)).setFar (fun i hi => own_ne HW7.out hi HX7.out (by decide)) _, (HK.out.andBelow HBr.out HK.out.size).set (.inl (by simp)) _⟩, by simp [intOf]; omega⟩
    · obtain rfl : j = L.length := by omega
      have HPl := Lib.hid (putsL_len WS L.length (by have := HWl.out; omega))
      have hcv := box_cells HXv.out; have hc3 := box_cells HY3.out; have hf3 := box_free HY3.out; have hz3 := lt_blk HY3.out
      go_wp2
      refine bodyPost_ret (v := .tuple #[.agg #[.int .i64 k, .int .i64 x.id, .slice va L.length vc], .bool true]) (by simp [results, Tryz.results53, go_sem, hc3, hf3]) rfl (.inr ⟨⟨k, x.id, va, vc, putsL WS L.length⟩, ?_, ?_, ?_, ?_⟩)
      · rw [HCo.out, HWl.out]; rfl
      · show Ending.returned _ = Ending.returned (.tuple #[.agg #[.int .i64 k, .int .i64 x.id, .slice va (putsL WS L.length).length vc], .bool true])
        rw [HPl.out]
      · show OwnR _ _ _ _ (.slice va (putsL WS L.length).length vc) _
        rw [HPl.out]
        exact ((HWv.out.setFar (fun i hi => own_ne HWv.out hi HY3.out (by decide)) _).setFar (fun i hi => own_ne HWv.out hi HY3.out (by decide)) _).setFar (fun i hi => own_ne HWv.out hi HY3.out (by decide)) _
      · exact set3_below (HK.out.onBelow HB.out HB.out.size (fun b hb => by simp at hb; omega)) (by omega)
end Go.Proofs.YtppjbnnnppffaaaGreatDoor


/- The reference of layer 17: Cues: walked. -/
namespace Go.Proofs.YtppjbnnnppffaaaGreatDoor
set_option linter.unusedSimpArgs false
set_option linter.unusedVariables false
open Go.RowKit Go.Sort Go.Shelf

/-- The cues of the first bars. -/
def cuesK (s : Sc) (p : Pa) (after m : Nat) : List CuP := (List.range m).filterMap fun i => if entryB (busyL s p) after i then cueO s p (i - 1) else none
theorem cuesK_all (s : Sc) (p : Pa) (after : Nat) : cuesK s p after s.bars.length = cuesL s p after := rfl
theorem cuesK_succ (s : Sc) (p : Pa) (after m : Nat) : cuesK s p after (m + 1) = cuesK s p after m ++ ((if entryB (busyL s p) after m then cueO s p (m - 1) else none).toList) := by
  unfold cuesK
  rw [List.range_succ, List.filterMap_append]
  congr 1
set_option maxRecDepth 100000 in
set_option maxHeartbeats 8000000 in
theorem RCues_any (s : Sc) (q : Sp) (part after : Int) (w : World) (hf : ScFew s) (hs : ScAt w s q) :
    Calls Tryz.prog 16 #[.agg #[.int .i64 s.version, .slice q.ab s.bars.length q.cb, .slice q.ap s.parts.length q.cp, .slice q.an s.notes.length q.cn], .int .i64 part, .int .i64 after] w (RetCuE (cuesR s part after).1 (cuesR s part after).2 w) := by
  have HS := Lib.hid hs
  have HC := Lib.hid (fun W (hb : Below w.heap.size w W) => RValid8_any s q W hf (hs.below hb))
  have HAt := Lib.hid (fun W (hb : Below w.heap.size w W) => RPartAt_any q.ap q.cp s.parts part W (by have := hf.parts; omega) (hs.parts.below hb))
  have HX1 := Lib.hid (heap_alloc_new w (.cells #[.int .i64 s.version, .slice q.ab s.bars.length q.cb, .slice q.ap s.parts.length q.cp, .slice q.an s.notes.length q.cn] 26))
  have HB := Lib.hid ((Below.refl w.heap.size w).alloc (Nat.le_refl _) (.cells #[.int .i64 s.version, .slice q.ab s.bars.length q.cb, .slice q.ap s.parts.length q.cp, .slice q.an s.notes.length q.cn] 26))
  obtain ⟨ab, cb, ap, cp, an, cn⟩ := q
  dsimp only at *
  cases hv : validS s
  · rw [hv] at HC
    rw [show cuesR s part after = ([], 1) by simp [cuesR, hv]]
    clear hv hs hf
    go_enter Tryz.func16, Tryz.ntmps16; go_upto_region 1 with (fail); generalize w.alloc (.cells #[.int .i64 s.version, .slice (⟨ab, cb, ap, cp, an, cn⟩ : Sp).ab s.bars.length (⟨ab, cb, ap, cp, an, cn⟩ : Sp).cb, .slice (⟨ab, cb, ap, cp, an, cn⟩ : Sp).ap s.parts.length (⟨ab, cb, ap, cp, an, cn⟩ : Sp).cp, .slice (⟨ab, cb, ap, cp, an, cn⟩ : Sp).an s.notes.length (⟨ab, cb, ap, cp, an, cn⟩ : Sp).cn] 26) = W at *; have hc1 := box_cells HX1.out
    go_wp2_with ((go_at_call 32; refine (HC.out _ HB.out).mono ?_; rintro e w2 ⟨rfl, hb⟩; (try replace hb := drewB hb); replace HB := Lib.hid (HB.out.trans (hb.mono HB.out.size)); (try (replace HX1 := Lib.hid (blk_keep HX1.out hb); replace hc1 := box_cells HX1.out; replace hf1 := box_free HX1.out; replace hz1 := lt_blk HX1.out)); (try (replace HX9 := Lib.hid (blk_keep HX9.out hb); replace hc9 := box_cells HX9.out; replace hf9 := box_free HX9.out; replace hz9 := lt_blk HX9.out)); (try (replace HX10 := Lib.hid (blk_keep HX10.out hb); replace hc10 := box_cells HX10.out; replace hf10 := box_free HX10.out; replace hz10 := lt_blk HX10.out)); clear hb))
    go_ret2
    exact ⟨none, 0, [], rfl, SlOk.nil, ⟨SlAt.nil _ _ _, (fun m hm => by cases hm), fun m hm => by cases hm⟩, rfl, HB.out⟩
  rw [hv] at HC
  by_cases ha1 : after < 1
  · rw [show cuesR s part after = ([], 1) by simp [cuesR, hv, inB]; omega]
    clear hv hs hf
    go_enter Tryz.func16, Tryz.ntmps16; go_upto_region 1 with (fail); generalize w.alloc (.cells #[.int .i64 s.version, .slice (⟨ab, cb, ap, cp, an, cn⟩ : Sp).ab s.bars.length (⟨ab, cb, ap, cp, an, cn⟩ : Sp).cb, .slice (⟨ab, cb, ap, cp, an, cn⟩ : Sp).ap s.parts.length (⟨ab, cb, ap, cp, an, cn⟩ : Sp).cp, .slice (⟨ab, cb, ap, cp, an, cn⟩ : Sp).an s.notes.length (⟨ab, cb, ap, cp, an, cn⟩ : Sp).cn] 26) = W at *; have hc1 := box_cells HX1.out
    go_wp2_with ((go_at_call 32; refine (HC.out _ HB.out).mono ?_; rintro e w2 ⟨rfl, hb⟩; (try replace hb := drewB hb); replace HB := Lib.hid (HB.out.trans (hb.mono HB.out.size)); (try (replace HX1 := Lib.hid (blk_keep HX1.out hb); replace hc1 := box_cells HX1.out; replace hf1 := box_free HX1.out; replace hz1 := lt_blk HX1.out)); (try (replace HX9 := Lib.hid (blk_keep HX9.out hb); replace hc9 := box_cells HX9.out; replace hf9 := box_free HX9.out; replace hz9 := lt_blk HX9.out)); (try (replace HX10 := Lib.hid (blk_keep HX10.out hb); replace hc10 := box_cells HX10.out; replace hf10 := box_free HX10.out; replace hz10 := lt_blk HX10.out)); clear hb))
    go_ret2
    exact ⟨none, 0, [], rfl, SlOk.nil, ⟨SlAt.nil _ _ _, (fun m hm => by cases hm), fun m hm => by cases hm⟩, rfl, HB.out⟩
  by_cases ha2 : 4000 < after
  · rw [show cuesR s part after = ([], 1) by simp [cuesR, hv, inB]; omega]
    clear hv hs hf
    go_enter Tryz.func16, Tryz.ntmps16; go_upto_region 1 with (fail); generalize w.alloc (.cells #[.int .i64 s.version, .slice (⟨ab, cb, ap, cp, an, cn⟩ : Sp).ab s.bars.length (⟨ab, cb, ap, cp, an, cn⟩ : Sp).cb, .slice (⟨ab, cb, ap, cp, an, cn⟩ : Sp).ap s.parts.length (⟨ab, cb, ap, cp, an, cn⟩ : Sp).cp, .slice (⟨ab, cb, ap, cp, an, cn⟩ : Sp).an s.notes.length (⟨ab, cb, ap, cp, an, cn⟩ : Sp).cn] 26) = W at *; have hc1 := box_cells HX1.out
    go_wp2_with ((go_at_call 32; refine (HC.out _ HB.out).mono ?_; rintro e w2 ⟨rfl, hb⟩; (try replace hb := drewB hb); replace HB := Lib.hid (HB.out.trans (hb.mono HB.out.size)); (try (replace HX1 := Lib.hid (blk_keep HX1.out hb); replace hc1 := box_cells HX1.out; replace hf1 := box_free HX1.out; replace hz1 := lt_blk HX1.out)); (try (replace HX9 := Lib.hid (blk_keep HX9.out hb); replace hc9 := box_cells HX9.out; replace hf9 := box_free HX9.out; replace hz9 := lt_blk HX9.out)); (try (replace HX10 := Lib.hid (blk_keep HX10.out hb); replace hc10 := box_cells HX10.out; replace hf10 := box_free HX10.out; replace hz10 := lt_blk HX10.out)); clear hb))
    go_ret2
    exact ⟨none, 0, [], rfl, SlOk.nil, ⟨SlAt.nil _ _ _, (fun m hm => by cases hm), fun m hm => by cases hm⟩, rfl, HB.out⟩
  have hin : inB after 1 4000 = true := (inB_iff _ _ _).2 ⟨by omega, by omega⟩
  rcases partAt_idx s.parts part with ⟨e1, e2⟩ | ⟨i, hi, e1, e2, e3, e4⟩
  · rw [show cuesR s part after = ([], 22) by simp [cuesR, hv, e2, hin]]
    rw [e1] at HAt
    clear hv hs hf e1 e2 hin
    go_enter Tryz.func16, Tryz.ntmps16; go_upto_region 1 with (fail); generalize w.alloc (.cells #[.int .i64 s.version, .slice (⟨ab, cb, ap, cp, an, cn⟩ : Sp).ab s.bars.length (⟨ab, cb, ap, cp, an, cn⟩ : Sp).cb, .slice (⟨ab, cb, ap, cp, an, cn⟩ : Sp).ap s.parts.length (⟨ab, cb, ap, cp, an, cn⟩ : Sp).cp, .slice (⟨ab, cb, ap, cp, an, cn⟩ : Sp).an s.notes.length (⟨ab, cb, ap, cp, an, cn⟩ : Sp).cn] 26) = W at *; have hc1 := box_cells HX1.out
    go_wp2_with (first | (go_at_call 32; refine (HC.out _ HB.out).mono ?_; rintro e w2 ⟨rfl, hb⟩; (try replace hb := drewB hb); replace HB := Lib.hid (HB.out.trans (hb.mono HB.out.size)); (try (replace HX1 := Lib.hid (blk_keep HX1.out hb); replace hc1 := box_cells HX1.out; replace hf1 := box_free HX1.out; replace hz1 := lt_blk HX1.out)); (try (replace HX9 := Lib.hid (blk_keep HX9.out hb); replace hc9 := box_cells HX9.out; replace hf9 := box_free HX9.out; replace hz9 := lt_blk HX9.out)); (try (replace HX10 := Lib.hid (blk_keep HX10.out hb); replace hc10 := box_cells HX10.out; replace hf10 := box_free HX10.out; replace hz10 := lt_blk HX10.out)); clear hb) | (go_at_call 51; refine (HAt.out _ HB.out).mono ?_; rintro e w3 ⟨rfl, rfl⟩))
    go_ret2
    exact ⟨none, 0, [], rfl, SlOk.nil, ⟨SlAt.nil _ _ _, (fun m hm => by cases hm), fun m hm => by cases hm⟩, rfl, HB.out⟩
  obtain ⟨af, rfl⟩ := Int.eq_ofNat_of_zero_le (show 0 ≤ after by omega)
  rw [show cuesR s part (af : Int) = (cuesL s s.parts[i] af, 0) by simp [cuesR, hv, e2, hin]]
  rw [e1] at HAt
  have HEn := Lib.hid (fun (m : Nat) (hm : m < s.bars.length) W (hb : Below w.heap.size w W) => REntry_any s ⟨ab, cb, ap, cp, an, cn⟩ s.parts[i] m af W hf (oct_ok hv (List.getElem_mem hi)) (hs.below hb) hm (by omega))
  have HCu := Lib.hid (fun (m : Nat) (hm : m < s.bars.length) W (hb : Below w.heap.size w W) => RCue_any s ⟨ab, cb, ap, cp, an, cn⟩ s.parts[i] m W hf hv (List.getElem_mem hi) (hs.below hb) hm)
  have HPa := Lib.hid (fun W (hb : Below w.heap.size w W) => hs.parts.below hb)
  have HSu := Lib.hid (cuesK_succ s s.parts[i] af)
  have HEi := Lib.hid (fun m (h : entryB (busyL s s.parts[i]) af m = true) => (entry_iff (by omega) h).2.1)
  have hnb := hf.bars
  rw [← cuesK_all]
  have HK0 := Lib.hid (show cuesK s s.parts[i] af 0 = [] from rfl)
  have hil : (i : Int) < (s.parts.length : Int) := by omega
  (try clear e3 e4); clear hv hs hf e1 e2 hin
  obtain ⟨b, off, hqa, _⟩ := (HPa.out w (Below.refl _ _)).get i hi
  have HGt := Lib.hid (fun W hb => (HPa.out W hb).get i hi)
  subst hqa
  generalize s.parts[i] = p at *
  go_enter Tryz.func16, Tryz.ntmps16
  go_upto_region 1 with (fail)
  generalize w.alloc (.cells #[.int .i64 s.version, .slice (⟨ab, cb, some ⟨b, off, none⟩, cp, an, cn⟩ : Sp).ab s.bars.length (⟨ab, cb, some ⟨b, off, none⟩, cp, an, cn⟩ : Sp).cb, .slice (⟨ab, cb, some ⟨b, off, none⟩, cp, an, cn⟩ : Sp).ap s.parts.length (⟨ab, cb, some ⟨b, off, none⟩, cp, an, cn⟩ : Sp).cp, .slice (⟨ab, cb, some ⟨b, off, none⟩, cp, an, cn⟩ : Sp).an s.notes.length (⟨ab, cb, some ⟨b, off, none⟩, cp, an, cn⟩ : Sp).cn] 26) = W at *
  have hc1 := box_cells HX1.out
  go_upto_region 8 with (first | (go_at_call 32; refine (HC.out _ HB.out).mono ?_; rintro e w2 ⟨rfl, hb⟩; (try replace hb := drewB hb); replace HB := Lib.hid (HB.out.trans (hb.mono HB.out.size)); (try (replace HX1 := Lib.hid (blk_keep HX1.out hb); replace hc1 := box_cells HX1.out; replace hf1 := box_free HX1.out; replace hz1 := lt_blk HX1.out)); (try (replace HX9 := Lib.hid (blk_keep HX9.out hb); replace hc9 := box_cells HX9.out; replace hf9 := box_free HX9.out; replace hz9 := lt_blk HX9.out)); (try (replace HX10 := Lib.hid (blk_keep HX10.out hb); replace hc10 := box_cells HX10.out; replace hf10 := box_free HX10.out; replace hz10 := lt_blk HX10.out)); clear hb) | (go_at_call 51; refine (HAt.out _ HB.out).mono ?_; rintro e w3 ⟨rfl, rfl⟩))
  have HB0 := Lib.hid HB.out
  clear HB HC HAt HPa HS
  go_wp2
  clear hc1 hf1 hz1
  go_loopw [10, 11] (fun s10 s11 wi => ∃ (m : Nat) (cs : List Cu), m ≤ s.bars.length ∧ s11 = .int .i64 m ∧ Hid (cs.map Cu.says = cuesK s p af m) ∧ cs.length ≤ m ∧ OwnR wi w2.heap.size 29 3 s10 (cs.map Cu.cells) ∧ OwnCs wi w2.heap.size cs ∧ Below w2.heap.size w2 wi) (fun _ s11 _ => s.bars.length - (intOf s11).toNat)
  case atStart => exact ⟨0, [], Nat.zero_le _, rfl, Lib.hid HK0.out.symm, Nat.le_refl _, OwnR.nil _ _ _ _, (fun m hm => by cases hm), Below.refl _ _⟩
  case round =>
    obtain ⟨m, cs, hm, rfl, hcs, hcl, ho, hoc, hb⟩ := hrel
    have HO := Lib.hid ho; have HOc := Lib.hid hoc; have HBe := Lib.hid hb
    clear ho hoc hb
    have HBw := Lib.hid (HB0.out.trans (HBe.out.mono HB0.out.size))
    have hc1 := box_cells (blk_keep HX1.out HBe.out)
    by_cases hlt : m < s.bars.length
    · obtain ⟨b', off', hqa, _, e0, e1, e2, e3, e4, e5, e6, e7, e8, e9, e10, e11, e12⟩ := HGt.out _ HBw.out
      cases hqa
      have HEm := Lib.hid (HEn.out m hlt); have HSm := Lib.hid (HSu.out m); have HEj := Lib.hid (HEi.out m)
      have hml : (m : Int) < (s.bars.length : Int) := by omega
      have HCm := Lib.hid (HCu.out (m - 1) (by omega))
      have KS := Lib.hid (fun W (hb : RowKit.Below wr.heap.size wr W) => show W.cell? ⟨w.heap.size, 0, none⟩ = some (.int .i64 s.version) ∧ W.cell? ⟨w.heap.size, 1, none⟩ = some (.slice ab s.bars.length cb) ∧ W.cell? ⟨w.heap.size, 2, none⟩ = some (.slice (some ⟨b, off, none⟩) s.parts.length cp) ∧ W.cell? ⟨w.heap.size, 3, none⟩ = some (.slice an s.notes.length cn) ∧ W.cell? ⟨b, off + i * 13, none⟩ = some (.int .i64 p.id) ∧ W.cell? ⟨b, off + i * 13 + 1, none⟩ = some (.int .i64 p.section_) ∧ W.cell? ⟨b, off + i * 13 + 2, none⟩ = some (.int .i64 p.of) ∧ W.cell? ⟨b, off + i * 13 + 3, none⟩ = some (.int .i64 p.octave) ∧ W.cell? ⟨b, off + i * 13 + 4, none⟩ = some (.int .i64 p.desks) ∧ W.cell? ⟨b, off + i * 13 + 5, none⟩ = some (.int .i64 p.shift.x) ∧ W.cell? ⟨b, off + i * 13 + 6, none⟩ = some (.int .i64 p.shift.y) ∧ W.cell? ⟨b, off + i * 13 + 7, none⟩ = some (.int .i64 p.low.s) ∧ W.cell? ⟨b, off + i * 13 + 8, none⟩ = some (.int .i64 p.low.a) ∧ W.cell? ⟨b, off + i * 13 + 9, none⟩ = some (.int .i64 p.low.o) ∧ W.cell? ⟨b, off + i * 13 + 10, none⟩ = some (.int .i64 p.high.s) ∧ W.cell? ⟨b, off + i * 13 + 11, none⟩ = some (.int .i64 p.high.a) ∧ W.cell? ⟨b, off + i * 13 + 12, none⟩ = some (.int .i64 p.high.o) from ⟨keepE (hc1 0) hb, keepE (hc1 1) hb, keepE (hc1 2) hb, keepE (hc1 3) hb, keepE e0 hb, keepE e1 hb, keepE e2 hb, keepE e3 hb, keepE e4 hb, keepE e5 hb, keepE e6 hb, keepE e7 hb, keepE e8 hb, keepE e9 hb, keepE e10 hb, keepE e11 hb, keepE e12 hb⟩)
      have g0 := cell_regrown e0; have g1 := cell_regrown e1; have g2 := cell_regrown e2; have g3 := cell_regrown e3; have g4 := cell_regrown e4; have g5 := cell_regrown e5; have g6 := cell_regrown e6; have g7 := cell_regrown e7; have g8 := cell_regrown e8; have g9 := cell_regrown e9; have g10 := cell_regrown e10; have g11 := cell_regrown e11; have g12 := cell_regrown e12; have k0 := cell_regrown (hc1 0); have k1 := cell_regrown (hc1 1); have k2 := cell_regrown (hc1 2); have k3 := cell_regrown (hc1 3)
      cases hen : entryB (busyL s p) af m
      · rw [hen] at HEm HSm
        simp only [Bool.false_eq_true, if_false, Option.toList_none, List.append_nil] at HSm
        clear hen
        go_upto_region 11 with (fail)
        refine wp_quietB (by kernel_rfl) (by kernel_rfl) ?_
        (repeat (go_big_quiet_step ((go_at_call 52; refine Calls.regrown_of (HEm.out _ (HBw.out.trans ((below_regrown _ _ _).mono HBw.out.size)))))))
        refine wpQuiet_nil ?_
        intro w9 hb9
        go_wp2
        exact ⟨⟨m + 1, cs, by omega, by go_num, Lib.hid (hcs.out.trans HSm.out.symm), by omega, HO.out.below hb9, HOc.out.below hb9, HBe.out.trans (hb9.mono HBe.out.size)⟩, by simp [intOf]; omega⟩
      · rw [hen] at HEm HSm
        simp only [if_true] at HSm
        have hm1 := HEj.out hen
        have hsub : ((m : Int) - 1) = ((m - 1 : Nat) : Int) := by omega
        clear hen
        go_upto_region 11 with (fail)
        refine wp_quietB (by kernel_rfl) (by kernel_rfl) ?_
        (repeat (go_big_quiet_step ((go_at_call 52; refine Calls.regrown_of (HEm.out _ (HBw.out.trans ((below_regrown _ _ _).mono HBw.out.size)))))))
        refine wpQuiet_nil ?_
        intro w9 hb9
        clear g0 g1 g2 g3 g4 g5 g6 g7 g8 g9 g10 g11 g12 k0 k1 k2 k3 e0 e1 e2 e3 e4 e5 e6 e7 e8 e9 e10 e11 e12 hc1
        have KS9 := Lib.hid (fun W (hb : RowKit.Below w9.heap.size w9 W) => KS.out W (hb9.trans (hb.mono hb9.size)))
        have HO9 := Lib.hid (HO.out.below hb9); have HOc9 := Lib.hid (HOc.out.below hb9); have HBe9 := Lib.hid (HBe.out.trans (hb9.mono HBe.out.size)); have HBw9 := Lib.hid (HBw.out.trans (hb9.mono HBw.out.size))
        clear hb9 HO HOc HBe HBw KS HEm HEj
        have hwm : IntKind.i64.wrap ((m - 1 : Nat) : Int) = ((m - 1 : Nat) : Int) := IntWalk.i64_in _ (by omega)
        cases hco : cueO s p (m - 1) with
        | none =>
          rw [hco] at HCm HSm
          simp only [Option.toList_none, List.append_nil] at HSm
          have HCn := Lib.hid (fun W (hb : Below w.heap.size w W) => (HCm.out W hb).mono (R' := fun e w' => e = .returned (.tuple #[.agg #[.int .i64 0, .int .i64 0, .slice none 0 0], .bool false]) ∧ Below W.heap.size W w') (fun e w' h => by
            rcases h with ⟨_, h1, h2⟩ | ⟨c, h, _⟩
            · exact ⟨h1, h2⟩
            · cases h))
          clear hco HCm
          go_upto_region 13 with (fail)
          go_region_held3 (fun W => W.cell? ⟨w.heap.size, 0, none⟩ = some (.int .i64 s.version) ∧ W.cell? ⟨w.heap.size, 1, none⟩ = some (.slice ab s.bars.length cb) ∧ W.cell? ⟨w.heap.size, 2, none⟩ = some (.slice (some ⟨b, off, none⟩) s.parts.length cp) ∧ W.cell? ⟨w.heap.size, 3, none⟩ = some (.slice an s.notes.length cn) ∧ W.cell? ⟨b, off + i * 13, none⟩ = some (.int .i64 p.id) ∧ W.cell? ⟨b, off + i * 13 + 1, none⟩ = some (.int .i64 p.section_) ∧ W.cell? ⟨b, off + i * 13 + 2, none⟩ = some (.int .i64 p.of) ∧ W.cell? ⟨b, off + i * 13 + 3, none⟩ = some (.int .i64 p.octave) ∧ W.cell? ⟨b, off + i * 13 + 4, none⟩ = some (.int .i64 p.desks) ∧ W.cell? ⟨b, off + i * 13 + 5, none⟩ = some (.int .i64 p.shift.x) ∧ W.cell? ⟨b, off + i * 13 + 6, none⟩ = some (.int .i64 p.shift.y) ∧ W.cell? ⟨b, off + i * 13 + 7, none⟩ = some (.int .i64 p.low.s) ∧ W.cell? ⟨b, off + i * 13 + 8, none⟩ = some (.int .i64 p.low.a) ∧ W.cell? ⟨b, off + i * 13 + 9, none⟩ = some (.int .i64 p.low.o) ∧ W.cell? ⟨b, off + i * 13 + 10, none⟩ = some (.int .i64 p.high.s) ∧ W.cell? ⟨b, off + i * 13 + 11, none⟩ = some (.int .i64 p.high.a) ∧ W.cell? ⟨b, off + i * 13 + 12, none⟩ = some (.int .i64 p.high.o))
            (first | (refine KS9.out _ ?_; (repeat (first | with_reducible exact HBr.out | with_reducible exact RowKit.Below.refl _ _ | with_reducible refine RowKit.Below.drew ?_ | with_reducible refine RowKit.Below.alloc ?_ (by first | omega | (simp; done) | (have := HBr.out.size; simp <;> omega)) _ | with_reducible refine RowKit.Below.setCell ?_ (by first | omega | (simp; done)) _)); done))
            ((go_at_call 53; refine (HCn.out _ (HBw9.out.trans (RowKit.Below.mono (show RowKit.Below w9.heap.size w9 _ from by (repeat (first | with_reducible exact RowKit.Below.refl _ _ | with_reducible refine RowKit.Below.drew ?_ | with_reducible refine RowKit.Below.alloc ?_ (by first | omega | (simp; done) | (simp; omega)) _)); done) HBw9.out.size))).mono ?_; rintro e w10 ⟨rfl, hb⟩; (try replace hb := drewB hb); (first | (have x0 := box_below hb; have HX9 := Lib.hid x0; have hc9 := box_cells x0; have hf9 := box_free x0; have hz9 := lt_blk x0; clear x0; replace hb := allocB hb) | skip); (try replace hb := drewB hb); have HBr := Lib.hid hb; clear hb))
          · go_wp2
            exact ⟨⟨m + 1, cs, by omega, by go_num, Lib.hid (hcs.out.trans HSm.out.symm), by omega, (HO9.out.below HBr.out).below (below_box _), (HOc9.out.below HBr.out).below (below_box _), HBe9.out.trans ((HBr.out.alloc HBr.out.size _).mono HBe9.out.size)⟩, by simp [intOf]; omega⟩
          · go_wp2
            exact ⟨⟨m + 1, cs, by omega, by go_num, Lib.hid (hcs.out.trans HSm.out.symm), by omega, HO9.out.below (set3_below HBr.out (Nat.le_refl _)), HOc9.out.below (set3_below HBr.out (Nat.le_refl _)), HBe9.out.trans ((set3_below HBr.out (Nat.le_refl _)).mono HBe9.out.size)⟩, by simp [intOf]; omega⟩
        | some c0 =>
          rw [hco] at HCm HSm
          simp only [Option.toList_some] at HSm
          have HCs := Lib.hid (fun W (hb : Below w.heap.size w W) => (HCm.out W hb).mono (R' := fun e w' => ∃ c : Cu, c.says = c0 ∧ e = .returned (.tuple #[.agg #[.int .i64 c.measure, .int .i64 c.part, .slice c.na c.notes.length c.ncap], .bool true]) ∧ OwnR w' W.heap.size 68 10 (.slice c.na c.notes.length c.ncap) (c.notes.map Wr.cells) ∧ Below W.heap.size W w') (fun e w' h => by
            rcases h with ⟨h, _⟩ | ⟨c, h, h1, h2, h3⟩
            · cases h
            · exact ⟨c, (Option.some.inj h).symm, h1, h2, h3⟩))
          clear hco HCm
          go_upto_region 13 with (fail)
          go_cut [13, 14] from 33 to 67 (fun s13 s14 W => ∃ (xb : Nat) (c : Cu), s13 = .pointer (some ⟨xb, 0, none⟩) ∧ s14 = .bool true ∧ Hid (c.says = c0) ∧ W.heap[xb]? = some (.cells #[.int .i64 c.measure, .int .i64 c.part, .slice c.na c.notes.length c.ncap] 29) ∧ OwnR W w9.heap.size 68 10 (.slice c.na c.notes.length c.ncap) (c.notes.map Wr.cells) ∧ Below w9.heap.size w9 W)
          case first =>
            go_region_held3 (fun W => W.cell? ⟨w.heap.size, 0, none⟩ = some (.int .i64 s.version) ∧ W.cell? ⟨w.heap.size, 1, none⟩ = some (.slice ab s.bars.length cb) ∧ W.cell? ⟨w.heap.size, 2, none⟩ = some (.slice (some ⟨b, off, none⟩) s.parts.length cp) ∧ W.cell? ⟨w.heap.size, 3, none⟩ = some (.slice an s.notes.length cn) ∧ W.cell? ⟨b, off + i * 13, none⟩ = some (.int .i64 p.id) ∧ W.cell? ⟨b, off + i * 13 + 1, none⟩ = some (.int .i64 p.section_) ∧ W.cell? ⟨b, off + i * 13 + 2, none⟩ = some (.int .i64 p.of) ∧ W.cell? ⟨b, off + i * 13 + 3, none⟩ = some (.int .i64 p.octave) ∧ W.cell? ⟨b, off + i * 13 + 4, none⟩ = some (.int .i64 p.desks) ∧ W.cell? ⟨b, off + i * 13 + 5, none⟩ = some (.int .i64 p.shift.x) ∧ W.cell? ⟨b, off + i * 13 + 6, none⟩ = some (.int .i64 p.shift.y) ∧ W.cell? ⟨b, off + i * 13 + 7, none⟩ = some (.int .i64 p.low.s) ∧ W.cell? ⟨b, off + i * 13 + 8, none⟩ = some (.int .i64 p.low.a) ∧ W.cell? ⟨b, off + i * 13 + 9, none⟩ = some (.int .i64 p.low.o) ∧ W.cell? ⟨b, off + i * 13 + 10, none⟩ = some (.int .i64 p.high.s) ∧ W.cell? ⟨b, off + i * 13 + 11, none⟩ = some (.int .i64 p.high.a) ∧ W.cell? ⟨b, off + i * 13 + 12, none⟩ = some (.int .i64 p.high.o))
              (first | (refine KS9.out _ ?_; (repeat (first | with_reducible exact HBr.out | with_reducible exact RowKit.Below.refl _ _ | with_reducible refine RowKit.Below.drew ?_ | with_reducible refine RowKit.Below.alloc ?_ (by first | omega | (simp; done) | (have := HBr.out.size; simp <;> omega)) _ | with_reducible refine RowKit.Below.setCell ?_ (by first | omega | (simp; done)) _)); done))
              ((go_at_call 53; refine (HCs.out _ (HBw9.out.trans (RowKit.Below.mono (show RowKit.Below w9.heap.size w9 _ from by (repeat (first | with_reducible exact RowKit.Below.refl _ _ | with_reducible refine RowKit.Below.drew ?_ | with_reducible refine RowKit.Below.alloc ?_ (by first | omega | (simp; done) | (simp; omega)) _)); done) HBw9.out.size))).mono ?_; rintro e w10 ⟨c, hcy, rfl, hoc, hb⟩; have HOn := Lib.hid (hoc.mono (show w9.heap.size ≤ _ by simp)); have HCy := Lib.hid hcy; clear hoc hcy; (try replace hb := drewB hb); (first | (have x0 := box_below hb; have HX9 := Lib.hid x0; have hc9 := box_cells x0; have hf9 := box_free x0; have hz9 := lt_blk x0; clear x0; replace hb := allocB hb) | skip); (try replace hb := drewB hb); have HBr := Lib.hid hb; clear hb))
            · go_wp2
              go_meet
              case rel => exact ⟨_, c, rfl, rfl, HCy, heap_alloc_new _ _, HOn.out.below (below_box _), HBr.out.alloc HBr.out.size _⟩
            · go_wp2
              go_meet
              case rel => exact ⟨_, c, rfl, rfl, HCy, set3c HX9.out, ((HOn.out.setFar (fun i hi => own_ne HOn.out hi HX9.out (by decide)) _).setFar (fun i hi => own_ne HOn.out hi HX9.out (by decide)) _).setFar (fun i hi => own_ne HOn.out hi HX9.out (by decide)) _, set3_below HBr.out (Nat.le_refl _)⟩
          case rest =>
            obtain ⟨xb, c, rfl, rfl, hcy, hxb, hon, hbc⟩ := hcut
            have HOa := Lib.hid (HO9.out.below hbc); have HOb := Lib.hid (HOc9.out.below hbc); have HOn := Lib.hid (hon.mono HBe9.out.size); have HBx := Lib.hid (HBe9.out.trans (hbc.mono HBe9.out.size))
            have HXb := Lib.hid hxb
            clear hxb hon hbc HO9 HOc9 HBe9 HBw9 KS9
            have hcx := box_cells HXb.out
            go_wp2_with (at_builtin; go_must (refine appE eltCu rfl (.tmp 64) (.tmp 66) rfl w2.heap.size _ cs rfl (HOa.out.below (below_box _)) _ _ _ [c] rfl rfl (fun e => by cases e) (eltCu.new _ _ _ _ rfl) (by simp; omega) (by have := HBx.out.size; simp; omega) ?_); intro v5 w6 ho5 hg5)
            have HB3 := Lib.hid (below_grown (HBx.out.alloc HBx.out.size _) (HOa.out.below (below_box _)) (by have := HBx.out.size; simp; omega) hg5)
            have HO5 := Lib.hid ho5
            have HOf := Lib.hid ((OwnCs.below (HOb.out.snoc HOn.out) (below_box _)).kept (HOa.out.below (below_box _)) hg5)
            exact ⟨⟨m + 1, cs ++ [c], by omega, by go_num, Lib.hid (by rw [List.map_append, hcs.out, HSm.out, ← hcy.out]; rfl), by simp; omega, HO5.out, HOf.out, HB3.out⟩, by simp [intOf]; omega⟩
    · obtain rfl : m = s.bars.length := by omega
      obtain ⟨a9, c9, e9, hok9, hcu9⟩ := HOc.out.cuAt HO.out
      subst e9
      have HQ := Lib.hid (And.intro hok9 hcu9)
      clear hok9 hcu9
      go_wp2
      go_ret2
      exact ⟨_, _, cs, rfl, HQ.out.1, HQ.out.2, hcs.out, HBw.out⟩
end Go.Proofs.YtppjbnnnppffaaaGreatDoor


/- The reference of layer 17: Shows: walked. -/
namespace Go.Proofs.YtppjbnnnppffaaaGreatDoor
set_option linter.unusedSimpArgs false
set_option linter.unusedVariables false
open Go.RowKit Go.Sort Go.Shelf

set_option maxRecDepth 100000 in
set_option maxHeartbeats 4000000 in
theorem RShows_any (s : Sc) (q : Sp) (part : Int) (c : Cu) (w : World) (hf : ScFew s) (hs : ScAt w s q) (hc : c.notes.length ≤ 100000) (hw : WrAt w c.na c.notes) :
    Calls Tryz.prog 19 #[.agg #[.int .i64 s.version, .slice q.ab s.bars.length q.cb, .slice q.ap s.parts.length q.cp, .slice q.an s.notes.length q.cn], .int .i64 part, .agg #[.int .i64 c.measure, .int .i64 c.part, .slice c.na c.notes.length c.ncap]] w fun e w' => e = .returned (.tuple #[.bool (showsR s part c.says).1, .int .i64 (showsR s part c.says).2]) ∧ Below w.heap.size w w' := by
  obtain ⟨ab, cb, ap, cp, an, cn⟩ := q
  obtain ⟨x1, x2, hb⟩ := box2 (w := w) (A := .cells #[.int .i64 s.version, .slice (⟨ab, cb, ap, cp, an, cn⟩ : Sp).ab s.bars.length (⟨ab, cb, ap, cp, an, cn⟩ : Sp).cb, .slice (⟨ab, cb, ap, cp, an, cn⟩ : Sp).ap s.parts.length (⟨ab, cb, ap, cp, an, cn⟩ : Sp).cp, .slice (⟨ab, cb, ap, cp, an, cn⟩ : Sp).an s.notes.length (⟨ab, cb, ap, cp, an, cn⟩ : Sp).cn] 26) (B := .cells #[.int .i64 c.measure, .int .i64 c.part, .slice c.na c.notes.length c.ncap] 29) (Below.refl _ _)
  have HX1 := Lib.hid x1; have HX2 := Lib.hid x2; have HB := Lib.hid hb; clear x1 x2 hb
  have HC := Lib.hid (fun W (hb : Below w.heap.size w W) => RCues_any s (⟨ab, cb, ap, cp, an, cn⟩ : Sp) part 1 W hf (hs.below hb))
  have HFe := Lib.hid (fun (cs : List Cu) e => cuesR_few hf (part := part) (after := 1) (cs := cs) e)
  have HW := Lib.hid hw
  have HR := Lib.hid (show showsR s part c.says = (decide ((cuesR s part 1).2 = 0) && (cuesR s part 1).1.any fun x => decide (x = c.says), (cuesR s part 1).2) from rfl)
  clear hf hs hw
  dsimp only at *
  generalize cuesR s part 1 = R at *
  obtain ⟨l, er⟩ := R
  generalize showsR s part c.says = T at *
  obtain ⟨T1, T2⟩ := T
  dsimp only at *
  by_cases her : er = 0
  case neg =>
    have hd : (er != 0) = true := by simpa using her
    have HT := Lib.hid (show T1 = false ∧ T2 = er from by have := HR.out; simp [her] at this; exact this)
    clear her HR
    go_enter Tryz.func19, Tryz.ntmps19
    go_upto_region 1 with (fail)
    generalize (w.alloc (.cells #[.int .i64 s.version, .slice (⟨ab, cb, ap, cp, an, cn⟩ : Sp).ab s.bars.length (⟨ab, cb, ap, cp, an, cn⟩ : Sp).cb, .slice (⟨ab, cb, ap, cp, an, cn⟩ : Sp).ap s.parts.length (⟨ab, cb, ap, cp, an, cn⟩ : Sp).cp, .slice (⟨ab, cb, ap, cp, an, cn⟩ : Sp).an s.notes.length (⟨ab, cb, ap, cp, an, cn⟩ : Sp).cn] 26)).alloc (.cells #[.int .i64 c.measure, .int .i64 c.part, .slice c.na c.notes.length c.ncap] 29) = W at *
    have hc1 := box_cells HX1.out; have hc2 := box_cells HX2.out
    go_wp2_with (go_at_call 16; refine (HC.out _ HB.out).mono ?_; rintro e w2 ⟨a2, c2, cs, rfl, hok, hcu, hsy, hb⟩; clear hok hcu hsy; (try replace hb := drewB hb); replace HB := Lib.hid (HB.out.trans (hb.mono HB.out.size)); (try (replace HX1 := Lib.hid (blk_keep HX1.out hb); replace hc1 := box_cells HX1.out; replace hf1 := box_free HX1.out; replace hz1 := lt_blk HX1.out)); (try (replace HX2 := Lib.hid (blk_keep HX2.out hb); replace hc2 := box_cells HX2.out; replace hf2 := box_free HX2.out; replace hz2 := lt_blk HX2.out)); (try (replace HX10 := Lib.hid (blk_keep HX10.out hb); replace hc10 := box_cells HX10.out; replace hf10 := box_free HX10.out; replace hz10 := lt_blk HX10.out)); clear hb)
    go_ret2
    refine ⟨?_, HB.out⟩
    rw [HT.out.1, HT.out.2]; rfl
  subst her
  have HT := Lib.hid (show T1 = (l.any fun x => decide (x = c.says)) ∧ T2 = 0 from by have := HR.out; simpa using this)
  clear HR
  go_enter Tryz.func19, Tryz.ntmps19
  go_upto_region 1 with (fail)
  generalize (w.alloc (.cells #[.int .i64 s.version, .slice (⟨ab, cb, ap, cp, an, cn⟩ : Sp).ab s.bars.length (⟨ab, cb, ap, cp, an, cn⟩ : Sp).cb, .slice (⟨ab, cb, ap, cp, an, cn⟩ : Sp).ap s.parts.length (⟨ab, cb, ap, cp, an, cn⟩ : Sp).cp, .slice (⟨ab, cb, ap, cp, an, cn⟩ : Sp).an s.notes.length (⟨ab, cb, ap, cp, an, cn⟩ : Sp).cn] 26)).alloc (.cells #[.int .i64 c.measure, .int .i64 c.part, .slice c.na c.notes.length c.ncap] 29) = W at *
  have hc1 := box_cells HX1.out; have hc2 := box_cells HX2.out
  go_upto_region 4 with (go_at_call 16; refine (HC.out _ HB.out).mono ?_; rintro e w2 ⟨a2, c2, cs, rfl, hok, hcu, hsy, hb⟩; have HCu := Lib.hid hcu; have HSy := Lib.hid hsy; clear hok hcu hsy; (try replace hb := drewB hb); replace HB := Lib.hid (HB.out.trans (hb.mono HB.out.size)); (try (replace HX1 := Lib.hid (blk_keep HX1.out hb); replace hc1 := box_cells HX1.out; replace hf1 := box_free HX1.out; replace hz1 := lt_blk HX1.out)); (try (replace HX2 := Lib.hid (blk_keep HX2.out hb); replace hc2 := box_cells HX2.out; replace hf2 := box_free HX2.out; replace hz2 := lt_blk HX2.out)); (try (replace HX10 := Lib.hid (blk_keep HX10.out hb); replace hc10 := box_cells HX10.out; replace hf10 := box_free HX10.out; replace hz10 := lt_blk HX10.out)); clear hb)
  have HHs := Lib.hid (show Calls Tryz.prog 20 #[.slice a2 cs.length c2, .agg #[.int .i64 c.measure, .int .i64 c.part, .slice c.na c.notes.length c.ncap]] w2 (fun e w' => e = .returned (.bool T1) ∧ Below w2.heap.size w2 w') from by
    obtain ⟨h1, h2⟩ := HFe.out cs HSy.out
    have := RHas17_any a2 c2 cs c w2 (by omega) (fun m hm => by have := h2 m hm; omega) hc HCu.out (HW.out.below HB.out)
    rw [show T1 = (cs.any fun y => decide (y.says = c.says)) by rw [HT.out.1, ← HSy.out, List.any_map]; rfl]
    exact this)
  go_wp2_with (go_at_call 20; refine HHs.out.mono ?_; rintro e w3 ⟨rfl, hb⟩; (try replace hb := drewB hb); replace HB := Lib.hid (HB.out.trans (hb.mono HB.out.size)); (try (replace HX1 := Lib.hid (blk_keep HX1.out hb); replace hc1 := box_cells HX1.out; replace hf1 := box_free HX1.out; replace hz1 := lt_blk HX1.out)); (try (replace HX2 := Lib.hid (blk_keep HX2.out hb); replace hc2 := box_cells HX2.out; replace hf2 := box_free HX2.out; replace hz2 := lt_blk HX2.out)); (try (replace HX10 := Lib.hid (blk_keep HX10.out hb); replace hc10 := box_cells HX10.out; replace hf10 := box_free HX10.out; replace hz10 := lt_blk HX10.out)); clear hb)
  go_ret2
  refine ⟨?_, HB.out⟩
  rw [HT.out.2]; rfl
end Go.Proofs.YtppjbnnnppffaaaGreatDoor
