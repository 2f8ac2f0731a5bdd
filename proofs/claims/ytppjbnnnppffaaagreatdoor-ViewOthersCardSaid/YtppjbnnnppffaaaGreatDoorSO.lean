/- Texts of this seat, laid together: ScL14a, ScL14b, ScL14c. -/
import Derived.Test.YtppjbnnnppffaaaGreatDoorSK
import Derived.Test.YtppjbnnnppffaaaGreatDoorSN
import Derived.Test.YtppjbnnnppffaaaGreatDoorSF

/- The laws of layer 14: the example: walked. -/
namespace Go.Proofs.YtppjbnnnppffaaaGreatDoor
set_option linter.unusedSimpArgs false
set_option linter.unusedVariables false
open Go.RowKit Go.Sort Go.Shelf

def exB : Ba := ⟨5, ⟨4, 1⟩, -2⟩
def exP : Pa := ⟨1, 0, 0, 0, 1, ⟨-1, -2⟩, ⟨0, 0, 3⟩, ⟨0, 0, 6⟩⟩
def exN : No := ⟨8, 1, 5, 0, 0, ⟨0, 1⟩, ⟨1, 1⟩, ⟨1, 0, 4⟩⟩
/-- The example's score. -/
def exS : Sc := ⟨1, [exB], [exP], [exN]⟩
def RetSc (s : Sc) (w : World) (e : Ending) (w' : World) : Prop := ∃ q : Sp, e = .returned (.agg #[.int .i64 s.version, .slice q.ab s.bars.length q.cb, .slice q.ap s.parts.length q.cp, .slice q.an s.notes.length q.cn]) ∧ ScAt w' s q ∧ Below w.heap.size w w'
set_option maxRecDepth 100000 in
set_option maxHeartbeats 4000000 in
theorem ex14_any (w : World) : Calls Tryz.prog 58 #[] w (RetSc exS w) := by
  go_enter Tryz.func58, Tryz.ntmps58
  go_wp2
  obtain ⟨o0, ho0⟩ : ∃ o0 : Obj, o0 = .cells #[.int .i64 1, .slice (some ⟨w.heap.size + 1 + 1 + 1 + 1, 0, none⟩) 1 1, .slice (some ⟨w.heap.size + 1 + 1 + 1 + 1 + 1, 0, none⟩) 1 1, .slice (some ⟨w.heap.size + 1 + 1 + 1 + 1 + 1 + 1, 0, none⟩) 1 1] 26 := ⟨_, rfl⟩
  rw [← ho0]
  obtain ⟨W4, h4⟩ : ∃ W4, W4 = (((w.alloc o0).alloc (.cells #[.int .i64 4, .int .i64 1] 63)).alloc (.cells #[.int .i64 exP.id, .int .i64 exP.section_, .int .i64 exP.of, .int .i64 exP.octave, .int .i64 exP.desks, .int .i64 exP.shift.x, .int .i64 exP.shift.y, .int .i64 exP.low.s, .int .i64 exP.low.a, .int .i64 exP.low.o, .int .i64 exP.high.s, .int .i64 exP.high.a, .int .i64 exP.high.o] 59)).alloc (.cells #[.int .i64 exN.id, .int .i64 exN.part, .int .i64 exN.bar, .int .i64 exN.voice, .int .i64 exN.ossia, .int .i64 exN.start.n, .int .i64 exN.start.d, .int .i64 exN.len.n, .int .i64 exN.len.d, .int .i64 exN.pitch.s, .int .i64 exN.pitch.a, .int .i64 exN.pitch.o] 73) := ⟨_, rfl⟩
  have hz : W4.heap.size = w.heap.size + 1 + 1 + 1 + 1 := by rw [h4]; simp
  have hb4 : Below w.heap.size w W4 := by rw [h4]; exact ((((Below.refl _ _).alloc (Nat.le_refl _) _).alloc (by simp) _).alloc (by simp; omega) _).alloc (by simp; omega) _
  have h0 : W4.heap[w.heap.size]? = some o0 := by rw [h4]; exact up_alloc (up_alloc (up_alloc (heap_alloc_new w _) _) _) _
  have h4' := h4
  simp only [exP, exN] at h4'
  rw [← h4']
  have hb := (((Below.refl W4.heap.size W4).alloc (Nat.le_refl _) (.cells #[.int .i64 exB.id, .int .i64 exB.len.n, .int .i64 exB.len.d, .int .i64 exB.key] 82)).alloc (by simp) (.cells #[.int .i64 exP.id, .int .i64 exP.section_, .int .i64 exP.of, .int .i64 exP.octave, .int .i64 exP.desks, .int .i64 exP.shift.x, .int .i64 exP.shift.y, .int .i64 exP.low.s, .int .i64 exP.low.a, .int .i64 exP.low.o, .int .i64 exP.high.s, .int .i64 exP.high.a, .int .i64 exP.high.o] 59)).alloc (by simp; omega) (.cells #[.int .i64 exN.id, .int .i64 exN.part, .int .i64 exN.bar, .int .i64 exN.voice, .int .i64 exN.ossia, .int .i64 exN.start.n, .int .i64 exN.start.d, .int .i64 exN.len.n, .int .i64 exN.len.d, .int .i64 exN.pitch.s, .int .i64 exN.pitch.a, .int .i64 exN.pitch.o] 73)
  have hB : BaAt (((W4.alloc (.cells #[.int .i64 exB.id, .int .i64 exB.len.n, .int .i64 exB.len.d, .int .i64 exB.key] 82)).alloc (.cells #[.int .i64 exP.id, .int .i64 exP.section_, .int .i64 exP.of, .int .i64 exP.octave, .int .i64 exP.desks, .int .i64 exP.shift.x, .int .i64 exP.shift.y, .int .i64 exP.low.s, .int .i64 exP.low.a, .int .i64 exP.low.o, .int .i64 exP.high.s, .int .i64 exP.high.a, .int .i64 exP.high.o] 59)).alloc (.cells #[.int .i64 exN.id, .int .i64 exN.part, .int .i64 exN.bar, .int .i64 exN.voice, .int .i64 exN.ossia, .int .i64 exN.start.n, .int .i64 exN.start.d, .int .i64 exN.len.n, .int .i64 exN.len.d, .int .i64 exN.pitch.s, .int .i64 exN.pitch.a, .int .i64 exN.pitch.o] 73)) (some ⟨w.heap.size + 1 + 1 + 1 + 1, 0, none⟩) [exB] := by
    have := SlAt.new W4 exB.cells 82 4 [exB.cells] (by simp [Ba.cells]) (by simp)
    rw [hz] at this
    exact SlAt.alloc (SlAt.alloc this _) _
  have hP : PaAt (((W4.alloc (.cells #[.int .i64 exB.id, .int .i64 exB.len.n, .int .i64 exB.len.d, .int .i64 exB.key] 82)).alloc (.cells #[.int .i64 exP.id, .int .i64 exP.section_, .int .i64 exP.of, .int .i64 exP.octave, .int .i64 exP.desks, .int .i64 exP.shift.x, .int .i64 exP.shift.y, .int .i64 exP.low.s, .int .i64 exP.low.a, .int .i64 exP.low.o, .int .i64 exP.high.s, .int .i64 exP.high.a, .int .i64 exP.high.o] 59)).alloc (.cells #[.int .i64 exN.id, .int .i64 exN.part, .int .i64 exN.bar, .int .i64 exN.voice, .int .i64 exN.ossia, .int .i64 exN.start.n, .int .i64 exN.start.d, .int .i64 exN.len.n, .int .i64 exN.len.d, .int .i64 exN.pitch.s, .int .i64 exN.pitch.a, .int .i64 exN.pitch.o] 73)) (some ⟨w.heap.size + 1 + 1 + 1 + 1 + 1, 0, none⟩) [exP] := by
    have := SlAt.new (W4.alloc (.cells #[.int .i64 exB.id, .int .i64 exB.len.n, .int .i64 exB.len.d, .int .i64 exB.key] 82)) exP.cells 59 13 [exP.cells] (by simp [Pa.cells]) (by simp)
    rw [World.size_alloc, hz] at this
    exact SlAt.alloc this _
  have hN : NoAt (((W4.alloc (.cells #[.int .i64 exB.id, .int .i64 exB.len.n, .int .i64 exB.len.d, .int .i64 exB.key] 82)).alloc (.cells #[.int .i64 exP.id, .int .i64 exP.section_, .int .i64 exP.of, .int .i64 exP.octave, .int .i64 exP.desks, .int .i64 exP.shift.x, .int .i64 exP.shift.y, .int .i64 exP.low.s, .int .i64 exP.low.a, .int .i64 exP.low.o, .int .i64 exP.high.s, .int .i64 exP.high.a, .int .i64 exP.high.o] 59)).alloc (.cells #[.int .i64 exN.id, .int .i64 exN.part, .int .i64 exN.bar, .int .i64 exN.voice, .int .i64 exN.ossia, .int .i64 exN.start.n, .int .i64 exN.start.d, .int .i64 exN.len.n, .int .i64 exN.len.d, .int .i64 exN.pitch.s, .int .i64 exN.pitch.a, .int .i64 exN.pitch.o] 73)) (some ⟨w.heap.size + 1 + 1 + 1 + 1 + 1 + 1, 0, none⟩) [exN] := by
    have := SlAt.new ((W4.alloc (.cells #[.int .i64 exB.id, .int .i64 exB.len.n, .int .i64 exB.len.d, .int .i64 exB.key] 82)).alloc (.cells #[.int .i64 exP.id, .int .i64 exP.section_, .int .i64 exP.of, .int .i64 exP.octave, .int .i64 exP.desks, .int .i64 exP.shift.x, .int .i64 exP.shift.y, .int .i64 exP.low.s, .int .i64 exP.low.a, .int .i64 exP.low.o, .int .i64 exP.high.s, .int .i64 exP.high.a, .int .i64 exP.high.o] 59)) exN.cells 73 12 [exN.cells] (by simp [No.cells]) (by simp)
    rw [World.size_alloc, World.size_alloc, hz] at this
    exact this
  have hx := blk_keep h0 hb
  have HBl := Lib.hid (hb4.trans (hb.mono hb4.size))
  have hw : ((W4.alloc (.cells #[.int .i64 exB.id, .int .i64 exB.len.n, .int .i64 exB.len.d, .int .i64 exB.key] 82)).alloc (.cells #[.int .i64 exP.id, .int .i64 exP.section_, .int .i64 exP.of, .int .i64 exP.octave, .int .i64 exP.desks, .int .i64 exP.shift.x, .int .i64 exP.shift.y, .int .i64 exP.low.s, .int .i64 exP.low.a, .int .i64 exP.low.o, .int .i64 exP.high.s, .int .i64 exP.high.a, .int .i64 exP.high.o] 59)).alloc (.cells #[.int .i64 exN.id, .int .i64 exN.part, .int .i64 exN.bar, .int .i64 exN.voice, .int .i64 exN.ossia, .int .i64 exN.start.n, .int .i64 exN.start.d, .int .i64 exN.len.n, .int .i64 exN.len.d, .int .i64 exN.pitch.s, .int .i64 exN.pitch.a, .int .i64 exN.pitch.o] 73) = ((W4.alloc (.cells #[.int .i64 exB.id, .int .i64 exB.len.n, .int .i64 exB.len.d, .int .i64 exB.key] 82)).alloc (.cells #[.int .i64 exP.id, .int .i64 exP.section_, .int .i64 exP.of, .int .i64 exP.octave, .int .i64 exP.desks, .int .i64 exP.shift.x, .int .i64 exP.shift.y, .int .i64 exP.low.s, .int .i64 exP.low.a, .int .i64 exP.low.o, .int .i64 exP.high.s, .int .i64 exP.high.a, .int .i64 exP.high.o] 59)).alloc (.cells #[.int .i64 exN.id, .int .i64 exN.part, .int .i64 exN.bar, .int .i64 exN.voice, .int .i64 exN.ossia, .int .i64 exN.start.n, .int .i64 exN.start.d, .int .i64 exN.len.n, .int .i64 exN.len.d, .int .i64 exN.pitch.s, .int .i64 exN.pitch.a, .int .i64 exN.pitch.o] 73) := rfl
  simp only [exB, exP, exN] at hB hP hN hx HBl
  clear hb hw h4 h4' hz hb4 h0
  generalize ((W4.alloc _).alloc _).alloc _ = W7 at *
  rw [ho0] at hx
  have hc := box_cells hx; have hf := box_free hx
  have hok : ∀ b : Nat, SlOk (some ⟨b, 0, none⟩) 1 1 := fun b => ⟨Nat.le_refl _, (fun e => by cases e), (fun ad e => by cases e; rfl)⟩
  exact bodyPost_ret (v := .agg #[.int .i64 1, .slice (some ⟨w.heap.size + 1 + 1 + 1 + 1, 0, none⟩) 1 1, .slice (some ⟨w.heap.size + 1 + 1 + 1 + 1 + 1, 0, none⟩) 1 1, .slice (some ⟨w.heap.size + 1 + 1 + 1 + 1 + 1 + 1, 0, none⟩) 1 1]) (by simp [results, Tryz.results58, go_sem, hc, hf]) rfl ⟨⟨some ⟨w.heap.size + 1 + 1 + 1 + 1, 0, none⟩, 1, some ⟨w.heap.size + 1 + 1 + 1 + 1 + 1, 0, none⟩, 1, some ⟨w.heap.size + 1 + 1 + 1 + 1 + 1 + 1, 0, none⟩, 1⟩, rfl, ⟨hB, hP, hN, hok _, hok _, hok _⟩, HBl.out⟩
end Go.Proofs.YtppjbnnnppffaaaGreatDoor


/- The laws of layer 14: their head: walked. -/
namespace Go.Proofs.YtppjbnnnppffaaaGreatDoor
set_option linter.unusedSimpArgs false
set_option linter.unusedVariables false
open Go.RowKit Go.Sort Go.Shelf

def exW : Wr := ⟨8, 0, 0, ⟨0, 1⟩, ⟨1, 1⟩, ⟨2, 0, 4⟩⟩
def exV : List MeP := [⟨5, 0, ⟨4, 1⟩, [exW]⟩]
theorem ex_get1 : getR exS 1 = (1, exV, 0) := by decide +kernel
theorem ex_get2 : getR exS 2 = (0, [], 22) := by decide +kernel
theorem ex_get0 : getR ⟨0, [], [], []⟩ 1 = (0, [], 1) := by decide +kernel
theorem ex_snd1 : soundsR exS 1 exV = ([exN], 0) := by decide +kernel
theorem ex_snd2 : soundsR exS 2 exV = ([], 1) := by decide +kernel
theorem ex_val1 : validV exS 1 exV = true := by decide +kernel
theorem ex_val2 : validV exS 2 exV = false := by decide +kernel
theorem eql_pc (x y z x' y' z' : Int) (w : World) : (binOp .eql 57 (.agg #[.int .i64 x, .int .i64 y, .int .i64 z]) (.agg #[.int .i64 x', .int .i64 y', .int .i64 z'])).run Tryz.prog w = .ok (.bool (x == x' && (y == y' && z == z'))) w := by
  rw [run_eql_struct]
  simp [go_sem]
  by_cases h0 : x = x'
  · simp [h0]
    by_cases h1 : y = y'
    · simp [h1]; by_cases h2 : z = z' <;> simp [h2]
    · simp [h1]
  · simp [h0]
/-- The example's measures as they lie in memory. -/
theorem exV_at {W : World} {a : Option Addr} {ms : List Me} (h : MeAt W a ms) (e : ms.map Me.says = exV) : ∃ b off nb noff nc, ms = [⟨5, 0, ⟨4, 1⟩, some ⟨nb, noff, none⟩, nc, [exW]⟩] ∧ a = some ⟨b, off, none⟩ := by
  obtain ⟨M, rfl⟩ : ∃ M, ms = [M] := by
    match ms, e with
    | [M], _ => exact ⟨M, rfl⟩
    | [], e => cases e
    | _ :: _ :: _, e => simp [exV] at e
  have hM : M.says = ⟨5, 0, ⟨4, 1⟩, [exW]⟩ := by simpa [exV] using e
  obtain ⟨b, off, ea, _⟩ := h.get 0 (by simp)
  obtain ⟨m1, m2, m3, m4, m5, m6⟩ := M
  simp only [Me.says, MeP.mk.injEq] at hM
  obtain ⟨rfl, rfl, rfl, rfl⟩ := hM
  have hn := h.notes _ (List.mem_singleton.2 rfl)
  obtain ⟨nb, noff, en, _⟩ := WrAt.get hn 0 (by simp)
  simp only at en
  subst en
  exact ⟨b, off, nb, noff, m5, rfl, ea⟩
set_option maxRecDepth 100000 in
set_option maxHeartbeats 8000000 in
theorem head14_any (w : World) (hE : Env w) : Calls Tryz.prog 21 #[] w fun e w' => e = .returned (.bool true) ∧ Below w.heap.size w w' := by
  have HE := Lib.hid hE; clear hE
  have HB := Lib.hid (Below.refl w.heap.size w)
  have hff : ScFew exS := ⟨by decide, by decide, by decide⟩
  go_enter Tryz.func21, Tryz.ntmps21
  go_upto_region 2 with (go_at_call 58; refine (ex14_any _).mono ?_; rintro e w1 ⟨⟨ab, cb, ap, cp, an, cn⟩, rfl, hsc, hb⟩; have HS := Lib.hid hsc; replace HB := Lib.hid (HB.out.trans hb); clear hsc hb)
  have hs1 := HB.out.size
  have HX1 := Lib.hid (show (w1.alloc (.cells #[.int .i64 1, .slice ab 1 cb, .slice ap 1 cp, .slice an 1 cn] 26)).heap[w1.heap.size]? = some (.cells #[.int .i64 1, .slice ab 1 cb, .slice ap 1 cp, .slice an 1 cn] 26) from heap_alloc_new w1 _)
  have hb := (Below.refl w1.heap.size w1).alloc (Nat.le_refl _) (.cells #[.int .i64 1, .slice ab 1 cb, .slice ap 1 cp, .slice an 1 cn] 26)
  replace HS := Lib.hid (HS.out.below hb)
  replace HB := Lib.hid (HB.out.trans (hb.mono HB.out.size))
  rw [show (.cells #[.int .i64 exS.version, .slice (⟨ab, cb, ap, cp, an, cn⟩ : Sp).ab exS.bars.length (⟨ab, cb, ap, cp, an, cn⟩ : Sp).cb, .slice (⟨ab, cb, ap, cp, an, cn⟩ : Sp).ap exS.parts.length (⟨ab, cb, ap, cp, an, cn⟩ : Sp).cp, .slice (⟨ab, cb, ap, cp, an, cn⟩ : Sp).an exS.notes.length (⟨ab, cb, ap, cp, an, cn⟩ : Sp).cn] 26 : Obj) = .cells #[.int .i64 1, .slice ab 1 cb, .slice ap 1 cp, .slice an 1 cn] 26 from rfl]
  clear hb
  generalize w1.alloc (.cells #[.int .i64 1, .slice ab 1 cb, .slice ap 1 cp, .slice an 1 cn] 26) = W1 at *
  obtain ⟨b1, hb1⟩ : ∃ b, b = w1.heap.size := ⟨_, rfl⟩
  rw [← hb1] at HX1 ⊢
  have HB1 := Lib.hid (show w.heap.size ≤ b1 by omega)
  clear hb1 hs1
  have HG1 := Lib.hid (fun W (hb : Below W1.heap.size W1 W) => show Calls Tryz.prog 24 #[.agg #[.int .i64 1, .slice ab 1 cb, .slice ap 1 cp, .slice an 1 cn], .int .i64 1] W (RetVE 1 exV 0 W) from by have := VGet_any exS ⟨ab, cb, ap, cp, an, cn⟩ 1 W hff (HS.out.below hb) (HE.out.below (HB.out.trans (hb.mono HB.out.size))); rwa [ex_get1] at this)
  have HG2 := Lib.hid (fun W (hb : Below W1.heap.size W1 W) => show Calls Tryz.prog 24 #[.agg #[.int .i64 1, .slice ab 1 cb, .slice ap 1 cp, .slice an 1 cn], .int .i64 2] W (RetVE 0 [] 22 W) from by have := VGet_any exS ⟨ab, cb, ap, cp, an, cn⟩ 2 W hff (HS.out.below hb) (HE.out.below (HB.out.trans (hb.mono HB.out.size))); rwa [ex_get2] at this)
  have HG0 := Lib.hid (fun W (hb : Below W1.heap.size W1 W) => show Calls Tryz.prog 24 #[.agg #[.int .i64 0, .slice none 0 0, .slice none 0 0, .slice none 0 0], .int .i64 1] W (RetVE 0 [] 1 W) from by have := VGet_any ⟨0, [], [], []⟩ ⟨none, 0, none, 0, none, 0⟩ 1 W ⟨by decide, by decide, by decide⟩ ⟨SlAt.nil _ _ _, SlAt.nil _ _ _, SlAt.nil _ _ _, SlOk.nil, SlOk.nil, SlOk.nil⟩ (HE.out.below (HB.out.trans (hb.mono HB.out.size))); rwa [ex_get0] at this)
  have HSn := Lib.hid (fun part a cap ms W (hb : Below W1.heap.size W1 W) (hm : MeAt W a ms) (hl : ms.length ≤ 1000) (hn : ∀ m ∈ ms, m.notes.length ≤ 1000) => show Calls Tryz.prog 29 #[.agg #[.int .i64 1, .slice ab 1 cb, .slice ap 1 cp, .slice an 1 cn], .agg #[.int .i64 part, .slice a ms.length cap]] W _ from VSounds_any exS ⟨ab, cb, ap, cp, an, cn⟩ part a cap ms W hff (HS.out.below hb) (HE.out.below (HB.out.trans (hb.mono HB.out.size))) hl hn hm)
  have HVl := Lib.hid (fun part a cap ms W (hb : Below W1.heap.size W1 W) (hm : MeAt W a ms) (hl : ms.length ≤ 1000) (hn : ∀ m ∈ ms, m.notes.length ≤ 1000) => show Calls Tryz.prog 27 #[.agg #[.int .i64 1, .slice ab 1 cb, .slice ap 1 cp, .slice an 1 cn], .agg #[.int .i64 part, .slice a ms.length cap]] W _ from VValid_any exS ⟨ab, cb, ap, cp, an, cn⟩ part a cap ms W hff (HS.out.below hb) (HE.out.below (HB.out.trans (hb.mono HB.out.size))) hl hn hm)
  have HBw := Lib.hid HB.out
  replace HB := Lib.hid (Below.refl W1.heap.size W1)
  have hc1 := box_cells HX1.out
  go_upto_region 3 with (go_at_call 24; refine (HG1.out _ HB.out).mono ?_; rintro e w2 ⟨a2, cap2, ms2, rfl, hok2, hme2, hsy2, hb⟩; (try replace hb := drewB hb); replace HB := Lib.hid (HB.out.trans (hb.mono HB.out.size)); (try (replace HX1 := Lib.hid (blk_keep HX1.out hb); replace hc1 := box_cells HX1.out; replace hf1 := box_free HX1.out; replace hz1 := lt_blk HX1.out)); (try (replace HX2 := Lib.hid (blk_keep HX2.out hb); replace hc2 := box_cells HX2.out; replace hf2 := box_free HX2.out; replace hz2 := lt_blk HX2.out)); (try (replace HX5 := Lib.hid (blk_keep HX5.out hb); replace hc5 := box_cells HX5.out; replace hf5 := box_free HX5.out; replace hz5 := lt_blk HX5.out)); (try (replace HX6 := Lib.hid (blk_keep HX6.out hb); replace hc6 := box_cells HX6.out; replace hf6 := box_free HX6.out; replace hz6 := lt_blk HX6.out)); (try (replace HX10 := Lib.hid (blk_keep HX10.out hb); replace hc10 := box_cells HX10.out; replace hf10 := box_free HX10.out; replace hz10 := lt_blk HX10.out)); clear hb)
  obtain ⟨vb, voff, nb, noff, nc, rfl, rfl⟩ := exV_at hme2 hsy2
  simp only [List.length_cons, List.length_nil, Nat.zero_add]
  have HX2 := Lib.hid (heap_alloc_new w2 (.cells #[.int .i64 1, .slice (some ⟨vb, voff, none⟩) 1 cap2] 44))
  have hme2' := hme2.below ((Below.refl w2.heap.size w2).alloc (Nat.le_refl _) (.cells #[.int .i64 1, .slice (some ⟨vb, voff, none⟩) 1 cap2] 44))
  clear hme2 hsy2 hok2
  have hb := (Below.refl w2.heap.size w2).alloc (Nat.le_refl _) (.cells #[.int .i64 1, .slice (some ⟨vb, voff, none⟩) 1 cap2] 44)
  replace HX1 := Lib.hid (blk_keep HX1.out hb); replace HB := Lib.hid (HB.out.trans (hb.mono HB.out.size))
  clear hb hc1 hf1 hz1
  generalize w2.alloc (.cells #[.int .i64 1, .slice (some ⟨vb, voff, none⟩) 1 cap2] 44) = W2 at *
  generalize w2.heap.size = b2 at *
  have HM := Lib.hid (fun W (hb : Below W2.heap.size W2 W) => hme2'.below hb)
  have HB2 := Lib.hid HB.out
  clear hme2'
  have hc1 := box_cells HX1.out; have hc2 := box_cells HX2.out
  have HS1 := Lib.hid (fun W (hb : Below W2.heap.size W2 W) => show Calls Tryz.prog 29 #[.agg #[.int .i64 1, .slice ab 1 cb, .slice ap 1 cp, .slice an 1 cn], .agg #[.int .i64 1, .slice (some ⟨vb, voff, none⟩) 1 cap2]] W (RetNE [exN] 0 W) from by
    have := HSn.out 1 (some ⟨vb, voff, none⟩) cap2 [(⟨5, 0, ⟨4, 1⟩, some ⟨nb, noff, none⟩, nc, [exW]⟩ : Me)] W (HB2.out.trans (hb.mono HB2.out.size)) (HM.out W hb) (by simp) (by simp)
    rw [show [(⟨5, 0, ⟨4, 1⟩, some ⟨nb, noff, none⟩, nc, [exW]⟩ : Me)].map Me.says = exV from rfl, ex_snd1] at this; exact this)
  have HS2 := Lib.hid (fun W (hb : Below W2.heap.size W2 W) => show Calls Tryz.prog 29 #[.agg #[.int .i64 1, .slice ab 1 cb, .slice ap 1 cp, .slice an 1 cn], .agg #[.int .i64 2, .slice (some ⟨vb, voff, none⟩) 1 cap2]] W (RetNE [] 1 W) from by
    have := HSn.out 2 (some ⟨vb, voff, none⟩) cap2 [(⟨5, 0, ⟨4, 1⟩, some ⟨nb, noff, none⟩, nc, [exW]⟩ : Me)] W (HB2.out.trans (hb.mono HB2.out.size)) (HM.out W hb) (by simp) (by simp)
    rw [show [(⟨5, 0, ⟨4, 1⟩, some ⟨nb, noff, none⟩, nc, [exW]⟩ : Me)].map Me.says = exV from rfl, ex_snd2] at this; exact this)
  have HV1 := Lib.hid (fun W (hb : Below W2.heap.size W2 W) => show Calls Tryz.prog 27 #[.agg #[.int .i64 1, .slice ab 1 cb, .slice ap 1 cp, .slice an 1 cn], .agg #[.int .i64 1, .slice (some ⟨vb, voff, none⟩) 1 cap2]] W (fun e w' => e = .returned (.bool true) ∧ Below W.heap.size W w') from by
    have := HVl.out 1 (some ⟨vb, voff, none⟩) cap2 [(⟨5, 0, ⟨4, 1⟩, some ⟨nb, noff, none⟩, nc, [exW]⟩ : Me)] W (HB2.out.trans (hb.mono HB2.out.size)) (HM.out W hb) (by simp) (by simp)
    rw [show [(⟨5, 0, ⟨4, 1⟩, some ⟨nb, noff, none⟩, nc, [exW]⟩ : Me)].map Me.says = exV from rfl, ex_val1] at this; exact this)
  have HV2 := Lib.hid (fun W (hb : Below W2.heap.size W2 W) => show Calls Tryz.prog 27 #[.agg #[.int .i64 1, .slice ab 1 cb, .slice ap 1 cp, .slice an 1 cn], .agg #[.int .i64 2, .slice (some ⟨vb, voff, none⟩) 1 cap2]] W (fun e w' => e = .returned (.bool false) ∧ Below W.heap.size W w') from by
    have := HVl.out 2 (some ⟨vb, voff, none⟩) cap2 [(⟨5, 0, ⟨4, 1⟩, some ⟨nb, noff, none⟩, nc, [exW]⟩ : Me)] W (HB2.out.trans (hb.mono HB2.out.size)) (HM.out W hb) (by simp) (by simp)
    rw [show [(⟨5, 0, ⟨4, 1⟩, some ⟨nb, noff, none⟩, nc, [exW]⟩ : Me)].map Me.says = exV from rfl, ex_val2] at this; exact this)
  replace HB := Lib.hid (Below.refl W2.heap.size W2)
  go_upto_region 4 with (go_at_call 24; refine (HG2.out _ (HB2.out.trans (HB.out.mono HB2.out.size))).mono ?_; rintro e w3 ⟨a3, cap3, ms3, rfl, hok3, hme3, hsy3, hb⟩; (try replace hb := drewB hb); replace HB := Lib.hid (HB.out.trans (hb.mono HB.out.size)); (try (replace HX1 := Lib.hid (blk_keep HX1.out hb); replace hc1 := box_cells HX1.out; replace hf1 := box_free HX1.out; replace hz1 := lt_blk HX1.out)); (try (replace HX2 := Lib.hid (blk_keep HX2.out hb); replace hc2 := box_cells HX2.out; replace hf2 := box_free HX2.out; replace hz2 := lt_blk HX2.out)); (try (replace HX5 := Lib.hid (blk_keep HX5.out hb); replace hc5 := box_cells HX5.out; replace hf5 := box_free HX5.out; replace hz5 := lt_blk HX5.out)); (try (replace HX6 := Lib.hid (blk_keep HX6.out hb); replace hc6 := box_cells HX6.out; replace hf6 := box_free HX6.out; replace hz6 := lt_blk HX6.out)); (try (replace HX10 := Lib.hid (blk_keep HX10.out hb); replace hc10 := box_cells HX10.out; replace hf10 := box_free HX10.out; replace hz10 := lt_blk HX10.out)); clear hb)
  clear hok3 hme3 hsy3
  have hb := (Below.refl w3.heap.size w3).alloc (Nat.le_refl _) (.cells #[.int .i64 0, .slice a3 ms3.length cap3] 44); (try replace HNl := Lib.hid (NoAt.below HNl.out hb)); (try replace hb := drewB hb); replace HB := Lib.hid (HB.out.trans (hb.mono HB.out.size)); (try (replace HX1 := Lib.hid (blk_keep HX1.out hb); replace hc1 := box_cells HX1.out; replace hf1 := box_free HX1.out; replace hz1 := lt_blk HX1.out)); (try (replace HX2 := Lib.hid (blk_keep HX2.out hb); replace hc2 := box_cells HX2.out; replace hf2 := box_free HX2.out; replace hz2 := lt_blk HX2.out)); (try (replace HX5 := Lib.hid (blk_keep HX5.out hb); replace hc5 := box_cells HX5.out; replace hf5 := box_free HX5.out; replace hz5 := lt_blk HX5.out)); (try (replace HX6 := Lib.hid (blk_keep HX6.out hb); replace hc6 := box_cells HX6.out; replace hf6 := box_free HX6.out; replace hz6 := lt_blk HX6.out)); (try (replace HX10 := Lib.hid (blk_keep HX10.out hb); replace hc10 := box_cells HX10.out; replace hf10 := box_free HX10.out; replace hz10 := lt_blk HX10.out)); clear hb; generalize w3.alloc (.cells #[.int .i64 0, .slice a3 ms3.length cap3] 44) = W3 at *
  go_upto_region 5 with (go_at_call 24; refine (HG0.out _ (HB2.out.trans (HB.out.mono HB2.out.size))).mono ?_; rintro e w4 ⟨a4, cap4, ms4, rfl, hok4, hme4, hsy4, hb⟩; (try replace hb := drewB hb); replace HB := Lib.hid (HB.out.trans (hb.mono HB.out.size)); (try (replace HX1 := Lib.hid (blk_keep HX1.out hb); replace hc1 := box_cells HX1.out; replace hf1 := box_free HX1.out; replace hz1 := lt_blk HX1.out)); (try (replace HX2 := Lib.hid (blk_keep HX2.out hb); replace hc2 := box_cells HX2.out; replace hf2 := box_free HX2.out; replace hz2 := lt_blk HX2.out)); (try (replace HX5 := Lib.hid (blk_keep HX5.out hb); replace hc5 := box_cells HX5.out; replace hf5 := box_free HX5.out; replace hz5 := lt_blk HX5.out)); (try (replace HX6 := Lib.hid (blk_keep HX6.out hb); replace hc6 := box_cells HX6.out; replace hf6 := box_free HX6.out; replace hz6 := lt_blk HX6.out)); (try (replace HX10 := Lib.hid (blk_keep HX10.out hb); replace hc10 := box_cells HX10.out; replace hf10 := box_free HX10.out; replace hz10 := lt_blk HX10.out)); clear hb)
  clear hok4 hme4 hsy4
  have hb := (Below.refl w4.heap.size w4).alloc (Nat.le_refl _) (.cells #[.int .i64 0, .slice a4 ms4.length cap4] 44); (try replace HNl := Lib.hid (NoAt.below HNl.out hb)); (try replace hb := drewB hb); replace HB := Lib.hid (HB.out.trans (hb.mono HB.out.size)); (try (replace HX1 := Lib.hid (blk_keep HX1.out hb); replace hc1 := box_cells HX1.out; replace hf1 := box_free HX1.out; replace hz1 := lt_blk HX1.out)); (try (replace HX2 := Lib.hid (blk_keep HX2.out hb); replace hc2 := box_cells HX2.out; replace hf2 := box_free HX2.out; replace hz2 := lt_blk HX2.out)); (try (replace HX5 := Lib.hid (blk_keep HX5.out hb); replace hc5 := box_cells HX5.out; replace hf5 := box_free HX5.out; replace hz5 := lt_blk HX5.out)); (try (replace HX6 := Lib.hid (blk_keep HX6.out hb); replace hc6 := box_cells HX6.out; replace hf6 := box_free HX6.out; replace hz6 := lt_blk HX6.out)); (try (replace HX10 := Lib.hid (blk_keep HX10.out hb); replace hc10 := box_cells HX10.out; replace hf10 := box_free HX10.out; replace hz10 := lt_blk HX10.out)); clear hb; generalize w4.alloc (.cells #[.int .i64 0, .slice a4 ms4.length cap4] 44) = W4 at *
  go_upto_region 6 with (go_at_call 29; refine (HS1.out _ HB.out).mono ?_; rintro e w5 ⟨al, capl, rfl, hokl, hnl, hb⟩; (try replace hb := drewB hb); replace HB := Lib.hid (HB.out.trans (hb.mono HB.out.size)); (try (replace HX1 := Lib.hid (blk_keep HX1.out hb); replace hc1 := box_cells HX1.out; replace hf1 := box_free HX1.out; replace hz1 := lt_blk HX1.out)); (try (replace HX2 := Lib.hid (blk_keep HX2.out hb); replace hc2 := box_cells HX2.out; replace hf2 := box_free HX2.out; replace hz2 := lt_blk HX2.out)); (try (replace HX5 := Lib.hid (blk_keep HX5.out hb); replace hc5 := box_cells HX5.out; replace hf5 := box_free HX5.out; replace hz5 := lt_blk HX5.out)); (try (replace HX6 := Lib.hid (blk_keep HX6.out hb); replace hc6 := box_cells HX6.out; replace hf6 := box_free HX6.out; replace hz6 := lt_blk HX6.out)); (try (replace HX10 := Lib.hid (blk_keep HX10.out hb); replace hc10 := box_cells HX10.out; replace hf10 := box_free HX10.out; replace hz10 := lt_blk HX10.out)); clear hb)
  have HNl := Lib.hid hnl
  have HOl := Lib.hid hokl
  clear hnl hokl
  have HMe := Lib.hid (fun W (hb : Below W2.heap.size W2 W) => show W.cell? ⟨vb, voff, none⟩ = some (.int .i64 5) ∧ W.cell? ⟨vb, voff + 1, none⟩ = some (.int .i64 0) ∧ W.cell? ⟨vb, voff + 2, none⟩ = some (.int .i64 4) ∧ W.cell? ⟨vb, voff + 3, none⟩ = some (.int .i64 1) ∧ W.cell? ⟨vb, voff + 4, none⟩ = some (.slice (some ⟨nb, noff, none⟩) 1 nc) from by
    obtain ⟨b', off', e, _, c0, c1, c2, c3, c4⟩ := (HM.out W hb).get 0 (by simp)
    cases e
    simpa using ⟨c0, c1, c2, c3, c4⟩)
  have HWr := Lib.hid (fun W (hb : Below W2.heap.size W2 W) => show W.cell? ⟨nb, noff, none⟩ = some (.int .i64 8) ∧ W.cell? ⟨nb, noff + 1, none⟩ = some (.int .i64 0) ∧ W.cell? ⟨nb, noff + 2, none⟩ = some (.int .i64 0) ∧ W.cell? ⟨nb, noff + 3, none⟩ = some (.int .i64 0) ∧ W.cell? ⟨nb, noff + 4, none⟩ = some (.int .i64 1) ∧ W.cell? ⟨nb, noff + 5, none⟩ = some (.int .i64 1) ∧ W.cell? ⟨nb, noff + 6, none⟩ = some (.int .i64 1) ∧ W.cell? ⟨nb, noff + 7, none⟩ = some (.int .i64 2) ∧ W.cell? ⟨nb, noff + 8, none⟩ = some (.int .i64 0) ∧ W.cell? ⟨nb, noff + 9, none⟩ = some (.int .i64 4) from by
    obtain ⟨b', off', e, _, c0, c1, c2, c3, c4, c5, c6, c7, c8, c9⟩ := WrAt.get ((HM.out W hb).notes _ (List.mem_singleton.2 rfl)) 0 (by simp)
    cases e
    simpa [exW] using ⟨c0, c1, c2, c3, c4, c5, c6, c7, c8, c9⟩)
  obtain ⟨m0, m1, m2, m3, m4⟩ := HMe.out _ HB.out
  obtain ⟨n0, n1, n2, n3, n4, n5, n6, n7, n8, n9⟩ := HWr.out _ HB.out
  go_upto_region 9 with (fail)
  have HX5 := Lib.hid (heap_alloc_new w5 (.cells #[.int .i64 8, .int .i64 0, .int .i64 0, .int .i64 0, .int .i64 1, .int .i64 1, .int .i64 1, .int .i64 2, .int .i64 0, .int .i64 4] 68))
  have hb := (Below.refl w5.heap.size w5).alloc (Nat.le_refl _) (.cells #[.int .i64 8, .int .i64 0, .int .i64 0, .int .i64 0, .int .i64 1, .int .i64 1, .int .i64 1, .int .i64 2, .int .i64 0, .int .i64 4] 68); (try replace HNl := Lib.hid (NoAt.below HNl.out hb)); (try replace hb := drewB hb); replace HB := Lib.hid (HB.out.trans (hb.mono HB.out.size)); (try (replace HX1 := Lib.hid (blk_keep HX1.out hb); replace hc1 := box_cells HX1.out; replace hf1 := box_free HX1.out; replace hz1 := lt_blk HX1.out)); (try (replace HX2 := Lib.hid (blk_keep HX2.out hb); replace hc2 := box_cells HX2.out; replace hf2 := box_free HX2.out; replace hz2 := lt_blk HX2.out)); (try (replace HX5 := Lib.hid (blk_keep HX5.out hb); replace hc5 := box_cells HX5.out; replace hf5 := box_free HX5.out; replace hz5 := lt_blk HX5.out)); (try (replace HX6 := Lib.hid (blk_keep HX6.out hb); replace hc6 := box_cells HX6.out; replace hf6 := box_free HX6.out; replace hz6 := lt_blk HX6.out)); (try (replace HX10 := Lib.hid (blk_keep HX10.out hb); replace hc10 := box_cells HX10.out; replace hf10 := box_free HX10.out; replace hz10 := lt_blk HX10.out)); clear hb; generalize w5.alloc (.cells #[.int .i64 8, .int .i64 0, .int .i64 0, .int .i64 0, .int .i64 1, .int .i64 1, .int .i64 1, .int .i64 2, .int .i64 0, .int .i64 4] 68) = W5 at *
  have hc5 := box_cells HX5.out; have hf5 := box_free HX5.out; have hz5 := lt_blk HX5.out
  go_upto_region 11 with (fail)
  have HX6 := Lib.hid (heap_alloc_new W5 (.cells #[.int .i64 2, .slice (some ⟨vb, voff, none⟩) 1 cap2] 44))
  clear m0 m1 m2 m3 m4 n0 n1 n2 n3 n4 n5 n6 n7 n8 n9
  have hb := (Below.refl W5.heap.size W5).alloc (Nat.le_refl _) (.cells #[.int .i64 2, .slice (some ⟨vb, voff, none⟩) 1 cap2] 44); (try replace HNl := Lib.hid (NoAt.below HNl.out hb)); (try replace hb := drewB hb); replace HB := Lib.hid (HB.out.trans (hb.mono HB.out.size)); (try (replace HX1 := Lib.hid (blk_keep HX1.out hb); replace hc1 := box_cells HX1.out; replace hf1 := box_free HX1.out; replace hz1 := lt_blk HX1.out)); (try (replace HX2 := Lib.hid (blk_keep HX2.out hb); replace hc2 := box_cells HX2.out; replace hf2 := box_free HX2.out; replace hz2 := lt_blk HX2.out)); (try (replace HX5 := Lib.hid (blk_keep HX5.out hb); replace hc5 := box_cells HX5.out; replace hf5 := box_free HX5.out; replace hz5 := lt_blk HX5.out)); (try (replace HX6 := Lib.hid (blk_keep HX6.out hb); replace hc6 := box_cells HX6.out; replace hf6 := box_free HX6.out; replace hz6 := lt_blk HX6.out)); (try (replace HX10 := Lib.hid (blk_keep HX10.out hb); replace hc10 := box_cells HX10.out; replace hf10 := box_free HX10.out; replace hz10 := lt_blk HX10.out)); clear hb; generalize W5.alloc (.cells #[.int .i64 2, .slice (some ⟨vb, voff, none⟩) 1 cap2] 44) = W6 at *
  have hc6 := box_cells HX6.out; have hf6 := box_free HX6.out; have hz6 := lt_blk HX6.out
  go_upto_region 12 with (go_at_call 29; refine (HS2.out _ HB.out).mono ?_; rintro e w7 ⟨al2, capl2, rfl, hokl2, hnl2, hb⟩; replace HNl := Lib.hid (NoAt.below HNl.out hb); (try replace hb := drewB hb); replace HB := Lib.hid (HB.out.trans (hb.mono HB.out.size)); (try (replace HX1 := Lib.hid (blk_keep HX1.out hb); replace hc1 := box_cells HX1.out; replace hf1 := box_free HX1.out; replace hz1 := lt_blk HX1.out)); (try (replace HX2 := Lib.hid (blk_keep HX2.out hb); replace hc2 := box_cells HX2.out; replace hf2 := box_free HX2.out; replace hz2 := lt_blk HX2.out)); (try (replace HX5 := Lib.hid (blk_keep HX5.out hb); replace hc5 := box_cells HX5.out; replace hf5 := box_free HX5.out; replace hz5 := lt_blk HX5.out)); (try (replace HX6 := Lib.hid (blk_keep HX6.out hb); replace hc6 := box_cells HX6.out; replace hf6 := box_free HX6.out; replace hz6 := lt_blk HX6.out)); (try (replace HX10 := Lib.hid (blk_keep HX10.out hb); replace hc10 := box_cells HX10.out; replace hf10 := box_free HX10.out; replace hz10 := lt_blk HX10.out)); clear hb)
  clear hokl2 hnl2
  obtain ⟨m0, m1, m2, m3, m4⟩ := HMe.out _ HB.out
  have hq := fun w => eql_pc 2 0 4 2 0 4 w
  have HNs := Lib.hid (fun W (hb : Below W2.heap.size W2 W) (h1 : NoAt W al [exN]) => show Calls Tryz.prog 31 #[.slice al 1 capl, .slice an 1 cn] W (fun e w' => e = .returned (.bool true) ∧ Below W.heap.size W w') from by
    have := RSameN_any al an capl cn [exN] [exN] W (by simp) (by simp) h1 ((HS.out.notes).below (HB2.out.trans (hb.mono HB2.out.size)))
    simpa using this)
  have HNx := Lib.hid (HNl.out)
  go_wp2_with (first | (go_at_call 31; refine (HNs.out _ HB.out HNl.out).mono ?_; rintro e w8 ⟨rfl, hb⟩; (try replace hb := drewB hb); replace HB := Lib.hid (HB.out.trans (hb.mono HB.out.size)); (try (replace HX1 := Lib.hid (blk_keep HX1.out hb); replace hc1 := box_cells HX1.out; replace hf1 := box_free HX1.out; replace hz1 := lt_blk HX1.out)); (try (replace HX2 := Lib.hid (blk_keep HX2.out hb); replace hc2 := box_cells HX2.out; replace hf2 := box_free HX2.out; replace hz2 := lt_blk HX2.out)); (try (replace HX5 := Lib.hid (blk_keep HX5.out hb); replace hc5 := box_cells HX5.out; replace hf5 := box_free HX5.out; replace hz5 := lt_blk HX5.out)); (try (replace HX6 := Lib.hid (blk_keep HX6.out hb); replace hc6 := box_cells HX6.out; replace hf6 := box_free HX6.out; replace hz6 := lt_blk HX6.out)); (try (replace HX10 := Lib.hid (blk_keep HX10.out hb); replace hc10 := box_cells HX10.out; replace hf10 := box_free HX10.out; replace hz10 := lt_blk HX10.out)); clear hb) | (go_at_call 27; (first | with_reducible refine (HV1.out _ HB.out).mono ?_ | with_reducible refine (HV2.out _ HB.out).mono ?_); rintro e w9 ⟨rfl, hb⟩; (try replace hb := drewB hb); replace HB := Lib.hid (HB.out.trans (hb.mono HB.out.size)); (try (replace HX1 := Lib.hid (blk_keep HX1.out hb); replace hc1 := box_cells HX1.out; replace hf1 := box_free HX1.out; replace hz1 := lt_blk HX1.out)); (try (replace HX2 := Lib.hid (blk_keep HX2.out hb); replace hc2 := box_cells HX2.out; replace hf2 := box_free HX2.out; replace hz2 := lt_blk HX2.out)); (try (replace HX5 := Lib.hid (blk_keep HX5.out hb); replace hc5 := box_cells HX5.out; replace hf5 := box_free HX5.out; replace hz5 := lt_blk HX5.out)); (try (replace HX6 := Lib.hid (blk_keep HX6.out hb); replace hc6 := box_cells HX6.out; replace hf6 := box_free HX6.out; replace hz6 := lt_blk HX6.out)); (try (replace HX10 := Lib.hid (blk_keep HX10.out hb); replace hc10 := box_cells HX10.out; replace hf10 := box_free HX10.out; replace hz10 := lt_blk HX10.out)); clear hb))
  go_ret
  exact ⟨rfl, HBw.out.trans ((HB2.out.trans (HB.out.mono HB2.out.size)).mono HBw.out.size)⟩
end Go.Proofs.YtppjbnnnppffaaaGreatDoor


/- The law ViewBack: walked. -/
namespace Go.Proofs.YtppjbnnnppffaaaGreatDoor
set_option linter.unusedSimpArgs false
set_option linter.unusedVariables false
open Go.RowKit Go.Sort Go.Shelf

theorem few8_few {s : Sc} (h : few8 s = true) : ScFew s := by
  simp only [few8, Bool.and_eq_true, decide_eq_true_eq] at h
  exact ⟨by omega, by omega, by omega⟩
theorem played_few {s : Sc} (h : ScFew s) (p : Pa) : (playedL s p).length ≤ 1000 := by
  unfold playedL; rw [List.length_map]; exact Nat.le_trans (List.length_filter_le _ _) h.notes
theorem view_few {s : Sc} (h : ScFew s) (p : Pa) : ∀ m ∈ viewL s p, m.notes.length ≤ 1000 := by
  intro m hm
  rw [viewL_eq] at hm
  obtain ⟨b, hb, rfl⟩ := List.mem_map.1 hm
  show (barW s p b).length ≤ 1000
  unfold barW inBar
  rw [List.length_map]
  exact Nat.le_trans (List.length_filter_le _ _) (played_few h p)
theorem says_few {s : Sc} {p : Pa} {ms : List Me} (h : ScFew s) (e : ms.map Me.says = viewL s p) : ms.length ≤ 1000 ∧ ∀ m ∈ ms, m.notes.length ≤ 1000 := by
  constructor
  · have := congrArg List.length e
    rw [List.length_map, view_len] at this
    have := h.bars; omega
  · intro m hm
    exact view_few h p m.says (by rw [← e]; exact List.mem_map_of_mem hm)
theorem plays_mem {s : Sc} (h : validS s = true) {p : Pa} (hp : p ∈ s.parts) : playsR s p.id = (playedL s p, 0) := by
  have v := scV h
  unfold playsR
  rw [if_pos h, partAt_mem v.parts hp]
set_option maxRecDepth 100000 in
set_option maxHeartbeats 8000000 in
theorem ViewBack_any (s : Sc) (q : Sp) (w : World) (hs : ScAt w s q) (hE : Env w) : Calls Tryz.prog 6 #[.agg #[.int .i64 s.version, .slice q.ab s.bars.length q.cb, .slice q.ap s.parts.length q.cp, .slice q.an s.notes.length q.cn]] w fun e w' => e = .returned (.bool true) ∧ Below w.heap.size w w' := by
  have HS := Lib.hid hs; have HE := Lib.hid hE
  have HX1 := Lib.hid (heap_alloc_new w (.cells #[.int .i64 s.version, .slice q.ab s.bars.length q.cb, .slice q.ap s.parts.length q.cp, .slice q.an s.notes.length q.cn] 26))
  have HB := Lib.hid ((Below.refl w.heap.size w).alloc (Nat.le_refl _) (.cells #[.int .i64 s.version, .slice q.ab s.bars.length q.cb, .slice q.ap s.parts.length q.cp, .slice q.an s.notes.length q.cn] 26))
  have HFw := Lib.hid (fun W => RFew8_any s q W)
  clear hs hE
  cases hfw : few8 s
  · rw [hfw] at HFw
    clear hfw
    go_enter Tryz.func6, Tryz.ntmps6
    go_upto_region 1 with (fail)
    generalize w.alloc (.cells #[.int .i64 s.version, .slice q.ab s.bars.length q.cb, .slice q.ap s.parts.length q.cp, .slice q.an s.notes.length q.cn] 26) = W at *
    have hc1 := box_cells HX1.out
    go_wp2_with (first | (go_at_call 21; refine (head14_any _ (HE.out.below HB.out)).mono ?_; rintro e w2 ⟨rfl, hb⟩; (try replace hb := drewB hb); replace HB := Lib.hid (HB.out.trans (hb.mono HB.out.size)); (try (replace HX1 := Lib.hid (blk_keep HX1.out hb); replace hc1 := box_cells HX1.out; replace hf1 := box_free HX1.out; replace hz1 := lt_blk HX1.out)); (try (replace HX2 := Lib.hid (blk_keep HX2.out hb); replace hc2 := box_cells HX2.out; replace hf2 := box_free HX2.out; replace hz2 := lt_blk HX2.out)); (try (replace HX3 := Lib.hid (blk_keep HX3.out hb); replace hc3 := box_cells HX3.out; replace hf3 := box_free HX3.out; replace hz3 := lt_blk HX3.out)); (try (replace HX10 := Lib.hid (blk_keep HX10.out hb); replace hc10 := box_cells HX10.out; replace hf10 := box_free HX10.out; replace hz10 := lt_blk HX10.out)); clear hb) | (go_at_call 22; refine (HFw.out _).mono ?_; rintro e w2 ⟨rfl, hb⟩; (try replace hb := drewB hb); replace HB := Lib.hid (HB.out.trans (hb.mono HB.out.size)); (try (replace HX1 := Lib.hid (blk_keep HX1.out hb); replace hc1 := box_cells HX1.out; replace hf1 := box_free HX1.out; replace hz1 := lt_blk HX1.out)); (try (replace HX2 := Lib.hid (blk_keep HX2.out hb); replace hc2 := box_cells HX2.out; replace hf2 := box_free HX2.out; replace hz2 := lt_blk HX2.out)); (try (replace HX3 := Lib.hid (blk_keep HX3.out hb); replace hc3 := box_cells HX3.out; replace hf3 := box_free HX3.out; replace hz3 := lt_blk HX3.out)); (try (replace HX10 := Lib.hid (blk_keep HX10.out hb); replace hc10 := box_cells HX10.out; replace hf10 := box_free HX10.out; replace hz10 := lt_blk HX10.out)); clear hb))
    go_ret
    exact ⟨rfl, HB.out⟩
  have hf := few8_few hfw
  rw [hfw] at HFw
  have HVs := Lib.hid (fun W (hb : Below w.heap.size w W) => RValid8_any s q W hf (HS.out.below hb))
  cases hvs : validS s
  · rw [hvs] at HVs
    clear hfw hvs hf
    go_enter Tryz.func6, Tryz.ntmps6
    go_upto_region 1 with (fail)
    generalize w.alloc (.cells #[.int .i64 s.version, .slice q.ab s.bars.length q.cb, .slice q.ap s.parts.length q.cp, .slice q.an s.notes.length q.cn] 26) = W at *
    have hc1 := box_cells HX1.out
    go_wp2_with (first | (go_at_call 21; refine (head14_any _ (HE.out.below HB.out)).mono ?_; rintro e w2 ⟨rfl, hb⟩; (try replace hb := drewB hb); replace HB := Lib.hid (HB.out.trans (hb.mono HB.out.size)); (try (replace HX1 := Lib.hid (blk_keep HX1.out hb); replace hc1 := box_cells HX1.out; replace hf1 := box_free HX1.out; replace hz1 := lt_blk HX1.out)); (try (replace HX2 := Lib.hid (blk_keep HX2.out hb); replace hc2 := box_cells HX2.out; replace hf2 := box_free HX2.out; replace hz2 := lt_blk HX2.out)); (try (replace HX3 := Lib.hid (blk_keep HX3.out hb); replace hc3 := box_cells HX3.out; replace hf3 := box_free HX3.out; replace hz3 := lt_blk HX3.out)); (try (replace HX10 := Lib.hid (blk_keep HX10.out hb); replace hc10 := box_cells HX10.out; replace hf10 := box_free HX10.out; replace hz10 := lt_blk HX10.out)); clear hb) | (go_at_call 22; refine (HFw.out _).mono ?_; rintro e w2 ⟨rfl, hb⟩; (try replace hb := drewB hb); replace HB := Lib.hid (HB.out.trans (hb.mono HB.out.size)); (try (replace HX1 := Lib.hid (blk_keep HX1.out hb); replace hc1 := box_cells HX1.out; replace hf1 := box_free HX1.out; replace hz1 := lt_blk HX1.out)); (try (replace HX2 := Lib.hid (blk_keep HX2.out hb); replace hc2 := box_cells HX2.out; replace hf2 := box_free HX2.out; replace hz2 := lt_blk HX2.out)); (try (replace HX3 := Lib.hid (blk_keep HX3.out hb); replace hc3 := box_cells HX3.out; replace hf3 := box_free HX3.out; replace hz3 := lt_blk HX3.out)); (try (replace HX10 := Lib.hid (blk_keep HX10.out hb); replace hc10 := box_cells HX10.out; replace hf10 := box_free HX10.out; replace hz10 := lt_blk HX10.out)); clear hb) | (go_at_call 32; refine (HVs.out _ HB.out).mono ?_; rintro e w2 ⟨rfl, hb⟩; (try replace hb := drewB hb); replace HB := Lib.hid (HB.out.trans (hb.mono HB.out.size)); (try (replace HX1 := Lib.hid (blk_keep HX1.out hb); replace hc1 := box_cells HX1.out; replace hf1 := box_free HX1.out; replace hz1 := lt_blk HX1.out)); (try (replace HX2 := Lib.hid (blk_keep HX2.out hb); replace hc2 := box_cells HX2.out; replace hf2 := box_free HX2.out; replace hz2 := lt_blk HX2.out)); (try (replace HX3 := Lib.hid (blk_keep HX3.out hb); replace hc3 := box_cells HX3.out; replace hf3 := box_free HX3.out; replace hz3 := lt_blk HX3.out)); (try (replace HX10 := Lib.hid (blk_keep HX10.out hb); replace hc10 := box_cells HX10.out; replace hf10 := box_free HX10.out; replace hz10 := lt_blk HX10.out)); clear hb))
    go_ret
    exact ⟨rfl, HB.out⟩
  rw [hvs] at HVs
  have HG := Lib.hid (fun (p : Pa) (hp : p ∈ s.parts) W (hb : Below w.heap.size w W) => show Calls Tryz.prog 24 #[.agg #[.int .i64 s.version, .slice q.ab s.bars.length q.cb, .slice q.ap s.parts.length q.cp, .slice q.an s.notes.length q.cn], .int .i64 p.id] W (RetVE p.id (viewL s p) 0 W) from by have := VGet_any s q p.id W hf (HS.out.below hb) (HE.out.below hb); rwa [get_mem hvs hp] at this)
  have HSo := Lib.hid (fun (p : Pa) (hp : p ∈ s.parts) a cap ms (e : ms.map Me.says = viewL s p) W (hb : Below w.heap.size w W) (hm : MeAt W a ms) => show Calls Tryz.prog 29 #[.agg #[.int .i64 s.version, .slice q.ab s.bars.length q.cb, .slice q.ap s.parts.length q.cp, .slice q.an s.notes.length q.cn], .agg #[.int .i64 p.id, .slice a ms.length cap]] W (RetNE (playedL s p) 0 W) from by have := VSounds_any s q p.id a cap ms W hf (HS.out.below hb) (HE.out.below hb) (says_few hf e).1 (says_few hf e).2 hm; rwa [e, view_sounds hvs hp] at this)
  have HVa := Lib.hid (fun (p : Pa) (hp : p ∈ s.parts) a cap ms (e : ms.map Me.says = viewL s p) W (hb : Below w.heap.size w W) (hm : MeAt W a ms) => show Calls Tryz.prog 27 #[.agg #[.int .i64 s.version, .slice q.ab s.bars.length q.cb, .slice q.ap s.parts.length q.cp, .slice q.an s.notes.length q.cn], .agg #[.int .i64 p.id, .slice a ms.length cap]] W (fun e w' => e = .returned (.bool true) ∧ Below W.heap.size W w') from by have := VValid_any s q p.id a cap ms W hf (HS.out.below hb) (HE.out.below hb) (says_few hf e).1 (says_few hf e).2 hm; rwa [e, view_valid hvs hp] at this)
  have HPl := Lib.hid (fun (p : Pa) (hp : p ∈ s.parts) W (hb : Below w.heap.size w W) => show Calls Tryz.prog 33 #[.agg #[.int .i64 s.version, .slice q.ab s.bars.length q.cb, .slice q.ap s.parts.length q.cp, .slice q.an s.notes.length q.cn], .int .i64 p.id] W (RetNE (playedL s p) 0 W) from by have := SPlays_any s q p.id W hf (HS.out.below hb) (HE.out.below hb); rwa [plays_mem hvs hp] at this)
  have HSm := Lib.hid (fun (p : Pa) a b c d W (h1 : NoAt W a (playedL s p)) (h2 : NoAt W b (playedL s p)) => show Calls Tryz.prog 31 #[.slice a (playedL s p).length c, .slice b (playedL s p).length d] W (fun e w' => e = .returned (.bool true) ∧ Below W.heap.size W w') from by have := RSameN_any a b c d (playedL s p) (playedL s p) W (by have := played_few hf p; omega) (by have := played_few hf p; omega) h1 h2; simpa using this)
  have hnp := hf.parts
  clear hfw hvs hf
  obtain ⟨ab, cb, ap, cp, an, cn⟩ := q
  dsimp only at *
  go_enter Tryz.func6, Tryz.ntmps6
  go_upto_region 1 with (fail)
  generalize w.alloc (.cells #[.int .i64 s.version, .slice (⟨ab, cb, ap, cp, an, cn⟩ : Sp).ab s.bars.length (⟨ab, cb, ap, cp, an, cn⟩ : Sp).cb, .slice (⟨ab, cb, ap, cp, an, cn⟩ : Sp).ap s.parts.length (⟨ab, cb, ap, cp, an, cn⟩ : Sp).cp, .slice (⟨ab, cb, ap, cp, an, cn⟩ : Sp).an s.notes.length (⟨ab, cb, ap, cp, an, cn⟩ : Sp).cn] 26) = W at *
  have hc1 := box_cells HX1.out
  go_upto_region 4 with (first | (go_at_call 21; refine (head14_any _ (HE.out.below HB.out)).mono ?_; rintro e w2 ⟨rfl, hb⟩; (try replace hb := drewB hb); replace HB := Lib.hid (HB.out.trans (hb.mono HB.out.size)); (try (replace HX1 := Lib.hid (blk_keep HX1.out hb); replace hc1 := box_cells HX1.out; replace hf1 := box_free HX1.out; replace hz1 := lt_blk HX1.out)); (try (replace HX2 := Lib.hid (blk_keep HX2.out hb); replace hc2 := box_cells HX2.out; replace hf2 := box_free HX2.out; replace hz2 := lt_blk HX2.out)); (try (replace HX3 := Lib.hid (blk_keep HX3.out hb); replace hc3 := box_cells HX3.out; replace hf3 := box_free HX3.out; replace hz3 := lt_blk HX3.out)); (try (replace HX10 := Lib.hid (blk_keep HX10.out hb); replace hc10 := box_cells HX10.out; replace hf10 := box_free HX10.out; replace hz10 := lt_blk HX10.out)); clear hb) | (go_at_call 22; refine (HFw.out _).mono ?_; rintro e w2 ⟨rfl, hb⟩; (try replace hb := drewB hb); replace HB := Lib.hid (HB.out.trans (hb.mono HB.out.size)); (try (replace HX1 := Lib.hid (blk_keep HX1.out hb); replace hc1 := box_cells HX1.out; replace hf1 := box_free HX1.out; replace hz1 := lt_blk HX1.out)); (try (replace HX2 := Lib.hid (blk_keep HX2.out hb); replace hc2 := box_cells HX2.out; replace hf2 := box_free HX2.out; replace hz2 := lt_blk HX2.out)); (try (replace HX3 := Lib.hid (blk_keep HX3.out hb); replace hc3 := box_cells HX3.out; replace hf3 := box_free HX3.out; replace hz3 := lt_blk HX3.out)); (try (replace HX10 := Lib.hid (blk_keep HX10.out hb); replace hc10 := box_cells HX10.out; replace hf10 := box_free HX10.out; replace hz10 := lt_blk HX10.out)); clear hb) | (go_at_call 32; refine (HVs.out _ HB.out).mono ?_; rintro e w2 ⟨rfl, hb⟩; (try replace hb := drewB hb); replace HB := Lib.hid (HB.out.trans (hb.mono HB.out.size)); (try (replace HX1 := Lib.hid (blk_keep HX1.out hb); replace hc1 := box_cells HX1.out; replace hf1 := box_free HX1.out; replace hz1 := lt_blk HX1.out)); (try (replace HX2 := Lib.hid (blk_keep HX2.out hb); replace hc2 := box_cells HX2.out; replace hf2 := box_free HX2.out; replace hz2 := lt_blk HX2.out)); (try (replace HX3 := Lib.hid (blk_keep HX3.out hb); replace hc3 := box_cells HX3.out; replace hf3 := box_free HX3.out; replace hz3 := lt_blk HX3.out)); (try (replace HX10 := Lib.hid (blk_keep HX10.out hb); replace hc10 := box_cells HX10.out; replace hf10 := box_free HX10.out; replace hz10 := lt_blk HX10.out)); clear hb))
  go_wp2
  clear hc1 hf1 hz1
  go_loopw [3, 25] (fun s3 i wi => ∃ k : Nat, k ≤ s.parts.length ∧ i = .int .i64 k ∧ s3 = .bool true ∧ wi.heap[w.heap.size]? = some (.cells #[.int .i64 s.version, .slice (⟨ab, cb, ap, cp, an, cn⟩ : Sp).ab s.bars.length (⟨ab, cb, ap, cp, an, cn⟩ : Sp).cb, .slice (⟨ab, cb, ap, cp, an, cn⟩ : Sp).ap s.parts.length (⟨ab, cb, ap, cp, an, cn⟩ : Sp).cp, .slice (⟨ab, cb, ap, cp, an, cn⟩ : Sp).an s.notes.length (⟨ab, cb, ap, cp, an, cn⟩ : Sp).cn] 26) ∧ Below w.heap.size w wi) (fun _ i _ => s.parts.length - (intOf i).toNat)
  case atStart => exact ⟨0, Nat.zero_le _, rfl, rfl, HX1.out, HB.out⟩
  case round =>
    obtain ⟨k, hk, rfl, rfl, hx, hbw⟩ := hrel
    clear HX1 HB
    have HX1 := Lib.hid hx; have HB := Lib.hid hbw
    clear hx hbw
    have hc1 := box_cells HX1.out; have hf1 := box_free HX1.out; have hz1 := lt_blk HX1.out
    by_cases hlt : k < s.parts.length
    · obtain ⟨b, off, hqa, _, e0, e1, e2, e3, e4, e5, e6, e7, e8, e9, e10, e11, e12⟩ := (HS.out.parts.below HB.out).get k hlt
      have hqa2 : ap = some ⟨b, off, none⟩ := hqa
      subst hqa2
      clear hqa
      have hmem := List.getElem_mem hlt
      have HG2 := Lib.hid (HG.out _ hmem); have HSo2 := Lib.hid (HSo.out _ hmem); have HVa2 := Lib.hid (HVa.out _ hmem); have HPl2 := Lib.hid (HPl.out _ hmem); have HSm2 := Lib.hid (HSm.out s.parts[k])
      clear hmem
      generalize s.parts[k] = p at *
      generalize playedL s p = L at *
      generalize viewL s p = VL at *
      go_upto_region 7 with (fail)
      have HX2 := Lib.hid (heap_alloc_new wr (.cells #[.int .i64 p.id, .int .i64 p.section_, .int .i64 p.of, .int .i64 p.octave, .int .i64 p.desks, .int .i64 p.shift.x, .int .i64 p.shift.y, .int .i64 p.low.s, .int .i64 p.low.a, .int .i64 p.low.o, .int .i64 p.high.s, .int .i64 p.high.a, .int .i64 p.high.o] 59))
      have hb := (Below.refl wr.heap.size wr).alloc (Nat.le_refl _) (.cells #[.int .i64 p.id, .int .i64 p.section_, .int .i64 p.of, .int .i64 p.octave, .int .i64 p.desks, .int .i64 p.shift.x, .int .i64 p.shift.y, .int .i64 p.low.s, .int .i64 p.low.a, .int .i64 p.low.o, .int .i64 p.high.s, .int .i64 p.high.a, .int .i64 p.high.o] 59)
      clear e0 e1 e2 e3 e4 e5 e6 e7 e8 e9 e10 e11 e12
      (try replace hb := drewB hb); replace HB := Lib.hid (HB.out.trans (hb.mono HB.out.size)); (try (replace HX1 := Lib.hid (blk_keep HX1.out hb); replace hc1 := box_cells HX1.out; replace hf1 := box_free HX1.out; replace hz1 := lt_blk HX1.out)); (try (replace HX2 := Lib.hid (blk_keep HX2.out hb); replace hc2 := box_cells HX2.out; replace hf2 := box_free HX2.out; replace hz2 := lt_blk HX2.out)); (try (replace HX3 := Lib.hid (blk_keep HX3.out hb); replace hc3 := box_cells HX3.out; replace hf3 := box_free HX3.out; replace hz3 := lt_blk HX3.out)); (try (replace HX10 := Lib.hid (blk_keep HX10.out hb); replace hc10 := box_cells HX10.out; replace hf10 := box_free HX10.out; replace hz10 := lt_blk HX10.out)); clear hb
      generalize wr.alloc (.cells #[.int .i64 p.id, .int .i64 p.section_, .int .i64 p.of, .int .i64 p.octave, .int .i64 p.desks, .int .i64 p.shift.x, .int .i64 p.shift.y, .int .i64 p.low.s, .int .i64 p.low.a, .int .i64 p.low.o, .int .i64 p.high.s, .int .i64 p.high.a, .int .i64 p.high.o] 59) = W1 at *
      have hc2 := box_cells HX2.out; have hf2 := box_free HX2.out; have hz2 := lt_blk HX2.out
      go_upto_region 8 with (go_at_call 24; refine (HG2.out _ HB.out).mono ?_; rintro e w3 ⟨av, capv, ms, rfl, hokv, hmev, hsyv, hb⟩; (try replace hb := drewB hb); replace HB := Lib.hid (HB.out.trans (hb.mono HB.out.size)); (try (replace HX1 := Lib.hid (blk_keep HX1.out hb); replace hc1 := box_cells HX1.out; replace hf1 := box_free HX1.out; replace hz1 := lt_blk HX1.out)); (try (replace HX2 := Lib.hid (blk_keep HX2.out hb); replace hc2 := box_cells HX2.out; replace hf2 := box_free HX2.out; replace hz2 := lt_blk HX2.out)); (try (replace HX3 := Lib.hid (blk_keep HX3.out hb); replace hc3 := box_cells HX3.out; replace hf3 := box_free HX3.out; replace hz3 := lt_blk HX3.out)); (try (replace HX10 := Lib.hid (blk_keep HX10.out hb); replace hc10 := box_cells HX10.out; replace hf10 := box_free HX10.out; replace hz10 := lt_blk HX10.out)); clear hb)
      have HX3 := Lib.hid (heap_alloc_new w3 (.cells #[.int .i64 p.id, .slice av ms.length capv] 44))
      have hb := (Below.refl w3.heap.size w3).alloc (Nat.le_refl _) (.cells #[.int .i64 p.id, .slice av ms.length capv] 44)
      have HMe := Lib.hid (hmev.below hb); have HSy := Lib.hid hsyv
      clear hmev hsyv hokv
      (try replace hb := drewB hb); replace HB := Lib.hid (HB.out.trans (hb.mono HB.out.size)); (try (replace HX1 := Lib.hid (blk_keep HX1.out hb); replace hc1 := box_cells HX1.out; replace hf1 := box_free HX1.out; replace hz1 := lt_blk HX1.out)); (try (replace HX2 := Lib.hid (blk_keep HX2.out hb); replace hc2 := box_cells HX2.out; replace hf2 := box_free HX2.out; replace hz2 := lt_blk HX2.out)); (try (replace HX3 := Lib.hid (blk_keep HX3.out hb); replace hc3 := box_cells HX3.out; replace hf3 := box_free HX3.out; replace hz3 := lt_blk HX3.out)); (try (replace HX10 := Lib.hid (blk_keep HX10.out hb); replace hc10 := box_cells HX10.out; replace hf10 := box_free HX10.out; replace hz10 := lt_blk HX10.out)); clear hb
      generalize w3.alloc (.cells #[.int .i64 p.id, .slice av ms.length capv] 44) = W3 at *
      have hc3 := box_cells HX3.out; have hf3 := box_free HX3.out; have hz3 := lt_blk HX3.out
      go_upto_region 9 with (go_at_call 29; refine (HSo2.out av capv ms HSy.out _ HB.out HMe.out).mono ?_; rintro e w4 ⟨al, capl, rfl, hokl, hnl, hb⟩; have HNl := Lib.hid hnl; clear hnl hokl; replace HMe := Lib.hid (HMe.out.below hb); (try replace hb := drewB hb); replace HB := Lib.hid (HB.out.trans (hb.mono HB.out.size)); (try (replace HX1 := Lib.hid (blk_keep HX1.out hb); replace hc1 := box_cells HX1.out; replace hf1 := box_free HX1.out; replace hz1 := lt_blk HX1.out)); (try (replace HX2 := Lib.hid (blk_keep HX2.out hb); replace hc2 := box_cells HX2.out; replace hf2 := box_free HX2.out; replace hz2 := lt_blk HX2.out)); (try (replace HX3 := Lib.hid (blk_keep HX3.out hb); replace hc3 := box_cells HX3.out; replace hf3 := box_free HX3.out; replace hz3 := lt_blk HX3.out)); (try (replace HX10 := Lib.hid (blk_keep HX10.out hb); replace hc10 := box_cells HX10.out; replace hf10 := box_free HX10.out; replace hz10 := lt_blk HX10.out)); clear hb)
      go_upto_region 10 with (go_at_call 33; refine (HPl2.out _ HB.out).mono ?_; rintro e w5 ⟨am, capm, rfl, hokm, hnm, hb⟩; have HNm := Lib.hid hnm; clear hnm hokm; replace HNl := Lib.hid (NoAt.below HNl.out hb); replace HMe := Lib.hid (HMe.out.below hb); (try replace hb := drewB hb); replace HB := Lib.hid (HB.out.trans (hb.mono HB.out.size)); (try (replace HX1 := Lib.hid (blk_keep HX1.out hb); replace hc1 := box_cells HX1.out; replace hf1 := box_free HX1.out; replace hz1 := lt_blk HX1.out)); (try (replace HX2 := Lib.hid (blk_keep HX2.out hb); replace hc2 := box_cells HX2.out; replace hf2 := box_free HX2.out; replace hz2 := lt_blk HX2.out)); (try (replace HX3 := Lib.hid (blk_keep HX3.out hb); replace hc3 := box_cells HX3.out; replace hf3 := box_free HX3.out; replace hz3 := lt_blk HX3.out)); (try (replace HX10 := Lib.hid (blk_keep HX10.out hb); replace hc10 := box_cells HX10.out; replace hf10 := box_free HX10.out; replace hz10 := lt_blk HX10.out)); clear hb)
      go_wp2_with (first | (go_at_call 27; refine (HVa2.out av capv ms HSy.out _ HB.out HMe.out).mono ?_; rintro e w6 ⟨rfl, hb⟩; replace HNl := Lib.hid (NoAt.below HNl.out hb); replace HNm := Lib.hid (NoAt.below HNm.out hb); (try replace hb := drewB hb); replace HB := Lib.hid (HB.out.trans (hb.mono HB.out.size)); (try (replace HX1 := Lib.hid (blk_keep HX1.out hb); replace hc1 := box_cells HX1.out; replace hf1 := box_free HX1.out; replace hz1 := lt_blk HX1.out)); (try (replace HX2 := Lib.hid (blk_keep HX2.out hb); replace hc2 := box_cells HX2.out; replace hf2 := box_free HX2.out; replace hz2 := lt_blk HX2.out)); (try (replace HX3 := Lib.hid (blk_keep HX3.out hb); replace hc3 := box_cells HX3.out; replace hf3 := box_free HX3.out; replace hz3 := lt_blk HX3.out)); (try (replace HX10 := Lib.hid (blk_keep HX10.out hb); replace hc10 := box_cells HX10.out; replace hf10 := box_free HX10.out; replace hz10 := lt_blk HX10.out)); clear hb) | (go_at_call 31; refine (HSm2.out _ _ _ _ _ HNl.out HNm.out).mono ?_; rintro e w6 ⟨rfl, hb⟩; (try replace hb := drewB hb); replace HB := Lib.hid (HB.out.trans (hb.mono HB.out.size)); (try (replace HX1 := Lib.hid (blk_keep HX1.out hb); replace hc1 := box_cells HX1.out; replace hf1 := box_free HX1.out; replace hz1 := lt_blk HX1.out)); (try (replace HX2 := Lib.hid (blk_keep HX2.out hb); replace hc2 := box_cells HX2.out; replace hf2 := box_free HX2.out; replace hz2 := lt_blk HX2.out)); (try (replace HX3 := Lib.hid (blk_keep HX3.out hb); replace hc3 := box_cells HX3.out; replace hf3 := box_free HX3.out; replace hz3 := lt_blk HX3.out)); (try (replace HX10 := Lib.hid (blk_keep HX10.out hb); replace hc10 := box_cells HX10.out; replace hf10 := box_free HX10.out; replace hz10 := lt_blk HX10.out)); clear hb))
      exact ⟨⟨k + 1, by omega, by go_num, rfl, HX1.out, HB.out⟩, by simp [intOf]; omega⟩
    · go_wp2
      go_ret
      exact ⟨rfl, HB.out⟩
end Go.Proofs.YtppjbnnnppffaaaGreatDoor
