/- Texts of this seat, laid together: TurnHd0, TurnHd. -/
import Derived.Test.YtcelciomhngajaaGreatDoorTI
import Derived.Test.YtcelciomhngajaaGreatDoorSK
/- The laws of layer 25: the example. -/
namespace Go.Proofs.YtcelciomhngajaaGreatDoor
set_option linter.unusedSimpArgs false
set_option linter.unusedVariables false
open Go.RowKit Go.Sort

def xB1 : Ba := ⟨1, ⟨4, 1⟩, 0⟩
def xB2 : Ba := ⟨2, ⟨4, 1⟩, 0⟩
def xB3 : Ba := ⟨3, ⟨4, 1⟩, 0⟩
def xP : Pa := ⟨3, 0, 0, 0, 1, ⟨0, 0⟩, ⟨0, 0, 0⟩, ⟨0, 0, 8⟩⟩
def xN1 : No := ⟨1, 3, 1, 0, 0, ⟨0, 1⟩, ⟨3, 1⟩, ⟨0, 0, 4⟩⟩
def xN2 : No := ⟨2, 3, 3, 0, 0, ⟨2, 1⟩, ⟨1, 1⟩, ⟨0, 0, 4⟩⟩
def xS : Sc := ⟨1, [xB1, xB2, xB3], [xP], [xN1, xN2]⟩
def xT : List Te := [⟨0, ⟨1, 1⟩⟩]
def xV : List MeP := [⟨1, 0, ⟨4, 1⟩, [⟨1, 0, 0, ⟨0, 1⟩, ⟨3, 1⟩, ⟨0, 0, 4⟩⟩]⟩, ⟨2, 0, ⟨4, 1⟩, []⟩, ⟨3, 0, ⟨4, 1⟩, [⟨2, 0, 0, ⟨2, 1⟩, ⟨1, 1⟩, ⟨0, 0, 4⟩⟩]⟩]
theorem x_get : getR xS 3 = (3, xV, 0) := by decide +kernel
theorem x_free1 : freeF xS 3 xV xT 1 = ((⟨1, 1⟩, ⟨6, 1⟩), 0) := by kernel_rfl
theorem x_free2 : freeF xS 3 xV xT 2 = ((⟨5, 1⟩, ⟨2, 1⟩), 0) := by kernel_rfl
theorem x_free3 : freeF xS 3 xV xT 3 = ((⟨1, 1⟩, ⟨0, 1⟩), 0) := by kernel_rfl
theorem x_free4 : freeF xS 3 xV xT 4 = ((⟨0, 0⟩, ⟨0, 0⟩), 1) := by kernel_rfl
theorem x_good : goodF xS 3 xV xT ⟨7, 1⟩ = ([false, true, true], 0) := by kernel_rfl
theorem x_good0 : goodF xS 3 xV [] ⟨7, 1⟩ = ([], 1) := by kernel_rfl
theorem x_few : ∀ x ∈ xV, x.notes.length ≤ 1000 := by decide
theorem slAt_block {w : World} {b sz : Nat} {rows : List (List Value)} {cs : Array Value} {T : TypeId} {fr : Nat × Nat} (h : w.heap[b]? = some (.cells cs T fr)) (hw : ∀ r ∈ rows, r.length = sz) (hf : rows.flatten = cs.toList) : SlAt w (some ⟨b, 0, none⟩) sz rows := fun i r hr =>
  ⟨b, 0, rfl, lt_blk h, hw r (List.mem_of_getElem? hr), fun j v hv => by
    rw [box_cells h]
    have := flat_get rows sz hw i j r v hr hv
    rw [hf] at this
    simpa using this⟩
theorem rat25_any (n d : Int) (w : World) : Calls Tryz.prog 18 #[.int .i64 n, .int .i64 d] w fun e w' => e = .returned (.agg #[.int .i64 n, .int .i64 d]) ∧ Below w.heap.size w w' := by
  have HX := Lib.hid (heap_alloc_new w (.cells #[.int .i64 0, .int .i64 0] 32 (0, 0)))
  have HB := Lib.hid ((Below.refl w.heap.size w).alloc (Nat.le_refl _) (.cells #[.int .i64 0, .int .i64 0] 32 (0, 0)))
  go_enter Tryz.func18, Tryz.ntmps18
  go_upto_region 1 with (fail)
  generalize w.alloc (.cells #[.int .i64 0, .int .i64 0] 32 (0, 0)) = W at *
  have hf := box_free HX.out; have hc := box_cells HX.out
  go_wp2
  exact bodyPost_ret (v := .agg #[.int .i64 n, .int .i64 d]) (by simp [results, Tryz.results18, go_sem, hc, hf]) rfl ⟨rfl, (HB.out.setCell (Nat.le_refl _) _).setCell (Nat.le_refl _) _⟩
set_option maxHeartbeats 1000000 in
theorem note25_any (id bar st ln : Int) (w : World) : Calls Tryz.prog 66 #[.int .i64 id, .int .i64 bar, .int .i64 st, .int .i64 ln] w fun e w' => e = .returned (.agg #[.int .i64 (⟨id, 3, bar, 0, 0, ⟨st, 1⟩, ⟨ln, 1⟩, ⟨0, 0, 4⟩⟩ : No).id, .int .i64 (⟨id, 3, bar, 0, 0, ⟨st, 1⟩, ⟨ln, 1⟩, ⟨0, 0, 4⟩⟩ : No).part, .int .i64 (⟨id, 3, bar, 0, 0, ⟨st, 1⟩, ⟨ln, 1⟩, ⟨0, 0, 4⟩⟩ : No).bar, .int .i64 (⟨id, 3, bar, 0, 0, ⟨st, 1⟩, ⟨ln, 1⟩, ⟨0, 0, 4⟩⟩ : No).voice, .int .i64 (⟨id, 3, bar, 0, 0, ⟨st, 1⟩, ⟨ln, 1⟩, ⟨0, 0, 4⟩⟩ : No).ossia, .int .i64 (⟨id, 3, bar, 0, 0, ⟨st, 1⟩, ⟨ln, 1⟩, ⟨0, 0, 4⟩⟩ : No).start.n, .int .i64 (⟨id, 3, bar, 0, 0, ⟨st, 1⟩, ⟨ln, 1⟩, ⟨0, 0, 4⟩⟩ : No).start.d, .int .i64 (⟨id, 3, bar, 0, 0, ⟨st, 1⟩, ⟨ln, 1⟩, ⟨0, 0, 4⟩⟩ : No).len.n, .int .i64 (⟨id, 3, bar, 0, 0, ⟨st, 1⟩, ⟨ln, 1⟩, ⟨0, 0, 4⟩⟩ : No).len.d, .int .i64 (⟨id, 3, bar, 0, 0, ⟨st, 1⟩, ⟨ln, 1⟩, ⟨0, 0, 4⟩⟩ : No).pitch.s, .int .i64 (⟨id, 3, bar, 0, 0, ⟨st, 1⟩, ⟨ln, 1⟩, ⟨0, 0, 4⟩⟩ : No).pitch.a, .int .i64 (⟨id, 3, bar, 0, 0, ⟨st, 1⟩, ⟨ln, 1⟩, ⟨0, 0, 4⟩⟩ : No).pitch.o]) ∧ Below w.heap.size w w' := by
  have HX := Lib.hid (heap_alloc_new w (.cells #[.int .i64 0, .int .i64 0, .int .i64 0, .int .i64 0, .int .i64 0, .int .i64 0, .int .i64 0, .int .i64 0, .int .i64 0, .int .i64 0, .int .i64 0, .int .i64 0] 128 (0, 0)))
  have HB := Lib.hid ((Below.refl w.heap.size w).alloc (Nat.le_refl _) (.cells #[.int .i64 0, .int .i64 0, .int .i64 0, .int .i64 0, .int .i64 0, .int .i64 0, .int .i64 0, .int .i64 0, .int .i64 0, .int .i64 0, .int .i64 0, .int .i64 0] 128 (0, 0)))
  have HRa := Lib.hid (fun n d V => rat25_any n d V)
  go_enter Tryz.func66, Tryz.ntmps66
  go_upto_region 1 with (fail)
  generalize w.alloc (.cells #[.int .i64 0, .int .i64 0, .int .i64 0, .int .i64 0, .int .i64 0, .int .i64 0, .int .i64 0, .int .i64 0, .int .i64 0, .int .i64 0, .int .i64 0, .int .i64 0] 128 (0, 0)) = W at *
  have hf := box_free HX.out; have hc := box_cells HX.out
  go_wp2_with (go_at_call 18; refine (HRa.out _ _ _).mono ?_; rintro e w' ⟨rfl, hb⟩; replace HX := Lib.hid (blk_keep HX.out hb); replace HB := Lib.hid (HB.out.trans (hb.mono HB.out.size)); clear hb hf hc; have hf := box_free HX.out; have hc := box_cells HX.out)
  exact bodyPost_ret (v := .agg #[.int .i64 (⟨id, 3, bar, 0, 0, ⟨st, 1⟩, ⟨ln, 1⟩, ⟨0, 0, 4⟩⟩ : No).id, .int .i64 (⟨id, 3, bar, 0, 0, ⟨st, 1⟩, ⟨ln, 1⟩, ⟨0, 0, 4⟩⟩ : No).part, .int .i64 (⟨id, 3, bar, 0, 0, ⟨st, 1⟩, ⟨ln, 1⟩, ⟨0, 0, 4⟩⟩ : No).bar, .int .i64 (⟨id, 3, bar, 0, 0, ⟨st, 1⟩, ⟨ln, 1⟩, ⟨0, 0, 4⟩⟩ : No).voice, .int .i64 (⟨id, 3, bar, 0, 0, ⟨st, 1⟩, ⟨ln, 1⟩, ⟨0, 0, 4⟩⟩ : No).ossia, .int .i64 (⟨id, 3, bar, 0, 0, ⟨st, 1⟩, ⟨ln, 1⟩, ⟨0, 0, 4⟩⟩ : No).start.n, .int .i64 (⟨id, 3, bar, 0, 0, ⟨st, 1⟩, ⟨ln, 1⟩, ⟨0, 0, 4⟩⟩ : No).start.d, .int .i64 (⟨id, 3, bar, 0, 0, ⟨st, 1⟩, ⟨ln, 1⟩, ⟨0, 0, 4⟩⟩ : No).len.n, .int .i64 (⟨id, 3, bar, 0, 0, ⟨st, 1⟩, ⟨ln, 1⟩, ⟨0, 0, 4⟩⟩ : No).len.d, .int .i64 (⟨id, 3, bar, 0, 0, ⟨st, 1⟩, ⟨ln, 1⟩, ⟨0, 0, 4⟩⟩ : No).pitch.s, .int .i64 (⟨id, 3, bar, 0, 0, ⟨st, 1⟩, ⟨ln, 1⟩, ⟨0, 0, 4⟩⟩ : No).pitch.a, .int .i64 (⟨id, 3, bar, 0, 0, ⟨st, 1⟩, ⟨ln, 1⟩, ⟨0, 0, 4⟩⟩ : No).pitch.o]) (by simp [results, Tryz.results66, go_sem, hc, hf]) rfl ⟨rfl, by repeat (first | with_reducible exact HB.out | with_reducible refine RowKit.Below.setCell ?_ (by simp) _)⟩
theorem set4_at {w : World} {c : Nat} {a0 a1 a2 a3 v0 v1 v2 v3 : Value} {T : TypeId} (h : w.heap[c]? = some (.cells #[a0, a1, a2, a3] T (0, 0))) : ((((w.setCell ⟨c, 0, none⟩ v0).setCell ⟨c, 1, none⟩ v1).setCell ⟨c, 2, none⟩ v2).setCell ⟨c, 3, none⟩ v3).heap[c]? = some (.cells #[v0, v1, v2, v3] T (0, 0)) :=
  heap_setCell_same _ _ _ _ _ _ (heap_setCell_same _ _ _ _ _ _ (heap_setCell_same _ _ _ _ _ _ (heap_setCell_same _ _ _ _ _ _ h)))
theorem set4_far {w : World} {b c : Nat} {o : Obj} {v0 v1 v2 v3 : Value} (h : w.heap[b]? = some o) (hne : b ≠ c) : ((((w.setCell ⟨c, 0, none⟩ v0).setCell ⟨c, 1, none⟩ v1).setCell ⟨c, 2, none⟩ v2).setCell ⟨c, 3, none⟩ v3).heap[b]? = some o := set1_far (set1_far (set1_far (set1_far h hne _) hne _) hne _) hne _
theorem KeepB.alloc1 {B : Nat} {S : List Nat} {w V : World} (k : KeepB B S w V) (h : B ≤ V.heap.size) (o : Obj) : KeepB B S w (V.alloc o) := k.trans (KeepB.of_below ((Below.refl _ _).alloc (Nat.le_refl _) o) h)
theorem KeepB.drew1 {B : Nat} {S : List Nat} {w V : World} (k : KeepB B S w V) : KeepB B S w V.drew := ⟨k.os, k.tape, k.output, k.size, k.block⟩
theorem MeAt.keptSmall {w w' : World} {S : List Nat} {a : Option Addr} {ms : List Me} (h : MeAt w a ms) (k : KeepB w.heap.size S w w') (hS : ∀ c ∈ S, ∃ cs T fr, w.heap[c]? = some (.cells cs T fr) ∧ cs.size < 5) : MeAt w' a ms := by
  have key : ∀ {p : Option Addr} {sz : Nat} {rows : List (List Value)}, 5 ≤ sz → SlAt w p sz rows → SlAt w' p sz rows := by
    intro p sz rows hsz hs
    refine hs.keptB k (Nat.le_refl _) fun ad e h0 hm => ?_
    obtain ⟨r, rs, er⟩ := List.exists_cons_of_ne_nil h0
    obtain ⟨b0, o0, e0, _⟩ := hs 0 r (by rw [er]; rfl)
    rw [e] at e0; cases e0
    obtain ⟨cs, T, fr, hc, hlt⟩ := hS _ hm
    exact SlAt.small (b := b0) (off := o0) (by rw [← e]; exact hs) h0 hc (by omega) rfl
  exact ⟨key (by decide) h.at_, fun m hm => key (by decide) (h.notes m hm), h.ok⟩
def RetEx (w : World) (e : Ending) (w' : World) : Prop := ∃ (q : Sp) (ta : Option Addr) (tc : Nat) (a : Option Addr) (cap : Nat) (ms : List Me),
  e = .returned (.tuple #[.agg #[.int .i64 xS.version, .slice q.ab xS.bars.length q.cb, .slice q.ap xS.parts.length q.cp, .slice q.an xS.notes.length q.cn], .slice ta 1 tc, .agg #[.int .i64 3, .slice a ms.length cap], .int .i64 0]) ∧ ScAt w' xS q ∧ TeAt w' ta xT ∧ MeAt w' a ms ∧ ms.map Me.says = xV ∧ Below w.heap.size w w'
set_option maxRecDepth 100000 in
set_option maxHeartbeats 4000000 in
theorem ex25_any (w : World) (hE : Env w) : Calls Tryz.prog 31 #[] w (RetEx w) := by
  have HE := Lib.hid hE
  have HRa := Lib.hid (fun n d V => rat25_any n d V)
  have HNo := Lib.hid (fun a b c d V => note25_any a b c d V)
  have hff : ScFew xS := ⟨by decide, by decide, by decide⟩
  obtain ⟨x1, x2, hb⟩ := box2 (w := w) (A := .cells #[.int .i64 0, .slice none 0 0, .slice none 0 0, .slice none 0 0] 26 (0, 0)) (B := .cells #[.int .i64 0, .slice none 0 0] 30 (0, 0)) (Below.refl _ _)
  have HX1 := Lib.hid x1; have HX2 := Lib.hid x2; have HB := Lib.hid hb
  clear x1 x2 hb hE
  go_enter Tryz.func31, Tryz.ntmps31
  go_upto_region 1 with (fail)
  generalize (w.alloc (.cells #[.int .i64 0, .slice none 0 0, .slice none 0 0, .slice none 0 0] 26 (0, 0))).alloc (.cells #[.int .i64 0, .slice none 0 0] 30 (0, 0)) = W at *
  go_upto_region 3 with (first | (go_at_call 18; refine (HRa.out _ _ _).mono ?_; rintro e w4 ⟨rfl, hb⟩; replace HX1 := Lib.hid (blk_keep HX1.out hb); replace HX2 := Lib.hid (blk_keep HX2.out hb); replace HB := Lib.hid (HB.out.trans (hb.mono HB.out.size)); clear hb) | (go_at_call 66; refine (HNo.out _ _ _ _ _).mono ?_; rintro e w5 ⟨rfl, hb⟩; (first | (obtain ⟨z1, z2, hb'⟩ := box2 hb; have HXb := Lib.hid z1; have HXp := Lib.hid z2; have HL4 := Lib.hid (lt_blk HX2.out); clear hb z1 z2; have hb := hb'; clear hb') | (replace HXb := Lib.hid (blk_keep HXb.out hb); replace HXp := Lib.hid (blk_keep HXp.out hb))); replace HX1 := Lib.hid (blk_keep HX1.out hb); replace HX2 := Lib.hid (blk_keep HX2.out hb); replace HB := Lib.hid (HB.out.trans (hb.mono HB.out.size)); clear hb))
  obtain ⟨z1, z2, hb⟩ := box2 (w := w5) (A := .cells #[.int .i64 1, .int .i64 3, .int .i64 1, .int .i64 0, .int .i64 0, .int .i64 0, .int .i64 1, .int .i64 3, .int .i64 1, .int .i64 0, .int .i64 0, .int .i64 4, .int .i64 2, .int .i64 3, .int .i64 3, .int .i64 0, .int .i64 0, .int .i64 2, .int .i64 1, .int .i64 1, .int .i64 1, .int .i64 0, .int .i64 0, .int .i64 4] 128 (0, 0)) (B := .cells #[.int .i64 1, .slice (some ⟨w4.heap.size, 0, none⟩) 3 3, .slice (some ⟨w4.heap.size + 1, 0, none⟩) 1 1, .slice (some ⟨w5.heap.size, 0, none⟩) 2 2] 26 (0, 0)) (Below.refl _ _)
  have HXn := Lib.hid z1; have HXs := Lib.hid z2
  have hb5 := ((Below.refl w5.heap.size w5).alloc (Nat.le_refl _) (.cells #[.int .i64 1, .int .i64 3, .int .i64 1, .int .i64 0, .int .i64 0, .int .i64 0, .int .i64 1, .int .i64 3, .int .i64 1, .int .i64 0, .int .i64 0, .int .i64 4, .int .i64 2, .int .i64 3, .int .i64 3, .int .i64 0, .int .i64 0, .int .i64 2, .int .i64 1, .int .i64 1, .int .i64 1, .int .i64 0, .int .i64 0, .int .i64 4] 128 (0, 0))).alloc (by simp) (.cells #[.int .i64 1, .slice (some ⟨w4.heap.size, 0, none⟩) 3 3, .slice (some ⟨w4.heap.size + 1, 0, none⟩) 1 1, .slice (some ⟨w5.heap.size, 0, none⟩) 2 2] 26 (0, 0))
  have hl4 := HL4.out
  have hl5 : w4.heap.size + 1 < w5.heap.size := lt_blk HXp.out
  replace HX1 := Lib.hid (blk_keep HX1.out hb5); replace HX2 := Lib.hid (blk_keep HX2.out hb5); replace HXb := Lib.hid (blk_keep HXb.out hb5); replace HXp := Lib.hid (blk_keep HXp.out hb5); replace HB := Lib.hid (HB.out.trans (hb5.mono HB.out.size))
  clear hb hb5 z1 z2
  generalize (w5.alloc (.cells #[.int .i64 1, .int .i64 3, .int .i64 1, .int .i64 0, .int .i64 0, .int .i64 0, .int .i64 1, .int .i64 3, .int .i64 1, .int .i64 0, .int .i64 0, .int .i64 4, .int .i64 2, .int .i64 3, .int .i64 3, .int .i64 0, .int .i64 0, .int .i64 2, .int .i64 1, .int .i64 1, .int .i64 1, .int .i64 0, .int .i64 0, .int .i64 4] 128 (0, 0))).alloc (.cells #[.int .i64 1, .slice (some ⟨w4.heap.size, 0, none⟩) 3 3, .slice (some ⟨w4.heap.size + 1, 0, none⟩) 1 1, .slice (some ⟨w5.heap.size, 0, none⟩) 2 2] 26 (0, 0)) = W2 at *
  obtain ⟨nb, hnb⟩ : ∃ nb, nb = w5.heap.size := ⟨_, rfl⟩
  obtain ⟨bb, hbb⟩ : ∃ bb, bb = w4.heap.size := ⟨_, rfl⟩
  rw [← hnb] at HXn HXs hl5 ⊢
  rw [← hbb] at HXb HXp HXs hl5 ⊢
  have HLb := Lib.hid (show w.heap.size + 1 < bb ∧ bb + 1 < nb from ⟨by have := lt_blk HX2.out; omega, hl5⟩)
  clear hnb hbb hl4 hl5 HL4
  obtain ⟨q, hq⟩ : ∃ q : Sp, q = ⟨some ⟨bb, 0, none⟩, 3, some ⟨bb + 1, 0, none⟩, 1, some ⟨nb, 0, none⟩, 2⟩ := ⟨_, rfl⟩
  have hokk : ∀ (b n : Nat), 0 < n → SlOk (some ⟨b, 0, none⟩) n n := fun b n _ => ⟨Nat.le_refl _, (fun e => by cases e), (fun ad e => by cases e; rfl)⟩
  have HSc := Lib.hid (show ∀ V, V.heap[bb]? = W2.heap[bb]? → V.heap[bb + 1]? = W2.heap[bb + 1]? → V.heap[nb]? = W2.heap[nb]? → ScAt V xS q from fun V v1 v2 v3 => by
    subst hq
    exact ⟨slAt_block (v1.trans HXb.out) (by decide) (by simp [xS, Ba.cells, xB1, xB2, xB3]), slAt_block (v2.trans HXp.out) (by decide) (by simp [xS, Pa.cells, xP]), slAt_block (v3.trans HXn.out) (by decide) (by simp [xS, No.cells, xN1, xN2]), hokk _ _ (by decide), hokk _ _ (by decide), hokk _ _ (by decide)⟩)
  have HGt := Lib.hid (fun V (hV : Below W2.heap.size W2 V) => show Calls Tryz.prog 30 #[.agg #[.int .i64 1, .slice (some ⟨bb, 0, none⟩) 3 3, .slice (some ⟨bb + 1, 0, none⟩) 1 1, .slice (some ⟨nb, 0, none⟩) 2 2], .int .i64 3] V (RetVE 3 xV 0 V) from by
    have := VGet_any xS q 3 V hff ((HSc.out W2 rfl rfl rfl).below hV) (HE.out.below (HB.out.trans (hV.mono HB.out.size)))
    rw [x_get] at this
    subst hq
    exact this)
  have hcs := box_cells HXs.out
  have HLn := Lib.hid (show nb + 1 < W2.heap.size from lt_blk HXs.out)
  have HBs := Lib.hid (Below.refl W2.heap.size W2)
  go_upto_region 4 with (go_at_call 30; refine (HGt.out _ HBs.out).mono ?_; rintro e w6 ⟨a, cap, ms, rfl, hok, hme, hsy, hb⟩; have HMe := Lib.hid hme; have HSy := Lib.hid hsy; clear hok hme hsy; replace HX1 := Lib.hid (blk_keep HX1.out hb); replace HX2 := Lib.hid (blk_keep HX2.out hb); replace HXs := Lib.hid (blk_keep HXs.out hb); replace HB := Lib.hid (HB.out.trans (hb.mono HB.out.size)); replace HBs := Lib.hid (HBs.out.trans (hb.mono HBs.out.size)); have HL6 := Lib.hid (And.intro (lt_blk HX2.out) (lt_blk HXs.out)); clear hb hcs)
  have HXv := Lib.hid (heap_alloc_new w6 (.cells #[.int .i64 3, .slice a ms.length cap] 30 (0, 0)))
  have hb6 := (Below.refl w6.heap.size w6).alloc (Nat.le_refl _) (.cells #[.int .i64 3, .slice a ms.length cap] 30 (0, 0))
  replace HX1 := Lib.hid (blk_keep HX1.out hb6); replace HX2 := Lib.hid (blk_keep HX2.out hb6); replace HXs := Lib.hid (blk_keep HXs.out hb6); replace HB := Lib.hid (HB.out.trans (hb6.mono HB.out.size)); replace HBs := Lib.hid (HBs.out.trans (hb6.mono HBs.out.size)); replace HMe := Lib.hid (HMe.out.below hb6)
  clear hb6
  have HLv := Lib.hid (show w.heap.size + 1 < w6.heap.size ∧ nb + 1 < w6.heap.size from ⟨HL6.out.1, HL6.out.2⟩)
  generalize w6.alloc (.cells #[.int .i64 3, .slice a ms.length cap] 30 (0, 0)) = W7 at *
  generalize w6.heap.size = vb at *
  have hc1 := box_cells HX1.out; have hf1 := box_free HX1.out; have hc2 := box_cells HX2.out; have hf2 := box_free HX2.out
  have hcs := box_cells HXs.out; have hcv := box_cells HXv.out
  have hl1 := lt_blk HX1.out; have hl2 := lt_blk HX2.out
  have j0 : W7.cell? ⟨nb + 1, 0, none⟩ = some (.int .i64 1) := hcs 0
  have j1 : W7.cell? ⟨nb + 1, 1, none⟩ = some (.slice (some ⟨bb, 0, none⟩) 3 3) := hcs 1
  have j2 : W7.cell? ⟨nb + 1, 2, none⟩ = some (.slice (some ⟨bb + 1, 0, none⟩) 1 1) := hcs 2
  have j3 : W7.cell? ⟨nb + 1, 3, none⟩ = some (.slice (some ⟨nb, 0, none⟩) 2 2) := hcs 3
  have j4 : W7.cell? ⟨vb, 0, none⟩ = some (.int .i64 3) := hcv 0
  have j5 : W7.cell? ⟨vb, 1, none⟩ = some (.slice a ms.length cap) := hcv 1
  have hln := HLb.out
  have hlv := HLv.out
  have hlnb := lt_blk HXs.out; have hlvb := lt_blk HXv.out
  clear hcs hcv
  go_cut [1, 3] (fun s1 s3 V => ∃ tb, s1 = .slice (some ⟨tb, 0, none⟩) 1 1 ∧ s3 = .int .i64 0 ∧ W7.heap.size ≤ tb ∧ V.heap[tb]? = some (.cells #[.int .i64 0, .int .i64 1, .int .i64 1] 70 (0, 0)) ∧ V.heap[w.heap.size]? = some (.cells #[.int .i64 1, .slice (some ⟨bb, 0, none⟩) 3 3, .slice (some ⟨bb + 1, 0, none⟩) 1 1, .slice (some ⟨nb, 0, none⟩) 2 2] 26 (0, 0)) ∧ V.heap[w.heap.size + 1]? = some (.cells #[.int .i64 3, .slice a ms.length cap] 30 (0, 0)) ∧ KeepB W7.heap.size [w.heap.size, w.heap.size + 1] W7 V)
  case first =>
    refine wp_region_noPanic ?_
    refine wp_region_held_drew (S := fun w' => KeepB W7.heap.size [w.heap.size, w.heap.size + 1] W7 w' ∧ (∃ a0 a1 a2 a3, w'.heap[w.heap.size]? = some (.cells #[a0, a1, a2, a3] 26 (0, 0))) ∧ ∃ b0 b1, w'.heap[w.heap.size + 1]? = some (.cells #[b0, b1] 30 (0, 0))) (by kernel_rfl) ⟨(KeepB.refl _ _ _).drew1, ⟨_, _, _, _, HX1.out⟩, ⟨_, _, HX2.out⟩⟩ (fun hHeld => ?_)
    clear hc1 hf1 hc2 hf2 hl1 hl2 j0 j1 j2 j3 j4 j5
    (refine wpAnyH_take1 0 (oi := ?_) (v := ?_) ?_ (by kernel_rfl) (by kernel_rfl) (by kernel_rfl) (by assumption) ?_ ?_ ?_; rotate_left 2; (· simp only [List.getElem?_toArray, List.getElem?_cons_succ, List.getElem?_cons_zero]; try rfl); (· refine ⟨by kernel_rfl, ?_⟩; intro wq hSw; obtain ⟨y1, _, _⟩ := hSw; have hcs := box_cells ((y1.block (nb + 1) hlnb (by simp; omega)).trans HXs.out); have hcv := box_cells ((y1.block vb hlvb (by simp; omega)).trans HXv.out); go_simp; first | done | with_reducible rfl); (· exact fun _ _ _ h => h); try simp only [Act.put, List.setIfInBounds_toArray, List.set_cons_zero, List.set_cons_succ])
    (refine wpAnyH_take1 4 (oi := ?_) (v := ?_) ?_ (by kernel_rfl) (by kernel_rfl) (by kernel_rfl) (by assumption) ?_ ?_ ?_; rotate_left 2; (· simp only [List.getElem?_toArray, List.getElem?_cons_succ, List.getElem?_cons_zero]; try rfl); (· refine ⟨by kernel_rfl, ?_⟩; intro wq hSw; obtain ⟨y1, _, _⟩ := hSw; have hcs := box_cells ((y1.block (nb + 1) hlnb (by simp; omega)).trans HXs.out); have hcv := box_cells ((y1.block vb hlvb (by simp; omega)).trans HXv.out); go_simp; first | done | with_reducible rfl); (· exact fun _ _ _ h => h); try simp only [Act.put, List.setIfInBounds_toArray, List.set_cons_zero, List.set_cons_succ])
    (refine wpAnyH_take1 5 (oi := ?_) (v := ?_) ?_ (by kernel_rfl) (by kernel_rfl) (by kernel_rfl) (by assumption) ?_ ?_ ?_; rotate_left 2; (· simp only [List.getElem?_toArray, List.getElem?_cons_succ, List.getElem?_cons_zero]; try rfl); (· refine ⟨by kernel_rfl, ?_⟩; intro wq hSw; obtain ⟨y1, _, _⟩ := hSw; have hcs := box_cells ((y1.block (nb + 1) hlnb (by simp; omega)).trans HXs.out); have hcv := box_cells ((y1.block vb hlvb (by simp; omega)).trans HXv.out); go_simp; first | done | with_reducible rfl); (· exact fun _ _ _ h => h); try simp only [Act.put, List.setIfInBounds_toArray, List.set_cons_zero, List.set_cons_succ])
    (refine wpAnyH_call1 (i := 1) (o := ?_) (by kernel_rfl) ?_ (fun K hK => ?_); rotate_left 1; (· simp only [List.getElem?_toArray, List.getElem?_cons_succ, List.getElem?_cons_zero]; try rfl); go_simp)
    refine (HRa.out _ _ _).mono ?_
    rintro e w8 ⟨rfl, hb⟩
    have KB := hHeld.1.andBelow hb hHeld.1.size
    have Z1 : w8.heap[w.heap.size]? = _ := blk_keep (w := W7.drew) HX1.out hb
    have Z2 : w8.heap[w.heap.size + 1]? = _ := blk_keep (w := W7.drew) HX2.out hb
    have hs8 : W7.heap.size ≤ w8.heap.size := KB.size
    go_simp
    refine hK.out _ _ ⟨KB, ⟨_, _, _, _, Z1⟩, ⟨_, _, Z2⟩⟩ (fun hHeld2 => ?_)
    clear hK K hHeld hb
    (try simp only [Act.put, List.setIfInBounds_toArray, List.set_cons_zero, List.set_cons_succ])
    (refine wpAnyH_take1 2 (oi := ?_) (v := ?_) ?_ (by kernel_rfl) (by kernel_rfl) (by kernel_rfl) (by assumption) ?_ ?_ ?_; rotate_left 2; (· simp only [List.getElem?_toArray, List.getElem?_cons_succ, List.getElem?_cons_zero]; try rfl); (· refine ⟨by kernel_rfl, ?_⟩; intro wq hSw; skip; go_simp; first | done | with_reducible rfl); (· exact fun _ _ _ h => h); try simp only [Act.put, List.setIfInBounds_toArray, List.set_cons_zero, List.set_cons_succ])
    (refine wpAnyH_two (i := 3) (j := 6) (o := ?_) (o' := ?_) (by kernel_rfl) ?_ ?_ (fun K hK => ?_) (fun K hK => ?_); rotate_left 2; (· simp only [List.getElem?_toArray, List.getElem?_cons_succ, List.getElem?_cons_zero]; try rfl); (· simp only [List.getElem?_toArray, List.getElem?_cons_succ, List.getElem?_cons_zero]; try rfl))
    · go_simp
      refine hK.out _ _ ⟨KB.alloc1 hs8 _, ⟨_, _, _, _, up_alloc Z1 _⟩, ⟨_, _, up_alloc Z2 _⟩⟩ (fun hHeld3 => ?_)
      clear hK K
      (try simp only [Act.put, List.setIfInBounds_toArray, List.set_cons_zero, List.set_cons_succ])
      have ZT := heap_alloc_new w8 (.cells #[.int .i64 0, .int .i64 1, .int .i64 1] 70 (0, 0))
      replace KB := KB.alloc1 hs8 (.cells #[.int .i64 0, .int .i64 1, .int .i64 1] 70 (0, 0))
      replace Z1 := up_alloc Z1 (.cells #[.int .i64 0, .int .i64 1, .int .i64 1] 70 (0, 0))
      replace Z2 := up_alloc Z2 (.cells #[.int .i64 0, .int .i64 1, .int .i64 1] 70 (0, 0))
      have htb8 := hs8
      have hsz9 : w8.heap.size < (w8.alloc (.cells #[.int .i64 0, .int .i64 1, .int .i64 1] 70 (0, 0))).heap.size := by simp
      clear hHeld2
      generalize w8.alloc (.cells #[.int .i64 0, .int .i64 1, .int .i64 1] 70 (0, 0)) = V9 at *
      generalize w8.heap.size = tb at *
      have hz1 := box_cells Z1; have hf1 := box_free Z1; have hl1 := lt_blk Z1
      (refine wpAnyH_call1 (i := 6) (o := ?_) (by kernel_rfl) ?_ (fun K hK => ?_); rotate_left 1; (· simp only [List.getElem?_toArray, List.getElem?_cons_succ, List.getElem?_cons_zero]; try rfl); go_simp)
      refine hK.out _ _ ⟨((((KB.set (p := ⟨w.heap.size, 0, none⟩) (.inl (by simp)) (.int .i64 1)).set (p := ⟨w.heap.size, 1, none⟩) (.inl (by simp)) (.slice (some ⟨bb, 0, none⟩) 3 3)).set (p := ⟨w.heap.size, 2, none⟩) (.inl (by simp)) (.slice (some ⟨bb + 1, 0, none⟩) 1 1)).set (p := ⟨w.heap.size, 3, none⟩) (.inl (by simp)) (.slice (some ⟨nb, 0, none⟩) 2 2)), ⟨_, _, _, _, set4_at Z1⟩, ⟨_, _, set4_far Z2 (by omega)⟩⟩ (fun hh => ?_)
      clear hK K hz1 hf1 hl1
      (try simp only [Act.put, List.setIfInBounds_toArray, List.set_cons_zero, List.set_cons_succ])
      replace KB := ((((KB.set (p := ⟨w.heap.size, 0, none⟩) (.inl (by simp)) (.int .i64 1)).set (p := ⟨w.heap.size, 1, none⟩) (.inl (by simp)) (.slice (some ⟨bb, 0, none⟩) 3 3)).set (p := ⟨w.heap.size, 2, none⟩) (.inl (by simp)) (.slice (some ⟨bb + 1, 0, none⟩) 1 1)).set (p := ⟨w.heap.size, 3, none⟩) (.inl (by simp)) (.slice (some ⟨nb, 0, none⟩) 2 2))
      replace Z1 := set4_at (v0 := .int .i64 1) (v1 := .slice (some ⟨bb, 0, none⟩) 3 3) (v2 := .slice (some ⟨bb + 1, 0, none⟩) 1 1) (v3 := .slice (some ⟨nb, 0, none⟩) 2 2) Z1
      replace Z2 := set4_far (v0 := .int .i64 1) (v1 := .slice (some ⟨bb, 0, none⟩) 3 3) (v2 := .slice (some ⟨bb + 1, 0, none⟩) 1 1) (v3 := .slice (some ⟨nb, 0, none⟩) 2 2) Z2 (show w.heap.size + 1 ≠ w.heap.size by omega)
      replace ZT := set4_far (v0 := .int .i64 1) (v1 := .slice (some ⟨bb, 0, none⟩) 3 3) (v2 := .slice (some ⟨bb + 1, 0, none⟩) 1 1) (v3 := .slice (some ⟨nb, 0, none⟩) 2 2) ZT (show tb ≠ w.heap.size by omega)
      clear hHeld3
      have hsV : ((((V9.setCell ⟨w.heap.size, 0, none⟩ (.int .i64 1)).setCell ⟨w.heap.size, 1, none⟩ (.slice (some ⟨bb, 0, none⟩) 3 3)).setCell ⟨w.heap.size, 2, none⟩ (.slice (some ⟨bb + 1, 0, none⟩) 1 1)).setCell ⟨w.heap.size, 3, none⟩ (.slice (some ⟨nb, 0, none⟩) 2 2)).heap.size = V9.heap.size := by simp
      generalize ((((V9.setCell ⟨w.heap.size, 0, none⟩ (.int .i64 1)).setCell ⟨w.heap.size, 1, none⟩ (.slice (some ⟨bb, 0, none⟩) 3 3)).setCell ⟨w.heap.size, 2, none⟩ (.slice (some ⟨bb + 1, 0, none⟩) 1 1)).setCell ⟨w.heap.size, 3, none⟩ (.slice (some ⟨nb, 0, none⟩) 2 2)) = V3 at *
      have HsV := Lib.hid hsV
      have hsW : W7.heap.size ≤ V3.heap.size := by omega
      clear hsV
      (refine wpAnyH_take1 7 (oi := ?_) (v := ?_) ?_ (by kernel_rfl) (by kernel_rfl) (by kernel_rfl) (by assumption) ?_ ?_ ?_; rotate_left 2; (· simp only [List.getElem?_toArray, List.getElem?_cons_succ, List.getElem?_cons_zero]; try rfl); (· refine ⟨by kernel_rfl, ?_⟩; intro wq hSw; skip; go_simp; first | done | with_reducible rfl); (· exact fun _ _ _ h => h); try simp only [Act.put, List.setIfInBounds_toArray, List.set_cons_zero, List.set_cons_succ])
      have hz2 := box_cells Z2; have hf2 := box_free Z2; have hl2 := lt_blk Z2
      (refine wpAnyH_call1 (i := 8) (o := ?_) (by kernel_rfl) ?_ (fun K hK => ?_); rotate_left 1; (· simp only [List.getElem?_toArray, List.getElem?_cons_succ, List.getElem?_cons_zero]; try rfl); go_simp)
      refine hK.out _ _ ⟨(KB.set (p := ⟨w.heap.size + 1, 0, none⟩) (.inl (by simp)) (.int .i64 3)).set (p := ⟨w.heap.size + 1, 1, none⟩) (.inl (by simp)) (.slice a ms.length cap), ⟨_, _, _, _, set1_far (set1_far Z1 (by omega) _) (by omega) _⟩, ⟨_, _, rat2_at Z2⟩⟩ (fun hh2 => ?_)
      clear hK K
      (try simp only [Act.put, List.setIfInBounds_toArray, List.set_cons_zero, List.set_cons_succ])
      (refine wpAnyH_take1 9 (oi := ?_) (v := ?_) ?_ (by kernel_rfl) (by kernel_rfl) (by kernel_rfl) (by assumption) ?_ ?_ ?_; rotate_left 2; (· simp only [List.getElem?_toArray, List.getElem?_cons_succ, List.getElem?_cons_zero]; try rfl); (· refine ⟨by kernel_rfl, ?_⟩; intro wq hSw; skip; go_simp; first | done | with_reducible rfl); (· exact fun _ _ _ h => h); try simp only [Act.put, List.setIfInBounds_toArray, List.set_cons_zero, List.set_cons_succ])
      refine wpAnyH_done (by kernel_rfl) ?_ _
      refine NoPanic.normal ?_
      go_wp2
      go_meet
      case rel => exact ⟨_, rfl, rfl, htb8, set1_far (set1_far ZT (by omega) _) (by omega) _, set1_far (set1_far Z1 (by omega) _) (by omega) _, rat2_at Z2, (KB.set (.inl (by simp)) _).set (.inl (by simp)) _⟩
    · clear hHeld2
      have hz1 := box_cells Z1; have hf1 := box_free Z1; have hl1 := lt_blk Z1
      go_simp
      refine hK.out _ _ ⟨((((KB.set (p := ⟨w.heap.size, 0, none⟩) (.inl (by simp)) (.int .i64 1)).set (p := ⟨w.heap.size, 1, none⟩) (.inl (by simp)) (.slice (some ⟨bb, 0, none⟩) 3 3)).set (p := ⟨w.heap.size, 2, none⟩) (.inl (by simp)) (.slice (some ⟨bb + 1, 0, none⟩) 1 1)).set (p := ⟨w.heap.size, 3, none⟩) (.inl (by simp)) (.slice (some ⟨nb, 0, none⟩) 2 2)), ⟨_, _, _, _, set4_at Z1⟩, ⟨_, _, set4_far Z2 (by omega)⟩⟩ (fun hh => ?_)
      clear hK K hz1 hf1 hl1
      (try simp only [Act.put, List.setIfInBounds_toArray, List.set_cons_zero, List.set_cons_succ])
      replace KB := ((((KB.set (p := ⟨w.heap.size, 0, none⟩) (.inl (by simp)) (.int .i64 1)).set (p := ⟨w.heap.size, 1, none⟩) (.inl (by simp)) (.slice (some ⟨bb, 0, none⟩) 3 3)).set (p := ⟨w.heap.size, 2, none⟩) (.inl (by simp)) (.slice (some ⟨bb + 1, 0, none⟩) 1 1)).set (p := ⟨w.heap.size, 3, none⟩) (.inl (by simp)) (.slice (some ⟨nb, 0, none⟩) 2 2))
      replace Z1 := set4_at (v0 := .int .i64 1) (v1 := .slice (some ⟨bb, 0, none⟩) 3 3) (v2 := .slice (some ⟨bb + 1, 0, none⟩) 1 1) (v3 := .slice (some ⟨nb, 0, none⟩) 2 2) Z1
      replace Z2 := set4_far (v0 := .int .i64 1) (v1 := .slice (some ⟨bb, 0, none⟩) 3 3) (v2 := .slice (some ⟨bb + 1, 0, none⟩) 1 1) (v3 := .slice (some ⟨nb, 0, none⟩) 2 2) Z2 (show w.heap.size + 1 ≠ w.heap.size by omega)
      have hsV : ((((w8.setCell ⟨w.heap.size, 0, none⟩ (.int .i64 1)).setCell ⟨w.heap.size, 1, none⟩ (.slice (some ⟨bb, 0, none⟩) 3 3)).setCell ⟨w.heap.size, 2, none⟩ (.slice (some ⟨bb + 1, 0, none⟩) 1 1)).setCell ⟨w.heap.size, 3, none⟩ (.slice (some ⟨nb, 0, none⟩) 2 2)).heap.size = w8.heap.size := by simp
      generalize ((((w8.setCell ⟨w.heap.size, 0, none⟩ (.int .i64 1)).setCell ⟨w.heap.size, 1, none⟩ (.slice (some ⟨bb, 0, none⟩) 3 3)).setCell ⟨w.heap.size, 2, none⟩ (.slice (some ⟨bb + 1, 0, none⟩) 1 1)).setCell ⟨w.heap.size, 3, none⟩ (.slice (some ⟨nb, 0, none⟩) 2 2)) = V3 at *
      have HsV := Lib.hid hsV
      have hsW : W7.heap.size ≤ V3.heap.size := by omega
      clear hsV
      (refine wpAnyH_call1 (i := 3) (o := ?_) (by kernel_rfl) ?_ (fun K hK => ?_); rotate_left 1; (· simp only [List.getElem?_toArray, List.getElem?_cons_succ, List.getElem?_cons_zero]; try rfl); go_simp)
      go_simp
      refine hK.out _ _ ⟨KB.alloc1 (by omega) _, ⟨_, _, _, _, up_alloc Z1 _⟩, ⟨_, _, up_alloc Z2 _⟩⟩ (fun hHeld3 => ?_)
      clear hK K hh
      (try simp only [Act.put, List.setIfInBounds_toArray, List.set_cons_zero, List.set_cons_succ])
      have ZT := heap_alloc_new V3 (.cells #[.int .i64 0, .int .i64 1, .int .i64 1] 70 (0, 0))
      replace KB := KB.alloc1 (by omega) (.cells #[.int .i64 0, .int .i64 1, .int .i64 1] 70 (0, 0))
      replace Z1 := up_alloc Z1 (.cells #[.int .i64 0, .int .i64 1, .int .i64 1] 70 (0, 0))
      replace Z2 := up_alloc Z2 (.cells #[.int .i64 0, .int .i64 1, .int .i64 1] 70 (0, 0))
      have htb8 : W7.heap.size ≤ V3.heap.size := by omega
      generalize V3.alloc (.cells #[.int .i64 0, .int .i64 1, .int .i64 1] 70 (0, 0)) = V9 at *
      generalize V3.heap.size = tb at *
      (refine wpAnyH_take1 7 (oi := ?_) (v := ?_) ?_ (by kernel_rfl) (by kernel_rfl) (by kernel_rfl) (by assumption) ?_ ?_ ?_; rotate_left 2; (· simp only [List.getElem?_toArray, List.getElem?_cons_succ, List.getElem?_cons_zero]; try rfl); (· refine ⟨by kernel_rfl, ?_⟩; intro wq hSw; skip; go_simp; first | done | with_reducible rfl); (· exact fun _ _ _ h => h); try simp only [Act.put, List.setIfInBounds_toArray, List.set_cons_zero, List.set_cons_succ])
      have hz2 := box_cells Z2; have hf2 := box_free Z2; have hl2 := lt_blk Z2
      (refine wpAnyH_call1 (i := 8) (o := ?_) (by kernel_rfl) ?_ (fun K hK => ?_); rotate_left 1; (· simp only [List.getElem?_toArray, List.getElem?_cons_succ, List.getElem?_cons_zero]; try rfl); go_simp)
      refine hK.out _ _ ⟨(KB.set (p := ⟨w.heap.size + 1, 0, none⟩) (.inl (by simp)) (.int .i64 3)).set (p := ⟨w.heap.size + 1, 1, none⟩) (.inl (by simp)) (.slice a ms.length cap), ⟨_, _, _, _, set1_far (set1_far Z1 (by omega) _) (by omega) _⟩, ⟨_, _, rat2_at Z2⟩⟩ (fun hh2 => ?_)
      clear hK K
      (try simp only [Act.put, List.setIfInBounds_toArray, List.set_cons_zero, List.set_cons_succ])
      (refine wpAnyH_take1 9 (oi := ?_) (v := ?_) ?_ (by kernel_rfl) (by kernel_rfl) (by kernel_rfl) (by assumption) ?_ ?_ ?_; rotate_left 2; (· simp only [List.getElem?_toArray, List.getElem?_cons_succ, List.getElem?_cons_zero]; try rfl); (· refine ⟨by kernel_rfl, ?_⟩; intro wq hSw; skip; go_simp; first | done | with_reducible rfl); (· exact fun _ _ _ h => h); try simp only [Act.put, List.setIfInBounds_toArray, List.set_cons_zero, List.set_cons_succ])
      refine wpAnyH_done (by kernel_rfl) ?_ _
      refine NoPanic.normal ?_
      go_wp2
      go_meet
      case rel => exact ⟨_, rfl, rfl, htb8, set1_far (set1_far ZT (by omega) _) (by omega) _, set1_far (set1_far Z1 (by omega) _) (by omega) _, rat2_at Z2, (KB.set (.inl (by simp)) _).set (.inl (by simp)) _⟩
  case rest =>
  obtain ⟨tb, rfl, rfl, htb, xt, y1, y2, kb⟩ := hcut
  clear hc1 hf1 hc2 hf2
  have hc1 := box_cells y1; have hc2 := box_cells y2
  have hn7 := lt_blk HXs.out
  have hnn : ∀ k, k < W7.heap.size → k ≠ w.heap.size → k ≠ w.heap.size + 1 → wc.heap[k]? = W7.heap[k]? := fun k h1 h2 h3 => kb.block k h1 (by simp; omega)
  have hkk : ∀ k, k < W2.heap.size → W7.heap[k]? = W2.heap[k]? := fun k h => HBs.out.block k h
  have hz2 := HLn.out
  have hS2 := HBs.out.size
  have HSF := Lib.hid (HSc.out wc ((hnn bb (by omega) (by omega) (by omega)).trans (hkk bb (by omega))) ((hnn (bb + 1) (by omega) (by omega) (by omega)).trans (hkk (bb + 1) (by omega))) ((hnn nb (by omega) (by omega) (by omega)).trans (hkk nb (by omega))))
  have HTF := Lib.hid (show TeAt wc (some ⟨tb, 0, none⟩) xT from slAt_block xt (by decide) (by simp [xT, Te.cells]))
  have HMF := Lib.hid (HMe.out.keptSmall kb (fun c hc => by
    simp at hc
    rcases hc with rfl | rfl
    · exact ⟨_, _, _, HX1.out, by simp⟩
    · exact ⟨_, _, _, HX2.out, by simp⟩))
  have HBF := Lib.hid (show Below w.heap.size w wc from kb.onBelow HB.out HB.out.size (by simp))
  go_wp2
  subst hq
  exact bodyPost_ret (v := .tuple #[.agg #[.int .i64 1, .slice (some ⟨bb, 0, none⟩) 3 3, .slice (some ⟨bb + 1, 0, none⟩) 1 1, .slice (some ⟨nb, 0, none⟩) 2 2], .slice (some ⟨tb, 0, none⟩) 1 1, .agg #[.int .i64 3, .slice a ms.length cap], .int .i64 0]) (by simp [results, Tryz.results31, go_sem, hc1, hc2]) rfl ⟨_, _, _, _, _, _, rfl, HSF.out, HTF.out, HMF.out, HSy.out, HBF.out⟩
open Go.RowKit Go.Sort

theorem eql_free (x0 x1 x2 x3 y0 y1 y2 y3 : Int) (w : World) : (binOp .eql 36 (.agg #[.int .i64 x0, .int .i64 x1, .int .i64 x2, .int .i64 x3]) (.agg #[.int .i64 y0, .int .i64 y1, .int .i64 y2, .int .i64 y3])).run Tryz.prog w = .ok (.bool (x0 == y0 && (x1 == y1 && (x2 == y2 && x3 == y3)))) w := by
  rw [run_eql_struct]
  simp [go_sem]
  by_cases h0 : x0 = y0
  · simp [h0]
    by_cases h1 : x1 = y1
    · simp [h1]
      by_cases h2 : x2 = y2
      · simp [h2]
        by_cases h3 : x3 = y3 <;> simp [h3]
      · simp [h2]
    · simp [h1]
  · simp [h0]
theorem TurnW.of_ex {w : World} {q : Sp} {ta : Option Addr} {a : Option Addr} {ms : List Me} (h1 : ScAt w xS q) (h2 : Env w) (h3 : TeAt w ta xT) (h4 : MeAt w a ms) (h5 : ms.map Me.says = xV) : TurnW w xS q ta xT a ms :=
  ⟨⟨by decide, by decide, by decide⟩, h1, h2, by have := congrArg List.length h5; rw [List.length_map] at this; rw [this]; decide, fun m hm => x_few m.says (by rw [← h5]; exact List.mem_map_of_mem hm), h4, h3, by decide⟩
set_option maxRecDepth 100000 in
set_option maxHeartbeats 8000000 in
theorem head25_any (w : World) (hE : Env w) : Calls Tryz.prog 9 #[] w fun e w' => e = .returned (.bool true) ∧ Below w.heap.size w w' := by
  have HE := Lib.hid hE; clear hE
  have HB0 := Lib.hid (Below.refl w.heap.size w)
  go_enter Tryz.func9, Tryz.ntmps9
  go_upto_region 2 with (go_at_call 31; refine (ex25_any _ HE.out).mono ?_; rintro e w1 ⟨⟨ab, cb, ap, cp, an, cn⟩, ta, tc, a, cap, ms, rfl, h1, h2, h3, h4, hb⟩; have HW := Lib.hid (TurnW.of_ex h1 (HE.out.below hb) h2 h3 h4); have HSy := Lib.hid h4; have HBw := Lib.hid hb; clear h1 h2 h3 h4 hb)
  clear HB0
  have HX1 := Lib.hid (up_alloc (heap_alloc_new w1 (.cells #[.int .i64 1, .slice ab 3 cb, .slice ap 1 cp, .slice an 2 cn] 26 (0, 0))) (.cells #[.int .i64 3, .slice a ms.length cap] 30 (0, 0)))
  have HX2 := Lib.hid (at_alloc (w1.alloc (.cells #[.int .i64 1, .slice ab 3 cb, .slice ap 1 cp, .slice an 2 cn] 26 (0, 0))) (.cells #[.int .i64 3, .slice a ms.length cap] 30 (0, 0)) (k := w1.heap.size + 1) (by simp))
  have HB := Lib.hid (((Below.refl w1.heap.size w1).alloc (Nat.le_refl _) (.cells #[.int .i64 1, .slice ab 3 cb, .slice ap 1 cp, .slice an 2 cn] 26 (0, 0))).alloc (by simp) (.cells #[.int .i64 3, .slice a ms.length cap] 30 (0, 0)))
  rw [show (.cells #[.int .i64 xS.version, .slice (⟨ab, cb, ap, cp, an, cn⟩ : Sp).ab xS.bars.length (⟨ab, cb, ap, cp, an, cn⟩ : Sp).cb, .slice (⟨ab, cb, ap, cp, an, cn⟩ : Sp).ap xS.parts.length (⟨ab, cb, ap, cp, an, cn⟩ : Sp).cp, .slice (⟨ab, cb, ap, cp, an, cn⟩ : Sp).an xS.notes.length (⟨ab, cb, ap, cp, an, cn⟩ : Sp).cn] 26 : Obj) = .cells #[.int .i64 1, .slice ab 3 cb, .slice ap 1 cp, .slice an 2 cn] 26 (0, 0) from rfl]
  generalize (w1.alloc (.cells #[.int .i64 1, .slice ab 3 cb, .slice ap 1 cp, .slice an 2 cn] 26 (0, 0))).alloc (.cells #[.int .i64 3, .slice a ms.length cap] 30 (0, 0)) = W1 at *
  have hc1 := box_cells HX1.out; have hc2 := box_cells HX2.out
  have HF1 := Lib.hid (fun V (hV : Below w1.heap.size w1 V) => show Calls Tryz.prog 11 #[.agg #[.int .i64 1, .slice ab 3 cb, .slice ap 1 cp, .slice an 2 cn], .slice ta 1 tc, .agg #[.int .i64 3, .slice a ms.length cap], .int .i64 1] V (fun e w' => e = .returned (.tuple #[.agg #[.int .i64 1, .int .i64 1, .int .i64 6, .int .i64 1], .int .i64 0]) ∧ Below V.heap.size V w') from by have h := PFree25_any xS ⟨ab, cb, ap, cp, an, cn⟩ 3 a cap ms ta tc xT 1 V (HW.out.below hV); rw [HSy.out, x_free1] at h; exact h)
  have HF2 := Lib.hid (fun V (hV : Below w1.heap.size w1 V) => show Calls Tryz.prog 11 #[.agg #[.int .i64 1, .slice ab 3 cb, .slice ap 1 cp, .slice an 2 cn], .slice ta 1 tc, .agg #[.int .i64 3, .slice a ms.length cap], .int .i64 2] V (fun e w' => e = .returned (.tuple #[.agg #[.int .i64 5, .int .i64 1, .int .i64 2, .int .i64 1], .int .i64 0]) ∧ Below V.heap.size V w') from by have h := PFree25_any xS ⟨ab, cb, ap, cp, an, cn⟩ 3 a cap ms ta tc xT 2 V (HW.out.below hV); rw [HSy.out, x_free2] at h; exact h)
  have HF3 := Lib.hid (fun V (hV : Below w1.heap.size w1 V) => show Calls Tryz.prog 11 #[.agg #[.int .i64 1, .slice ab 3 cb, .slice ap 1 cp, .slice an 2 cn], .slice ta 1 tc, .agg #[.int .i64 3, .slice a ms.length cap], .int .i64 3] V (fun e w' => e = .returned (.tuple #[.agg #[.int .i64 1, .int .i64 1, .int .i64 0, .int .i64 1], .int .i64 0]) ∧ Below V.heap.size V w') from by have h := PFree25_any xS ⟨ab, cb, ap, cp, an, cn⟩ 3 a cap ms ta tc xT 3 V (HW.out.below hV); rw [HSy.out, x_free3] at h; exact h)
  have HF4 := Lib.hid (fun V (hV : Below w1.heap.size w1 V) => show Calls Tryz.prog 11 #[.agg #[.int .i64 1, .slice ab 3 cb, .slice ap 1 cp, .slice an 2 cn], .slice ta 1 tc, .agg #[.int .i64 3, .slice a ms.length cap], .int .i64 4] V (fun e w' => e = .returned (.tuple #[.agg #[.int .i64 0, .int .i64 0, .int .i64 0, .int .i64 0], .int .i64 1]) ∧ Below V.heap.size V w') from by have h := PFree25_any xS ⟨ab, cb, ap, cp, an, cn⟩ 3 a cap ms ta tc xT 4 V (HW.out.below hV); rw [HSy.out, x_free4] at h; exact h)
  have HG1 := Lib.hid (fun V (hV : Below w1.heap.size w1 V) => show Calls Tryz.prog 13 #[.agg #[.int .i64 1, .slice ab 3 cb, .slice ap 1 cp, .slice an 2 cn], .slice ta 1 tc, .agg #[.int .i64 3, .slice a ms.length cap], .agg #[.int .i64 7, .int .i64 1]] V (RetSlI 1 ([false, true, true].map boRow) 0 V) from by have h := PGood25_any xS ⟨ab, cb, ap, cp, an, cn⟩ 3 a cap ms ta tc xT ⟨7, 1⟩ V (HW.out.below hV); rw [HSy.out, x_good] at h; exact h)
  have HG2 := Lib.hid (fun V (hV : Below w1.heap.size w1 V) => show Calls Tryz.prog 13 #[.agg #[.int .i64 1, .slice ab 3 cb, .slice ap 1 cp, .slice an 2 cn], .slice none 0 0, .agg #[.int .i64 3, .slice a ms.length cap], .agg #[.int .i64 7, .int .i64 1]] V (RetSlI 1 [] 1 V) from by
    have h0 := HW.out.below hV
    have h := PGood25_any xS ⟨ab, cb, ap, cp, an, cn⟩ 3 a cap ms none 0 [] ⟨7, 1⟩ V ⟨h0.few, h0.sc, h0.env, h0.ml, h0.nl, h0.me, SlAt.nil _ _ _, by decide⟩
    rw [HSy.out, x_good0] at h
    exact h)
  have HRa := Lib.hid (fun n d V => rat25_any n d V)
  go_upto_region 3 with (go_at_call 11; refine (HF1.out _ HB.out).mono ?_; rintro e w6 ⟨rfl, hb⟩; clear hc1 hc2; replace HX1 := Lib.hid (blk_keep HX1.out hb); replace HX2 := Lib.hid (blk_keep HX2.out hb); (try replace HX3 := Lib.hid (blk_keep HX3.out hb)); (try replace HX4 := Lib.hid (blk_keep HX4.out hb)); (try replace HX5 := Lib.hid (blk_keep HX5.out hb)); (try replace HGd := Lib.hid (SlAt.below HGd.out hb)); replace HB := Lib.hid (HB.out.trans (hb.mono HB.out.size)); clear hb; have hc1 := box_cells HX1.out; have hc2 := box_cells HX2.out)
  have HX3 := Lib.hid (heap_alloc_new w6 (.cells #[.int .i64 1, .int .i64 1, .int .i64 6, .int .i64 1] 36 (0, 0))); have hb := (Below.refl w6.heap.size w6).alloc (Nat.le_refl _) (.cells #[.int .i64 1, .int .i64 1, .int .i64 6, .int .i64 1] 36 (0, 0)); clear hc1 hc2; replace HX1 := Lib.hid (blk_keep HX1.out hb); replace HX2 := Lib.hid (blk_keep HX2.out hb); (try replace HX3 := Lib.hid (blk_keep HX3.out hb)); (try replace HX4 := Lib.hid (blk_keep HX4.out hb)); (try replace HX5 := Lib.hid (blk_keep HX5.out hb)); (try replace HGd := Lib.hid (SlAt.below HGd.out hb)); replace HB := Lib.hid (HB.out.trans (hb.mono HB.out.size)); clear hb; generalize w6.alloc (.cells #[.int .i64 1, .int .i64 1, .int .i64 6, .int .i64 1] 36 (0, 0)) = W2 at *; generalize w6.heap.size = b3 at *; have hc1 := box_cells HX1.out; have hc2 := box_cells HX2.out
  go_upto_region 4 with (go_at_call 11; refine (HF2.out _ HB.out).mono ?_; rintro e w6 ⟨rfl, hb⟩; clear hc1 hc2; replace HX1 := Lib.hid (blk_keep HX1.out hb); replace HX2 := Lib.hid (blk_keep HX2.out hb); (try replace HX3 := Lib.hid (blk_keep HX3.out hb)); (try replace HX4 := Lib.hid (blk_keep HX4.out hb)); (try replace HX5 := Lib.hid (blk_keep HX5.out hb)); (try replace HGd := Lib.hid (SlAt.below HGd.out hb)); replace HB := Lib.hid (HB.out.trans (hb.mono HB.out.size)); clear hb; have hc1 := box_cells HX1.out; have hc2 := box_cells HX2.out)
  have HX4 := Lib.hid (heap_alloc_new w6 (.cells #[.int .i64 5, .int .i64 1, .int .i64 2, .int .i64 1] 36 (0, 0))); have hb := (Below.refl w6.heap.size w6).alloc (Nat.le_refl _) (.cells #[.int .i64 5, .int .i64 1, .int .i64 2, .int .i64 1] 36 (0, 0)); clear hc1 hc2; replace HX1 := Lib.hid (blk_keep HX1.out hb); replace HX2 := Lib.hid (blk_keep HX2.out hb); (try replace HX3 := Lib.hid (blk_keep HX3.out hb)); (try replace HX4 := Lib.hid (blk_keep HX4.out hb)); (try replace HX5 := Lib.hid (blk_keep HX5.out hb)); (try replace HGd := Lib.hid (SlAt.below HGd.out hb)); replace HB := Lib.hid (HB.out.trans (hb.mono HB.out.size)); clear hb; generalize w6.alloc (.cells #[.int .i64 5, .int .i64 1, .int .i64 2, .int .i64 1] 36 (0, 0)) = W3 at *; generalize w6.heap.size = b4 at *; have hc1 := box_cells HX1.out; have hc2 := box_cells HX2.out
  go_upto_region 5 with (go_at_call 11; refine (HF3.out _ HB.out).mono ?_; rintro e w6 ⟨rfl, hb⟩; clear hc1 hc2; replace HX1 := Lib.hid (blk_keep HX1.out hb); replace HX2 := Lib.hid (blk_keep HX2.out hb); (try replace HX3 := Lib.hid (blk_keep HX3.out hb)); (try replace HX4 := Lib.hid (blk_keep HX4.out hb)); (try replace HX5 := Lib.hid (blk_keep HX5.out hb)); (try replace HGd := Lib.hid (SlAt.below HGd.out hb)); replace HB := Lib.hid (HB.out.trans (hb.mono HB.out.size)); clear hb; have hc1 := box_cells HX1.out; have hc2 := box_cells HX2.out)
  have HX5 := Lib.hid (heap_alloc_new w6 (.cells #[.int .i64 1, .int .i64 1, .int .i64 0, .int .i64 1] 36 (0, 0))); have hb := (Below.refl w6.heap.size w6).alloc (Nat.le_refl _) (.cells #[.int .i64 1, .int .i64 1, .int .i64 0, .int .i64 1] 36 (0, 0)); clear hc1 hc2; replace HX1 := Lib.hid (blk_keep HX1.out hb); replace HX2 := Lib.hid (blk_keep HX2.out hb); (try replace HX3 := Lib.hid (blk_keep HX3.out hb)); (try replace HX4 := Lib.hid (blk_keep HX4.out hb)); (try replace HX5 := Lib.hid (blk_keep HX5.out hb)); (try replace HGd := Lib.hid (SlAt.below HGd.out hb)); replace HB := Lib.hid (HB.out.trans (hb.mono HB.out.size)); clear hb; generalize w6.alloc (.cells #[.int .i64 1, .int .i64 1, .int .i64 0, .int .i64 1] 36 (0, 0)) = W4 at *; generalize w6.heap.size = b5 at *; have hc1 := box_cells HX1.out; have hc2 := box_cells HX2.out
  clear HF1 HF2 HF3
  go_cut [11, 12] (fun s11 s12 V => ∃ ga gc, s11 = .slice ga 3 gc ∧ s12 = .int .i64 0 ∧ BoAt V ga [false, true, true] ∧ Below W4.heap.size W4 V)
  case first =>
    have HBr := Lib.hid (RowKit.Below.refl W4.heap.size W4)
    have j0 : W4.cell? ⟨w1.heap.size, 0, none⟩ = some (.int .i64 1) := hc1 0
    have j1 : W4.cell? ⟨w1.heap.size, 1, none⟩ = some (.slice ab 3 cb) := hc1 1
    have j2 : W4.cell? ⟨w1.heap.size, 2, none⟩ = some (.slice ap 1 cp) := hc1 2
    have j3 : W4.cell? ⟨w1.heap.size, 3, none⟩ = some (.slice an 2 cn) := hc1 3
    have j4 := hc2 0; have j5 := hc2 1
    have KS := Lib.hid (fun W (hb : RowKit.Below W4.heap.size W4 W) => show W.cell? ⟨w1.heap.size, 0, none⟩ = some (.int .i64 1) ∧ W.cell? ⟨w1.heap.size, 1, none⟩ = some (.slice ab 3 cb) ∧ W.cell? ⟨w1.heap.size, 2, none⟩ = some (.slice ap 1 cp) ∧ W.cell? ⟨w1.heap.size, 3, none⟩ = some (.slice an 2 cn) ∧ W.cell? ⟨w1.heap.size + 1, 0, none⟩ = some (.int .i64 3) ∧ W.cell? ⟨w1.heap.size + 1, 1, none⟩ = some (.slice a ms.length cap) from ⟨keepE j0 hb, keepE j1 hb, keepE j2 hb, keepE j3 hb, keepE j4 hb, keepE j5 hb⟩)
    have HG12 := Lib.hid (fun V (hV : RowKit.Below W4.heap.size W4 V) => HG1.out V (HB.out.trans (hV.mono HB.out.size)))
    clear j0 j1 j2 j3 j4 j5 hc1 hc2
    go_region_held3 (fun W => W.cell? ⟨w1.heap.size, 0, none⟩ = some (.int .i64 1) ∧ W.cell? ⟨w1.heap.size, 1, none⟩ = some (.slice ab 3 cb) ∧ W.cell? ⟨w1.heap.size, 2, none⟩ = some (.slice ap 1 cp) ∧ W.cell? ⟨w1.heap.size, 3, none⟩ = some (.slice an 2 cn) ∧ W.cell? ⟨w1.heap.size + 1, 0, none⟩ = some (.int .i64 3) ∧ W.cell? ⟨w1.heap.size + 1, 1, none⟩ = some (.slice a ms.length cap))
      ((refine KS.out _ ?_; (repeat (first | exact HBr.out | with_reducible exact RowKit.Below.refl _ _ | with_reducible refine RowKit.Below.drew ?_ | with_reducible refine RowKit.Below.alloc ?_ (by first | (simp <;> omega) | (have := HBr.out.size; simp <;> omega)) _ | with_reducible refine RowKit.Below.setCell ?_ (by first | (simp <;> omega) | (have := HBr.out.size; simp <;> omega)) _))))
      ((first | (go_at_call 18; refine (HRa.out _ _ _).mono ?_; rintro e w5 ⟨rfl, hb⟩; (try replace hb := drewB hb); replace HBr := Lib.hid (HBr.out.trans (hb.mono HBr.out.size)); clear hb) | (go_at_call 13; refine (HG12.out _ (by (repeat (first | exact HBr.out | with_reducible exact RowKit.Below.refl _ _ | with_reducible refine RowKit.Below.drew ?_ | with_reducible refine RowKit.Below.alloc ?_ (by first | (simp <;> omega) | (have := HBr.out.size; simp <;> omega)) _ | with_reducible refine RowKit.Below.setCell ?_ (by first | (simp <;> omega) | (have := HBr.out.size; simp <;> omega)) _)))).mono ?_; rintro e w5 ⟨ga, gc, rfl, hok, hsl, hb⟩; have HGd := Lib.hid hsl; replace HBr := Lib.hid (HBr.out.trans (hb.mono HBr.out.size)); clear hb hok hsl)))
    all_goals
      go_wp2
      go_meet
      case rel => exact ⟨_, _, rfl, rfl, HGd.out, HBr.out⟩
  case rest =>
  obtain ⟨ga, gc, rfl, rfl, hgd, hb⟩ := hcut
  have HGd := Lib.hid hgd
  clear hgd hc1 hc2
  replace HX1 := Lib.hid (blk_keep HX1.out hb); replace HX2 := Lib.hid (blk_keep HX2.out hb); replace HX3 := Lib.hid (blk_keep HX3.out hb); replace HX4 := Lib.hid (blk_keep HX4.out hb); replace HX5 := Lib.hid (blk_keep HX5.out hb); replace HB := Lib.hid (HB.out.trans (hb.mono HB.out.size))
  clear hb
  have hc1 := box_cells HX1.out; have hc2 := box_cells HX2.out
  go_upto_region 7 with (go_at_call 11; refine (HF4.out _ HB.out).mono ?_; rintro e w6 ⟨rfl, hb⟩; clear hc1 hc2; replace HX1 := Lib.hid (blk_keep HX1.out hb); replace HX2 := Lib.hid (blk_keep HX2.out hb); (try replace HX3 := Lib.hid (blk_keep HX3.out hb)); (try replace HX4 := Lib.hid (blk_keep HX4.out hb)); (try replace HX5 := Lib.hid (blk_keep HX5.out hb)); (try replace HGd := Lib.hid (SlAt.below HGd.out hb)); replace HB := Lib.hid (HB.out.trans (hb.mono HB.out.size)); clear hb; have hc1 := box_cells HX1.out; have hc2 := box_cells HX2.out)
  have hb := (Below.refl w6.heap.size w6).alloc (Nat.le_refl _) (.cells #[.int .i64 0, .int .i64 0, .int .i64 0, .int .i64 0] 36 (0, 0))
  clear hc1 hc2
  replace HX1 := Lib.hid (blk_keep HX1.out hb); replace HX2 := Lib.hid (blk_keep HX2.out hb); (try replace HX3 := Lib.hid (blk_keep HX3.out hb)); (try replace HX4 := Lib.hid (blk_keep HX4.out hb)); (try replace HX5 := Lib.hid (blk_keep HX5.out hb)); (try replace HGd := Lib.hid (SlAt.below HGd.out hb)); replace HB := Lib.hid (HB.out.trans (hb.mono HB.out.size)); clear hb
  generalize w6.alloc (.cells #[.int .i64 0, .int .i64 0, .int .i64 0, .int .i64 0] 36 (0, 0)) = W6 at *
  have hc1 := box_cells HX1.out; have hc2 := box_cells HX2.out
  go_cut [15, 16] (fun s15 s16 V => ∃ za zc, s15 = .slice za 0 zc ∧ s16 = .int .i64 1 ∧ Below W6.heap.size W6 V)
  case first =>
    have HBr := Lib.hid (RowKit.Below.refl W6.heap.size W6)
    have j0 : W6.cell? ⟨w1.heap.size, 0, none⟩ = some (.int .i64 1) := hc1 0
    have j1 : W6.cell? ⟨w1.heap.size, 1, none⟩ = some (.slice ab 3 cb) := hc1 1
    have j2 : W6.cell? ⟨w1.heap.size, 2, none⟩ = some (.slice ap 1 cp) := hc1 2
    have j3 : W6.cell? ⟨w1.heap.size, 3, none⟩ = some (.slice an 2 cn) := hc1 3
    have j4 := hc2 0; have j5 := hc2 1
    have KS := Lib.hid (fun W (hb : RowKit.Below W6.heap.size W6 W) => show W.cell? ⟨w1.heap.size, 0, none⟩ = some (.int .i64 1) ∧ W.cell? ⟨w1.heap.size, 1, none⟩ = some (.slice ab 3 cb) ∧ W.cell? ⟨w1.heap.size, 2, none⟩ = some (.slice ap 1 cp) ∧ W.cell? ⟨w1.heap.size, 3, none⟩ = some (.slice an 2 cn) ∧ W.cell? ⟨w1.heap.size + 1, 0, none⟩ = some (.int .i64 3) ∧ W.cell? ⟨w1.heap.size + 1, 1, none⟩ = some (.slice a ms.length cap) from ⟨keepE j0 hb, keepE j1 hb, keepE j2 hb, keepE j3 hb, keepE j4 hb, keepE j5 hb⟩)
    have HG22 := Lib.hid (fun V (hV : RowKit.Below W6.heap.size W6 V) => HG2.out V (HB.out.trans (hV.mono HB.out.size)))
    clear j0 j1 j2 j3 j4 j5 hc1 hc2
    go_region_held3 (fun W => W.cell? ⟨w1.heap.size, 0, none⟩ = some (.int .i64 1) ∧ W.cell? ⟨w1.heap.size, 1, none⟩ = some (.slice ab 3 cb) ∧ W.cell? ⟨w1.heap.size, 2, none⟩ = some (.slice ap 1 cp) ∧ W.cell? ⟨w1.heap.size, 3, none⟩ = some (.slice an 2 cn) ∧ W.cell? ⟨w1.heap.size + 1, 0, none⟩ = some (.int .i64 3) ∧ W.cell? ⟨w1.heap.size + 1, 1, none⟩ = some (.slice a ms.length cap))
      ((refine KS.out _ ?_; (repeat (first | exact HBr.out | with_reducible exact RowKit.Below.refl _ _ | with_reducible refine RowKit.Below.drew ?_ | with_reducible refine RowKit.Below.alloc ?_ (by first | (simp <;> omega) | (have := HBr.out.size; simp <;> omega)) _ | with_reducible refine RowKit.Below.setCell ?_ (by first | (simp <;> omega) | (have := HBr.out.size; simp <;> omega)) _))))
      ((first | (go_at_call 18; refine (HRa.out _ _ _).mono ?_; rintro e w5 ⟨rfl, hb⟩; (try replace hb := drewB hb); replace HBr := Lib.hid (HBr.out.trans (hb.mono HBr.out.size)); clear hb) | (go_at_call 13; refine (HG22.out _ (by (repeat (first | exact HBr.out | with_reducible exact RowKit.Below.refl _ _ | with_reducible refine RowKit.Below.drew ?_ | with_reducible refine RowKit.Below.alloc ?_ (by first | (simp <;> omega) | (have := HBr.out.size; simp <;> omega)) _ | with_reducible refine RowKit.Below.setCell ?_ (by first | (simp <;> omega) | (have := HBr.out.size; simp <;> omega)) _)))).mono ?_; rintro e w5 ⟨za, zc, rfl, hok, hsl, hb⟩; replace HBr := Lib.hid (HBr.out.trans (hb.mono HBr.out.size)); clear hb hok hsl)))
    all_goals
      go_wp2
      go_meet
      case rel => exact ⟨_, _, rfl, rfl, HBr.out⟩
  case rest =>
  obtain ⟨za, zc, rfl, rfl, hb⟩ := hcut
  clear hc1 hc2
  replace HX1 := Lib.hid (blk_keep HX1.out hb); replace HX2 := Lib.hid (blk_keep HX2.out hb); (try replace HX3 := Lib.hid (blk_keep HX3.out hb)); (try replace HX4 := Lib.hid (blk_keep HX4.out hb)); (try replace HX5 := Lib.hid (blk_keep HX5.out hb)); (try replace HGd := Lib.hid (SlAt.below HGd.out hb)); replace HB := Lib.hid (HB.out.trans (hb.mono HB.out.size)); clear hb
  have hc3 := box_cells HX3.out; have hc4 := box_cells HX4.out; have hc5 := box_cells HX5.out
  go_upto_region 9 with (fail)
  generalize wc = W8 at *
  have HBr := Lib.hid (RowKit.Below.refl W8.heap.size W8)
  have HSm := Lib.hid (fun V (ga : Option Addr) gc (nb : Nat) (h1 : BoAt V ga [false, true, true]) (h2 : BoAt V (some ⟨nb, 0, none⟩) [false, true, true]) => show Calls Tryz.prog 15 #[.slice ga 3 gc, .slice (some ⟨nb, 0, none⟩) 3 3] V (fun e w' => e = .returned (.bool true) ∧ Below V.heap.size V w') from RSame25_any ga (some ⟨nb, 0, none⟩) gc 3 [false, true, true] [false, true, true] V h1 h2 (by decide) (by decide))
  have HGw := Lib.hid (fun V (hV : RowKit.Below W8.heap.size W8 V) => show BoAt V ga [false, true, true] from SlAt.below HGd.out hV)
  have HNb := Lib.hid (fun (V : World) => show BoAt (V.alloc (.cells #[.bool false, .bool true, .bool true] 4)) (some ⟨V.heap.size, 0, none⟩) [false, true, true] from SlAt.new V [.bool false, .bool true, .bool true] 4 1 _ (by decide) (by simp [boRow]))
  have heq := fun x0 x1 x2 x3 y0 y1 y2 y3 W => eql_free x0 x1 x2 x3 y0 y1 y2 y3 W
  have KS := Lib.hid (fun W (hb : RowKit.Below W8.heap.size W8 W) => show W.cell? ⟨b3, 0, none⟩ = some (.int .i64 1) ∧ W.cell? ⟨b3, 1, none⟩ = some (.int .i64 1) ∧ W.cell? ⟨b3, 2, none⟩ = some (.int .i64 6) ∧ W.cell? ⟨b3, 3, none⟩ = some (.int .i64 1) ∧ W.cell? ⟨b4, 0, none⟩ = some (.int .i64 5) ∧ W.cell? ⟨b4, 1, none⟩ = some (.int .i64 1) ∧ W.cell? ⟨b4, 2, none⟩ = some (.int .i64 2) ∧ W.cell? ⟨b4, 3, none⟩ = some (.int .i64 1) ∧ W.cell? ⟨b5, 0, none⟩ = some (.int .i64 1) ∧ W.cell? ⟨b5, 1, none⟩ = some (.int .i64 1) ∧ W.cell? ⟨b5, 2, none⟩ = some (.int .i64 0) ∧ W.cell? ⟨b5, 3, none⟩ = some (.int .i64 1) from ⟨keepE (hc3 0) hb, keepE (hc3 1) hb, keepE (hc3 2) hb, keepE (hc3 3) hb, keepE (hc4 0) hb, keepE (hc4 1) hb, keepE (hc4 2) hb, keepE (hc4 3) hb, keepE (hc5 0) hb, keepE (hc5 1) hb, keepE (hc5 2) hb, keepE (hc5 3) hb⟩)
  clear hc3 hc4 hc5
  go_region_held3 (fun W => W.cell? ⟨b3, 0, none⟩ = some (.int .i64 1) ∧ W.cell? ⟨b3, 1, none⟩ = some (.int .i64 1) ∧ W.cell? ⟨b3, 2, none⟩ = some (.int .i64 6) ∧ W.cell? ⟨b3, 3, none⟩ = some (.int .i64 1) ∧ W.cell? ⟨b4, 0, none⟩ = some (.int .i64 5) ∧ W.cell? ⟨b4, 1, none⟩ = some (.int .i64 1) ∧ W.cell? ⟨b4, 2, none⟩ = some (.int .i64 2) ∧ W.cell? ⟨b4, 3, none⟩ = some (.int .i64 1) ∧ W.cell? ⟨b5, 0, none⟩ = some (.int .i64 1) ∧ W.cell? ⟨b5, 1, none⟩ = some (.int .i64 1) ∧ W.cell? ⟨b5, 2, none⟩ = some (.int .i64 0) ∧ W.cell? ⟨b5, 3, none⟩ = some (.int .i64 1))
    ((refine KS.out _ ?_; (repeat (first | exact HBr.out | with_reducible exact RowKit.Below.refl _ _ | with_reducible refine RowKit.Below.drew ?_ | with_reducible refine RowKit.Below.alloc ?_ (by first | (simp <;> omega) | (have := HBr.out.size; simp <;> omega)) _ | with_reducible refine RowKit.Below.setCell ?_ (by first | (simp <;> omega) | (have := HBr.out.size; simp <;> omega)) _))))
    ((first | (go_at_call 18; refine (HRa.out _ _ _).mono ?_; rintro e w5 ⟨rfl, hb⟩; (try replace hb := drewB hb); replace HBr := Lib.hid (HBr.out.trans (hb.mono HBr.out.size)); clear hb) | (go_at_call 15; refine (HSm.out _ _ _ _ (HGw.out _ (by (repeat (first | exact HBr.out | with_reducible exact RowKit.Below.refl _ _ | with_reducible refine RowKit.Below.drew ?_ | with_reducible refine RowKit.Below.alloc ?_ (by first | (simp <;> omega) | (have := HBr.out.size; simp <;> omega)) _ | with_reducible refine RowKit.Below.setCell ?_ (by first | (simp <;> omega) | (have := HBr.out.size; simp <;> omega)) _)))) (HNb.out _)).mono ?_; rintro e w5 ⟨rfl, hb⟩; replace hb := allocB hb; replace HBr := Lib.hid (HBr.out.trans (hb.mono HBr.out.size)); clear hb)))
  all_goals
    go_wp2
    go_ret
    exact ⟨rfl, (HBw.out.trans (HB.out.mono HBw.out.size)).trans (HBr.out.mono (HBw.out.trans (HB.out.mono HBw.out.size)).size)⟩
end Go.Proofs.YtcelciomhngajaaGreatDoor

