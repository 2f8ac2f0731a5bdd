/- Texts of this seat, laid together: RegLib, PlanCl, PlanProg5. -/
import Derived.Test.YtehdhbnbajfanaaGreatGA
import Derived.Deep.RegionHeld3
import Derived.Test.YtehdhbnbajfanaaGreatGM
import Derived.Test.YtehdhbnbajfanaaGreatGN

/- Drawn regions walked by hand: an operation taken first, the only one that may come up, one of two. -/
namespace Go.Proofs.YtehdhbnbajfanaaGreat
set_option linter.unusedSimpArgs false
set_option linter.unusedVariables false
open Go.RowKit Go.Sort

theorem wpAnyH_take1 {P : Program} {md : Region.Mode} {ops : Array Oper} {Q : Exit → Act → World → Prop} {S : World → Prop} (i : Nat) {oi : Oper} {v : Value} {fuel : Nat} {listed : Array Bool} {a : Act} {w : World} (hi : ops[i]? = some oi)
    (hs : Region.noSelect ops = true) (hf : Region.free md ops listed i = true) (hr : (Region.ready md ops listed).contains i = true) (hS : S w)
    (hy : Region.wanted oi (yielded ops a.tmps) = true ∧ ∀ w, S w → (execOp a.eval oi).run P w = .ok (.value v) w) (hQ : ∀ c a w, Q (.panic c) (Act.put a oi.dst v) w → Q (.panic c) a w) (h : wpAnyH P md ops Q S fuel (listed.setIfInBounds i true) (a.put oi.dst v) w) : wpAnyH P md ops Q S (fuel + 1) listed a w :=
  wpAnyH_take hi hs hf hr hQ (.inl hy) hS h
theorem wpAnyH_take0 {P : Program} {md : Region.Mode} {ops : Array Oper} {Q : Exit → Act → World → Prop} {S : World → Prop} (i : Nat) {oi : Oper} {fuel : Nat} {listed : Array Bool} {a : Act} {w : World} (hi : ops[i]? = some oi)
    (hs : Region.noSelect ops = true) (hf : Region.free md ops listed i = true) (hr : (Region.ready md ops listed).contains i = true) (hS : S w)
    (hy : Region.wanted oi (yielded ops a.tmps) = false) (hQ : ∀ c a w, Q (.panic c) (Act.put a oi.dst undef) w → Q (.panic c) a w) (h : wpAnyH P md ops Q S fuel (listed.setIfInBounds i true) (a.put oi.dst undef) w) : wpAnyH P md ops Q S (fuel + 1) listed a w :=
  wpAnyH_take hi hs hf hr hQ (.inr ⟨hy, rfl⟩) hS h
theorem wpAnyH_call1 {P : Program} {md : Region.Mode} {ops : Array Oper} {Q : Exit → Act → World → Prop} {S : World → Prop} {i : Nat} {o : Oper} {fuel : Nat} {listed : Array Bool} {a : Act} {w : World} (hr : Region.ready md ops listed = [i]) (ho : ops[i]? = some o)
    (h : ∀ K' : Act → World → Prop, Shut (∀ a w, S w → (S w → wpAnyH P md ops Q S fuel (listed.setIfInBounds i true) a w) → K' a w) → if Region.wanted o (yielded ops a.tmps) = true then Oper.wp P o a w K' Q else K' (a.put o.dst undef) w) : wpAnyH P md ops Q S (fuel + 1) listed a w :=
  wpAnyH_ready hr (by simp) (AllReadyH.cons ho h AllReadyH.nil)
theorem wpAnyH_two {P : Program} {md : Region.Mode} {ops : Array Oper} {Q : Exit → Act → World → Prop} {S : World → Prop} {i j : Nat} {o o' : Oper} {fuel : Nat} {listed : Array Bool} {a : Act} {w : World} (hr : Region.ready md ops listed = [i, j]) (ho : ops[i]? = some o) (ho' : ops[j]? = some o')
    (h : ∀ K' : Act → World → Prop, Shut (∀ a w, S w → (S w → wpAnyH P md ops Q S fuel (listed.setIfInBounds i true) a w) → K' a w) → if Region.wanted o (yielded ops a.tmps) = true then Oper.wp P o a w K' Q else K' (a.put o.dst undef) w)
    (h' : ∀ K' : Act → World → Prop, Shut (∀ a w, S w → (S w → wpAnyH P md ops Q S fuel (listed.setIfInBounds j true) a w) → K' a w) → if Region.wanted o' (yielded ops a.tmps) = true then Oper.wp P o' a w K' Q else K' (a.put o'.dst undef) w) : wpAnyH P md ops Q S (fuel + 1) listed a w :=
  wpAnyH_ready hr (by simp) (AllReadyH.cons ho h (AllReadyH.cons ho' h' AllReadyH.nil))
end Go.Proofs.YtehdhbnbajfanaaGreat


/- The closures of plan.Refuses: walked; for valid demands and copies. -/
namespace Go.Proofs.YtehdhbnbajfanaaGreat
set_option linter.unusedSimpArgs false
set_option linter.unusedVariables false
open Go.RowKit Go.Sort Go.Shelf

/-- What the closures of Refuses read. -/
structure RefSt (w : World) (b16 b17 b11 : Nat) (a2 : Option Addr) (cap2 : Nat) (cs : List Co) (al : Option Addr) (cl : Nat) (L : List De) : Prop where
  h16 : w.heap[b16]? = some (.cells #[.slice a2 cs.length cap2, .int .i64 0] 58 (0, 0))
  h17 : w.heap[b17]? = some (.cells #[.func (.func 33) #[] #[.pointer (some ⟨b16, 0, none⟩)]] 67 (0, 0))
  h11 : w.heap[b11]? = some (.cells #[.slice al L.length cl] 22 (0, 0))
  hd : DeAt w al L
  hc : CoAt w a2 cs
  hv : validB L cs = true
theorem RefSt.below {w w' : World} {b16 b17 b11 : Nat} {a2 : Option Addr} {cap2 : Nat} {cs : List Co} {al : Option Addr} {cl : Nat} {L : List De} (r : RefSt w b16 b17 b11 a2 cap2 cs al cl L) (hb : RowKit.Below w.heap.size w w') : RefSt w' b16 b17 b11 a2 cap2 cs al cl L :=
  ⟨blk_keep r.h16 hb, blk_keep r.h17 hb, blk_keep r.h11 hb, r.hd.below hb, r.hc.below hb, r.hv⟩
set_option maxRecDepth 100000 in
set_option maxHeartbeats 4000000 in
theorem Refuses1_any (a a2 : Option Addr) (cap cap2 b16 : Nat) (ds : List De) (cs : List Co) (w : World) (hv : validB ds cs = true) (hm : DeAt w a ds) (hc : CoAt w a2 cs) (h16 : w.heap[b16]? = some (.cells #[.slice a2 cs.length cap2, .int .i64 0] 58 (0, 0))) :
    Calls Tryz.prog 33 #[.slice a ds.length cap, .pointer (some ⟨b16, 0, none⟩)] w fun e w' => e = .returned (.bool (metB cs ds)) ∧ RowKit.Below w.heap.size w w' := by
  have HM := Lib.hid hm; have HC := Lib.hid hc; have HV := Lib.hid hv
  have c16 := box_cells h16
  clear hm hc hv h16
  go_enter Tryz.func33, Tryz.ntmps33
  go_wp2_with (fail)
  refine (met_any a a2 cap cap2 ds cs 0 w HV.out (by decide) HM.out HC.out).mono ?_
  rintro e w2 ⟨a3, c3, a4, c4, l, ok, rfl, hok, _, hb⟩
  have HB := Lib.hid hb; have HOK := Lib.hid hok
  clear hok hb c16
  go_wp2
  go_ret
  exact ⟨by rw [HOK.out]; rfl, HB.out⟩
set_option maxRecDepth 100000 in
set_option maxHeartbeats 4000000 in
theorem Refuses2_any (d : De) (b16 b17 b11 : Nat) (a2 : Option Addr) (cap2 : Nat) (cs : List Co) (al : Option Addr) (cl : Nat) (L : List De) (w : World) (h0 : L ≠ []) (r : RefSt w b16 b17 b11 a2 cap2 cs al cl L) :
    Calls Tryz.prog 34 #[.agg #[.int .i64 d.id, .int .i64 d.part, .int .i64 d.stand, .slice d.ea d.eds.length d.ecap], .pointer (some ⟨b17, 0, none⟩), .pointer (some ⟨b11, 0, none⟩)] w fun e w' => e = .returned (.bool (metB cs (lessL L d.id))) ∧ RowKit.Below w.heap.size w w' := by
  have hbb := below_box (w := w) (.cells #[.int .i64 d.id, .int .i64 d.part, .int .i64 d.stand, .slice d.ea d.eds.length d.ecap] 46)
  have hbx : (w.alloc (.cells #[.int .i64 d.id, .int .i64 d.part, .int .i64 d.stand, .slice d.ea d.eds.length d.ecap] 46)).heap[w.heap.size]? = some (.cells #[.int .i64 d.id, .int .i64 d.part, .int .i64 d.stand, .slice d.ea d.eds.length d.ecap] 46) := heap_alloc_new _ _
  have HR := Lib.hid (r.below hbb); have HBB := Lib.hid hbb; have HBX := Lib.hid hbx; have H0 := Lib.hid h0
  have HVD := Lib.hid (vd_of r.hv)
  clear r hbb hbx h0
  go_enter Tryz.func34, Tryz.ntmps34
  go_wp2
  obtain ⟨w1, hw1⟩ : ∃ w1, w1 = w.alloc (.cells #[.int .i64 d.id, .int .i64 d.part, .int .i64 d.stand, .slice d.ea d.eds.length d.ecap] 46) := ⟨_, rfl⟩
  rw [← hw1] at HR HBB HBX ⊢
  clear hw1
  refine wp_region_held_drew (S := fun w' => w'.heap[b17]? = some (.cells #[.func (.func 33) #[] #[.pointer (some ⟨b16, 0, none⟩)]] 67 (0, 0)) ∧ w'.heap[b11]? = some (.cells #[.slice al L.length cl] 22 (0, 0)) ∧ w'.heap[w.heap.size]? = some (.cells #[.int .i64 d.id, .int .i64 d.part, .int .i64 d.stand, .slice d.ea d.eds.length d.ecap] 46)) (by kernel_rfl) ⟨HR.out.h17, HR.out.h11, HBX.out⟩ (fun hHeld => ?_)
  (refine wpAnyH_take1 0 (oi := ?_) (v := ?_) ?_ (by kernel_rfl) (by kernel_rfl) (by kernel_rfl) (by assumption) ?_ ?_ ?_; rotate_left 2; (· simp only [List.getElem?_toArray, List.getElem?_cons_succ, List.getElem?_cons_zero]; try rfl); (· refine ⟨by kernel_rfl, ?_⟩; intro wq hSw; have hx := box_cells hSw.1; have hy := box_cells hSw.2.1; have hz := box_cells hSw.2.2; go_simp; first | done | with_reducible rfl); (· exact fun _ _ _ h => h); try simp only [Act.put, List.setIfInBounds_toArray, List.set_cons_zero, List.set_cons_succ])
  (refine wpAnyH_take1 1 (oi := ?_) (v := ?_) ?_ (by kernel_rfl) (by kernel_rfl) (by kernel_rfl) (by assumption) ?_ ?_ ?_; rotate_left 2; (· simp only [List.getElem?_toArray, List.getElem?_cons_succ, List.getElem?_cons_zero]; try rfl); (· refine ⟨by kernel_rfl, ?_⟩; intro wq hSw; have hx := box_cells hSw.1; have hy := box_cells hSw.2.1; have hz := box_cells hSw.2.2; go_simp; first | done | with_reducible rfl); (· exact fun _ _ _ h => h); try simp only [Act.put, List.setIfInBounds_toArray, List.set_cons_zero, List.set_cons_succ])
  (refine wpAnyH_take1 2 (oi := ?_) (v := ?_) ?_ (by kernel_rfl) (by kernel_rfl) (by kernel_rfl) (by assumption) ?_ ?_ ?_; rotate_left 2; (· simp only [List.getElem?_toArray, List.getElem?_cons_succ, List.getElem?_cons_zero]; try rfl); (· refine ⟨by kernel_rfl, ?_⟩; intro wq hSw; have hx := box_cells hSw.1; have hy := box_cells hSw.2.1; have hz := box_cells hSw.2.2; go_simp; first | done | with_reducible rfl); (· exact fun _ _ _ h => h); try simp only [Act.put, List.setIfInBounds_toArray, List.set_cons_zero, List.set_cons_succ])
  (refine wpAnyH_take1 3 (oi := ?_) (v := ?_) ?_ (by kernel_rfl) (by kernel_rfl) (by kernel_rfl) (by assumption) ?_ ?_ ?_; rotate_left 2; (· simp only [List.getElem?_toArray, List.getElem?_cons_succ, List.getElem?_cons_zero]; try rfl); (· refine ⟨by kernel_rfl, ?_⟩; intro wq hSw; have hx := box_cells hSw.1; have hy := box_cells hSw.2.1; have hz := box_cells hSw.2.2; go_simp; first | done | with_reducible rfl); (· exact fun _ _ _ h => h); try simp only [Act.put, List.setIfInBounds_toArray, List.set_cons_zero, List.set_cons_succ])
  (refine wpAnyH_call1 (i := 4) (o := ?_) (by kernel_rfl) ?_ (fun K hK => ?_); rotate_left 1; (· simp only [List.getElem?_toArray, List.getElem?_cons_succ, List.getElem?_cons_zero]; try rfl); go_simp)
  have HR1 := Lib.hid (HR.out.below (RowKit.Below.refl _ _).drew)
  have HB1 := Lib.hid (show RowKit.Below w.heap.size w w1.drew from HBB.out.trans ((show RowKit.Below w1.heap.size w1 _ from (RowKit.Below.refl _ _).drew).mono HBB.out.size))
  refine (without_any al cl L d.id _ H0.out (by have := HVD.out.n1; omega) HR1.out.hd).mono ?_; rintro e w2 ⟨a5, c5, rfl, hs5, hd5, hb⟩
  have HD5 := Lib.hid hd5
  have HR2 := Lib.hid (HR1.out.below hb); have HX2 := Lib.hid (blk_keep (show w1.drew.heap[w.heap.size]? = _ from hHeld.2.2) hb); have HB2 := Lib.hid (HB1.out.trans (hb.mono HB1.out.size))
  clear hs5 hd5 hb
  go_simp
  refine hK.out _ _ ⟨HR2.out.h17, HR2.out.h11, HX2.out⟩ (fun hHeld2 => ?_)
  clear hK K hHeld
  (refine wpAnyH_call1 (i := 5) (o := ?_) (by kernel_rfl) ?_ (fun K hK => ?_); rotate_left 1; (· simp only [List.getElem?_toArray, List.getElem?_cons_succ, List.getElem?_cons_zero]; try rfl); go_simp)
  refine (Refuses1_any a5 a2 c5 cap2 b16 (lessL L d.id) cs _ (valid_sub (less_subl _ _) HR2.out.hv) HD5.out HR2.out.hc HR2.out.h16).mono ?_; rintro e w3 ⟨rfl, hb⟩
  have HR3 := Lib.hid (HR2.out.below hb); have HX3 := Lib.hid (blk_keep HX2.out hb); have HB3 := Lib.hid (HB2.out.trans (hb.mono HB2.out.size))
  clear hb
  go_simp
  refine hK.out _ _ ⟨HR3.out.h17, HR3.out.h11, HX3.out⟩ (fun hHeld3 => ?_)
  clear hK K hHeld2
  (refine wpAnyH_take1 6 (oi := ?_) (v := ?_) ?_ (by kernel_rfl) (by kernel_rfl) (by kernel_rfl) (by assumption) ?_ ?_ ?_; rotate_left 2; (· simp only [List.getElem?_toArray, List.getElem?_cons_succ, List.getElem?_cons_zero]; try rfl); (· refine ⟨by kernel_rfl, ?_⟩; intro wq hSw; have hx := box_cells hSw.1; have hy := box_cells hSw.2.1; have hz := box_cells hSw.2.2; go_simp; first | done | with_reducible rfl); (· exact fun _ _ _ h => h); try simp only [Act.put, List.setIfInBounds_toArray, List.set_cons_zero, List.set_cons_succ])
  refine wpAnyH_done (by kernel_rfl) ?_ _
  go_wp2
  go_ret
  exact ⟨rfl, HB3.out⟩
set_option maxRecDepth 100000 in
set_option maxHeartbeats 4000000 in
theorem Refuses3_any (d : De) (b16 b17 b11 b18 : Nat) (a2 : Option Addr) (cap2 : Nat) (cs : List Co) (al : Option Addr) (cl : Nat) (L : List De) (w : World) (h0 : L ≠ []) (r : RefSt w b16 b17 b11 a2 cap2 cs al cl L) (h18 : w.heap[b18]? = some (.cells #[.func (.func 34) #[] #[.pointer (some ⟨b17, 0, none⟩), .pointer (some ⟨b11, 0, none⟩)]] 68 (0, 0))) :
    Calls Tryz.prog 37 #[.agg #[.int .i64 d.id, .int .i64 d.part, .int .i64 d.stand, .slice d.ea d.eds.length d.ecap], .pointer (some ⟨b18, 0, none⟩)] w fun e w' => e = .returned (.bool (!metB cs (lessL L d.id))) ∧ RowKit.Below w.heap.size w w' := by
  have hbb := below_box (w := w) (.cells #[.int .i64 d.id, .int .i64 d.part, .int .i64 d.stand, .slice d.ea d.eds.length d.ecap] 46)
  have c18 := keepE (show w.cell? ⟨b18, 0, none⟩ = some _ from box_cells h18 0) hbb
  have hbx := box_cells (show (w.alloc (.cells #[.int .i64 d.id, .int .i64 d.part, .int .i64 d.stand, .slice d.ea d.eds.length d.ecap] 46)).heap[w.heap.size]? = some (.cells #[.int .i64 d.id, .int .i64 d.part, .int .i64 d.stand, .slice d.ea d.eds.length d.ecap] 46) from heap_alloc_new _ _)
  have HR := Lib.hid (r.below hbb); have HBB := Lib.hid hbb; have H0 := Lib.hid h0
  clear r hbb h0 h18
  go_enter Tryz.func37, Tryz.ntmps37
  go_wp2_with (fail)
  refine (Refuses2_any d b16 b17 b11 a2 cap2 cs al cl L _ H0.out HR.out).mono ?_
  rintro e w2 ⟨rfl, hb⟩
  have HB := Lib.hid (HBB.out.trans (hb.mono HBB.out.size))
  clear hb
  go_wp2
  go_ret
  exact ⟨rfl, HB.out⟩
set_option maxRecDepth 100000 in
set_option maxHeartbeats 4000000 in
theorem ContainsFR_any (bi B : Nat) (p : De → Bool) (a : Option Addr) (cap : Nat) (ds : List De) (w : World) (hl : ds.length ≤ 1000) (hp : PredC 37 #[.pointer (some ⟨bi, 0, none⟩)] p ds B w) (hB : B ≤ w.heap.size) (hm : SlAt w a 4 (ds.map De.cells)) :
    Calls Tryz.prog 36 #[.slice a ds.length cap, .func (.func 37) #[] #[.pointer (some ⟨bi, 0, none⟩)]] w fun e w' => e = .returned (.bool (ds.any p)) ∧ RowKit.Below w.heap.size w w' := by
  have HM := Lib.hid hm; have HP := Lib.hid hp
  clear hm hp
  go_enter Tryz.func36, Tryz.ntmps36
  go_wp2_with (fail)
  refine (IndexFR_any bi B p a cap ds w hl HP.out hB HM.out).mono ?_
  rintro e w2 ⟨hb, ⟨hno, rfl⟩ | ⟨k, hk, rfl, hyes, _⟩⟩
  · have HB := Lib.hid hb
    have HN := Lib.hid (show ds.any p = false by rw [List.any_eq_false]; exact fun d hd => by simp [hno d hd])
    clear hno hb
    go_wp2
    go_ret
    exact ⟨by rw [HN.out]; rfl, HB.out⟩
  · have HB := Lib.hid hb
    have HN := Lib.hid (show ds.any p = true by rw [List.any_eq_true]; exact ⟨ds[k], List.getElem_mem _, hyes⟩)
    clear hyes hb
    go_wp2
    go_ret
    exact ⟨by rw [HN.out]; simp, HB.out⟩
end Go.Proofs.YtehdhbnbajfanaaGreat


/- plan.Refuses: walked; for not too many demands, editions, copies, numbers. -/
namespace Go.Proofs.YtehdhbnbajfanaaGreat
set_option linter.unusedSimpArgs false
set_option linter.unusedVariables false
open Go.RowKit Go.Sort Go.Shelf

def aggD (d : De) : Value := .agg #[.int .i64 d.id, .int .i64 d.part, .int .i64 d.stand, .slice d.ea d.eds.length d.ecap]
/-- The map of the first k demands. -/
def KnownTo (ds : List De) (k : Nat) (m : List (Int × Value)) : Prop := ∀ x, mget m x = ((ds.take k).find? fun d => d.id == x).map aggD
theorem known_next {ds : List De} {k : Nat} {m : List (Int × Value)} (h : KnownTo ds k m) (hk : k < ds.length) (hn : (ds.map De.id).Nodup) : KnownTo ds (k + 1) (mput m ds[k].id (aggD ds[k])) := fun x => by
  rw [mget_mput, List.take_succ_eq_append_getElem hk, List.find?_append]
  by_cases e : x = ds[k].id
  · rw [if_pos e]
    have : (ds.take k).find? (fun d => d.id == x) = none := by
      rw [List.find?_eq_none]
      intro d hd
      obtain ⟨j, hj, rfl⟩ := List.mem_iff_getElem.1 hd
      rw [List.length_take] at hj
      rw [List.getElem_take]
      intro he
      have he : ds[j].id = x := by simpa using he
      have := nodup_idx hn (i := j) (j := k) (by simp; omega) (by simpa using hk) (by simp [he, e])
      omega
    rw [this]
    subst e
    simp
  · rw [if_neg e, h x]
    cases hf : (ds.take k).find? fun d => d.id == x with
    | some d => simp
    | none => simp [Ne.symm e]
theorem find_with {ds : List De} (hn : (ds.map De.id).Nodup) {x : Int} {d : De} (h : (ds.find? fun d => d.id == x) = some d) : withL ds x = [d] := by
  have h1 := List.find?_some h
  have h2 := List.mem_of_find?_eq_some h
  have h1 : d.id = x := by simpa using h1
  subst h1
  exact with_one hn h2
theorem find_not {ds : List De} {x : Int} (h : (ds.find? fun d => d.id == x) = none) : withL ds x = [] := by
  rw [List.find?_eq_none] at h
  rw [withL, List.filter_eq_nil_iff]
  exact h
theorem zeroDeI (w : World) : (zeroValue 46).run Tryz.prog w = .ok (.agg #[.int .i64 0, .int .i64 0, .int .i64 0, .slice none 0 0]) w := by kernel_rfl
theorem known_look {W : World} {r : Nat} {ds : List De} {m : List (Int × Value)} (h : MapAt W encJ r m) (hk : KnownTo ds ds.length m) (x : Int) :
    (Instr.lookup 65 (.map (some r)) (.int .i64 x) true).run Tryz.prog W = .ok (.tuple #[((ds.find? fun d => d.id == x).map aggD).getD (.agg #[.int .i64 0, .int .i64 0, .int .i64 0, .slice none 0 0]), .bool (ds.find? fun d => d.id == x).isSome]) W := by
  have := run_lookup_at Tryz.underlying65 keyJ zeroDeI h x true
  rw [hk x, List.take_length] at this
  simpa using this
theorem nodup_ids {ds l : List De} (hn : (ds.map De.id).Nodup) (h : l.Nodup) (hs : ∀ d ∈ l, d ∈ ds) : (l.map De.id).Nodup := by
  rw [List.Nodup, List.pairwise_map]
  exact (List.Pairwise.imp_of_mem (fun {a b} ha hb hab e => hab (id_inj hn (hs a ha) (hs b hb) e)) h)
theorem known_zero (ds : List De) : KnownTo ds 0 [] := fun x => by simp [mget_nil]
theorem mapAt_set {W : World} {r b k : Nat} {m : List (Int × Value)} {cs : Array Value} {E : TypeId} (h : MapAt W encJ r m) (hb : W.heap[b]? = some (.cells cs E (0, 0))) (v : Value) : MapAt (W.setCell ⟨b, k, none⟩ v) encJ r m := by
  obtain ⟨⟨es, clock, h1, h2⟩, h3⟩ := h
  have hne : r ≠ b := fun e => by subst e; rw [h1] at hb; cases hb
  exact ⟨⟨es, clock, (heap_setCell_other _ _ _ _ hne).trans h1, h2⟩, h3⟩
theorem de_new (W : World) (d : De) {k : Nat} {E : TypeId} (hk : k = W.heap.size) : SlAt (W.alloc (.cells #[.int .i64 d.id, .int .i64 d.part, .int .i64 d.stand, .slice d.ea d.eds.length d.ecap] E)) (some ⟨k, 0, none⟩) 4 ([d].map De.cells) := by
  subst hk; exact eltDe.new _ _ _ _ rfl
set_option maxRecDepth 100000 in
set_option maxHeartbeats 4000000 in
theorem Refuses_any (a a2 a3 : Option Addr) (cap cap2 cap3 : Nat) (ds : List De) (cs : List Co) (ids : List Int) (w : World) (hl : ds.length ≤ 1000) (hl2 : cs.length ≤ 1000) (hl3 : ids.length ≤ 200) (he : ∀ d ∈ ds, d.eds.length ≤ 1000) (hm : DeAt w a ds) (hc : CoAt w a2 cs) (hi : InAt w a3 ids) :
    Calls Tryz.prog 16 #[.slice a ds.length cap, .slice a2 cs.length cap2, .slice a3 ids.length cap3] w (RefuPost ds cs ids w) := by
  have hmm := @run_makeMap Tryz.prog
  have HM := Lib.hid hm; have HC := Lib.hid hc; have HE := Lib.hid he; have HI := Lib.hid hi
  clear hm hc he hi
  go_enter Tryz.func16, Tryz.ntmps16
  go_wp2_with (fail)
  refine (Valid_any a a2 cap cap2 ds cs w hl hl2 HE.out HM.out HC.out).mono ?_
  rintro e w1 ⟨rfl, hb⟩
  have HB := Lib.hid hb; clear hb
  generalize hV : validB ds cs = V at *
  have HV := Lib.hid hV; clear hV
  cases V
  · go_wp2
    go_ret2
    exact ⟨HB.out, .inl ⟨HV.out, rfl⟩⟩
  have HVD := Lib.hid (vd_of HV.out)
  go_wp2
  have hb0 := HB.out.alloc HB.out.size (.map #[] 0)
  have hu0 : MapAt (w1.alloc (.map #[] 0)) encJ w1.heap.size [] := MapAt.new w1 encJ
  have HRW := Lib.hid HB.out.size
  clear HB
  have HB := Lib.hid hb0; have HU := Lib.hid hu0; clear hb0 hu0
  generalize w1.alloc (.map #[] 0) = w2 at *
  generalize w1.heap.size = r at *
  clear w1
  go_loopw [26] (fun i wr => ∃ k m, k ≤ ds.length ∧ i = .int .i64 k ∧ MapAt wr encJ r m ∧ KnownTo ds k m ∧ RowKit.Below w.heap.size w wr) (fun i _ => ds.length - (intOf i).toNat)
  case atStart => exact ⟨0, [], Nat.zero_le _, rfl, HU.out, known_zero _, HB.out⟩
  case round =>
    clear HB HU
    obtain ⟨k, m, hk, rfl, hu, hkn, hb⟩ := hrel
    have HU := Lib.hid hu; have HK := Lib.hid hkn; have HB := Lib.hid hb
    clear hu hkn hb
    by_cases hlt : k < ds.length
    · obtain ⟨b, off, rfl, c0, c1, c2, c3⟩ := HM.out.get k hlt
      have g0 := keepE c0 HB.out; have g1 := keepE c1 HB.out; have g2 := keepE c2 HB.out; have g3 := keepE c3 HB.out
      have HKN := Lib.hid (known_next HK.out hlt HVD.out.nd)
      clear c0 c1 c2 c3
      generalize ds[k] = d at *
      have HBX := Lib.hid (below_box (w := wr) (.cells #[.int .i64 d.id, .int .i64 d.part, .int .i64 d.stand, .slice d.ea d.eds.length d.ecap] 46))
      have HBB := Lib.hid (HB.out.trans (HBX.out.mono HB.out.size))
      go_wp2_with (refine wpList_mapUpdate_at rfl (.tmp 30) (.tmp 32) _ 65 (.inl rfl) Tryz.underlying65 keyJ r m rfl (HU.out.below HBX.out) d.id rfl (aggD d) rfl ?_; intro w5 hm5 hg5; have HM5 := Lib.hid hm5; have HB5 := Lib.hid (KeepB.below ((KeepB.of_below' (S := []) HBB.out).grown hg5 HBB.out.size (fun k e => by cases e; exact HRW.out))); clear hm5 hg5)
      go_roundw
      case rel => exact ⟨k + 1, _, by omega, by go_num, HM5.out, HKN.out, HB5.out⟩
      case measure => simp [intOf]; omega
    · have hke : k = ds.length := by omega
      subst hke
      have HBX := Lib.hid (below_box (w := wr) (.cells #[.slice none 0 0] 22))
      have hbx : (wr.alloc (.cells #[.slice none 0 0] 22)).heap[wr.heap.size]? = some (.cells #[.slice none 0 0] 22 (0, 0)) := heap_alloc_new _ _
      have HU0 := HU.out.lt
      replace HU := Lib.hid (HU.out.below HBX.out)
      have HBS := Lib.hid HB.out.size
      have HRB := Lib.hid (show r < wr.heap.size from by have := HU0; exact this)
      replace HB := Lib.hid (HB.out.trans (HBX.out.mono HB.out.size))
      have HBX1 := Lib.hid hbx
      clear HBX hbx hlt hk HU0
      go_wp2
      generalize wr.alloc (.cells #[.slice none 0 0] 22) = w3 at *
      generalize wr.heap.size = b11 at *
      clear wr
      go_loopw [37] (fun i W => ∃ k v, k ≤ ids.length ∧ i = .int .i64 k ∧ W.heap[b11]? = some (.cells #[v] 22 (0, 0)) ∧ OwnR W (b11 + 1) 46 4 v ((pickD ds (ids.take k)).map De.cells) ∧ SomeTo ds ids k ∧ MapAt W encJ r m ∧ RowKit.Below w.heap.size w W) (fun i _ => ids.length - (intOf i).toNat)
      case atStart => exact ⟨0, _, Nat.zero_le _, rfl, HBX1.out, OwnR.nil _ _ _ _, fun j hj h => by omega, HU.out, HB.out⟩
      case round =>
        clear HB HU HBX1
        obtain ⟨k, v, hk, rfl, hbx, ho, hst, hu, hb⟩ := hrel
        have HU := Lib.hid hu; have HX := Lib.hid hbx; have HO := Lib.hid ho; have HST := Lib.hid hst; have HB := Lib.hid hb
        clear hu hbx ho hst hb
        by_cases hlt : k < ids.length
        · obtain ⟨b, off, rfl, d0⟩ := HI.out.get k hlt
          have g0 := keepE d0 HB.out
          have hlook := known_look HU.out HK.out ids[k]
          have HPN := Lib.hid (pick_next ds ids k hlt)
          have HX0 := box_cells HX.out; have HXf := box_free HX.out
          cases hf : (ds.find? fun d => d.id == ids[k]) with
          | none =>
            rw [hf] at hlook
            simp only [Option.map_none, Option.getD_none, Option.isSome_none] at hlook
            have HF := Lib.hid (find_not hf)
            have HNO := Lib.hid (show ¬ SomeTo ds ids ids.length from fun h => by have := (h k hlt hlt).1; rw [HF.out] at this; cases this)
            generalize ids[k] = X at *
            clear hf HX0 HXf
            have HBX := Lib.hid (HB.out.trans ((below_box (w := wr) (.cells #[.int .i64 0, .int .i64 0, .int .i64 0, .slice none 0 0] 46)).mono HB.out.size))
            go_wp2
            go_ret2
            exact ⟨HBX.out, .inr ⟨HV.out, false, rfl, ⟨(fun h => by cases h), fun h => absurd h.1 HNO.out⟩⟩⟩
          | some d =>
            rw [hf] at hlook
            simp only [Option.map_some, Option.getD_some, Option.isSome_some, aggD] at hlook
            have HF := Lib.hid (find_with HVD.out.nd hf)
            rw [HF.out] at HPN
            have HID := Lib.hid (show d.id = ids[k] by have := List.find?_some hf; simpa using this)
            have HBX := Lib.hid (below_box (w := wr) (.cells #[.int .i64 d.id, .int .i64 d.part, .int .i64 d.stand, .slice d.ea d.eds.length d.ecap] 46))
            have HBB := Lib.hid (HB.out.trans (HBX.out.mono HB.out.size))
            have hbx := box_cells (show (wr.alloc (.cells #[.int .i64 d.id, .int .i64 d.part, .int .i64 d.stand, .slice d.ea d.eds.length d.ecap] 46)).heap[wr.heap.size]? = some (.cells #[.int .i64 d.id, .int .i64 d.part, .int .i64 d.stand, .slice d.ea d.eds.length d.ecap] 46) from heap_alloc_new _ _)
            have HLEN := Lib.hid (show (pickD ds (ids.take k)).length ≤ 200 by rw [pick_lenTo hk HST.out]; omega)
            have HXW := Lib.hid (blk_keep HX.out HBX.out)
            have hxw := box_cells HXW.out
            clear hf HX0 HXf
            by_cases hk0 : k = 0
            · have h48 : decide ((k : Int) > 0) = false := by simp; omega
              have h48b : decide (0 < k) = false := by simp; omega
              have h48c : ¬ 0 < k := by omega
              have HST2 := Lib.hid (HST.out.one hlt (by rw [HF.out]; rfl) fun h0 => by omega)
              have HK0 := Lib.hid hk0
              clear hk0
              generalize ids[k] = X at *
              go_wp2_with (at_builtin; go_must (refine appE eltDe rfl (.tmp 63) (.tmp 65) rfl (b11 + 1) v _ rfl ((HO.out.below HBX.out).below ((RowKit.Below.refl _ _).alloc (Nat.le_refl _) _)) _ _ _ [d] rfl rfl (fun e => by cases e) (de_new _ d (by simp)) (by have := HLEN.out; simp; omega) (by have := HX.out; have := lt_blk this; simp; omega) ?_; intro v5 w5 ho5 hg5; obtain ⟨a6, c6, e6, _, _⟩ := ho5.slAt; generalize (List.map De.cells (_ ++ [d])).length = n6 at e6; subst e6; have hlt11 := lt_blk HX.out; have hne := HO.out.neBlk (show b11 < b11 + 1 by omega); have hner := HO.out.neBlk (show r < b11 + 1 by have := HRB.out; omega); have hx5 := (hg5.block b11 (by simp; omega) hne).trans (up_alloc HXW.out _); have HX5 := Lib.hid hx5; have HU5 := Lib.hid (mapAt_set (k := 0) (((HU.out.below HBX.out).below ((RowKit.Below.refl _ _).alloc (Nat.le_refl _) _)).kept hg5 (fun e => hner e.symm)) hx5 (.slice a6 n6 c6)); have HO5 := Lib.hid (ho5.setOther (show b11 < b11 + 1 by omega) (.slice a6 n6 c6)); have hbo := HBB.out.alloc HBB.out.size (.cells #[.int .i64 d.id, .int .i64 d.part, .int .i64 d.stand, .slice d.ea d.eds.length d.ecap] 46); have hoo := (HO.out.below HBX.out).below ((RowKit.Below.refl _ _).alloc (Nat.le_refl _) (.cells #[.int .i64 d.id, .int .i64 d.part, .int .i64 d.stand, .slice d.ea d.eds.length d.ecap] 46)); have hbg := hbo.grown hg5 (show w.heap.size ≤ _ by have := HB.out.size; simp; omega) (fun k e => by have := (hoo.lt k e).1; have := HBS.out; omega); have HB5 := Lib.hid (below_set hbg (p := ⟨b11, 0, none⟩) HBS.out (.slice a6 n6 c6)); clear hbo hoo hbg; have hc5 := box_cells hx5; have hf5 := box_free hx5; clear ho5 hg5 hx5 hne hner)); go_roundw
              case rel => exact ⟨k + 1, _, by omega, by go_num, heap_setCell_same _ _ _ _ _ _ HX5.out, by rw [HPN.out]; exact HO5.out, HST2.out, HU5.out, HB5.out⟩
              case measure => simp [intOf]; omega
            · obtain ⟨m', rfl⟩ : ∃ m, k = m + 1 := ⟨k - 1, by omega⟩
              have hm1 : ((m' + 1 : Nat) : Int) - 1 = (m' : Int) := by omega
              obtain ⟨b3, o3, e3, d0⟩ := HI.out.get m' (by omega)
              cases e3
              have g1 := keepE d0 HBB.out
              have g2 := keepE d0 HB.out
              have HST2 := Lib.hid (fun h => HST.out.one hlt (by rw [HF.out]; rfl) h)
              have HSTn := Lib.hid (fun h : SomeTo ds ids ids.length => (h (m' + 1) hlt hlt).2 (by omega))
              simp only [Nat.add_sub_cancel] at HST2 HSTn
              clear d0 hk0
              generalize ids[m'] = X2 at *
              generalize ids[m' + 1] = X at *
              cases hle : decide (X ≤ X2)
              · have HLE := Lib.hid (show X2 < X by simpa using hle)
                replace HST2 := Lib.hid (HST2.out fun _ => HLE.out)
                go_wp2_with (at_builtin; go_must (refine appE eltDe rfl (.tmp 63) (.tmp 65) rfl (b11 + 1) v _ rfl ((HO.out.below HBX.out).below ((RowKit.Below.refl _ _).alloc (Nat.le_refl _) _)) _ _ _ [d] rfl rfl (fun e => by cases e) (de_new _ d (by simp)) (by have := HLEN.out; simp; omega) (by have := HX.out; have := lt_blk this; simp; omega) ?_; intro v5 w5 ho5 hg5; obtain ⟨a6, c6, e6, _, _⟩ := ho5.slAt; generalize (List.map De.cells (_ ++ [d])).length = n6 at e6; subst e6; have hlt11 := lt_blk HX.out; have hne := HO.out.neBlk (show b11 < b11 + 1 by omega); have hner := HO.out.neBlk (show r < b11 + 1 by have := HRB.out; omega); have hx5 := (hg5.block b11 (by simp; omega) hne).trans (up_alloc HXW.out _); have HX5 := Lib.hid hx5; have HU5 := Lib.hid (mapAt_set (k := 0) (((HU.out.below HBX.out).below ((RowKit.Below.refl _ _).alloc (Nat.le_refl _) _)).kept hg5 (fun e => hner e.symm)) hx5 (.slice a6 n6 c6)); have HO5 := Lib.hid (ho5.setOther (show b11 < b11 + 1 by omega) (.slice a6 n6 c6)); have hbo := HBB.out.alloc HBB.out.size (.cells #[.int .i64 d.id, .int .i64 d.part, .int .i64 d.stand, .slice d.ea d.eds.length d.ecap] 46); have hoo := (HO.out.below HBX.out).below ((RowKit.Below.refl _ _).alloc (Nat.le_refl _) (.cells #[.int .i64 d.id, .int .i64 d.part, .int .i64 d.stand, .slice d.ea d.eds.length d.ecap] 46)); have hbg := hbo.grown hg5 (show w.heap.size ≤ _ by have := HB.out.size; simp; omega) (fun k e => by have := (hoo.lt k e).1; have := HBS.out; omega); have HB5 := Lib.hid (below_set hbg (p := ⟨b11, 0, none⟩) HBS.out (.slice a6 n6 c6)); clear hbo hoo hbg; have hc5 := box_cells hx5; have hf5 := box_free hx5; clear ho5 hg5 hx5 hne hner)); go_roundw
                case rel => exact ⟨m' + 2, _, by omega, by go_num, heap_setCell_same _ _ _ _ _ _ HX5.out, by rw [HPN.out]; exact HO5.out, HST2.out, HU5.out, HB5.out⟩
                case measure => simp [intOf]; omega
              · have HLE := Lib.hid (show X ≤ X2 by simpa using hle)
                have HNO := Lib.hid (show ¬ SomeTo ds ids ids.length from fun h => by have := HSTn.out h; have := HLE.out; omega)
                go_wp2
                go_ret2
                exact ⟨HBB.out, .inr ⟨HV.out, false, rfl, ⟨(fun h => by cases h), fun h => absurd h.1 HNO.out⟩⟩⟩
        · have hke : k = ids.length := by omega
          subst hke
          obtain ⟨al, cl, ev, hsl, hal⟩ := HO.out.slAt
          rw [List.length_map] at ev hsl
          rw [List.take_length] at *
          subst ev
          have HD := Lib.hid (show DeAt wr al (pickD ds ids) from ⟨hal, fun d hd => (HM.out.ok d (pick_sub hd)).below HB.out⟩)
          have HPL := Lib.hid (show (pickD ds ids).length = ids.length by have := pick_lenTo (Nat.le_refl _) HST.out; rw [List.take_length] at this; exact this)
          have HVL := Lib.hid (show validB (pickD ds ids) cs = true from valid_mem HV.out (by rw [HPL.out]; omega) (fun d hd => pick_sub hd) (by
            have := some_nodup HVD.out.nd HST.out
            exact nodup_ids HVD.out.nd this fun d hd => pick_sub hd))
          clear hsl hal HO HI hlt hk
          generalize hL : pickD ds ids = L at *
          have HL := Lib.hid hL; clear hL
          have hb1 := below_box (w := wr) (.cells #[.slice a2 cs.length cap2, .int .i64 0] 58)
          have hb2 := below_box (w := wr.alloc (.cells #[.slice a2 cs.length cap2, .int .i64 0] 58)) (.cells #[.func (.func 33) #[] #[.pointer (some ⟨wr.heap.size, 0, none⟩)]] 67)
          have RS : RefSt ((wr.alloc (.cells #[.slice a2 cs.length cap2, .int .i64 0] 58)).alloc (.cells #[.func (.func 33) #[] #[.pointer (some ⟨wr.heap.size, 0, none⟩)]] 67)) wr.heap.size (wr.heap.size + 1) b11 a2 cap2 cs al cl L :=
            ⟨up_alloc (heap_alloc_new _ _) _, at_alloc _ _ (by simp), blk_keep (blk_keep HX.out hb1) hb2, (HD.out.below hb1).below hb2, ((HC.out.below HB.out).below hb1).below hb2, HVL.out⟩
          have HRS := Lib.hid RS
          have HBW := Lib.hid ((HB.out.trans (hb1.mono HB.out.size)).trans (hb2.mono (by have := HB.out.size; simp; omega)))
          have c11 := box_cells RS.h11; have c17 := box_cells RS.h17
          clear hb1 hb2 RS
          go_wp2_with (fail)
          refine (Refuses1_any al a2 cl cap2 wr.heap.size L cs _ HVL.out HRS.out.hd HRS.out.hc HRS.out.h16).mono ?_
          rintro e w4 ⟨rfl, hb⟩
          replace HRS := Lib.hid (HRS.out.below hb); replace HBW := Lib.hid (HBW.out.trans (hb.mono HBW.out.size))
          clear hb c11 c17
          generalize wr.heap.size = b16 at *
          generalize hM : metB cs L = M at *
          have HME := Lib.hid hM; clear hM
          cases M
          · have h18 : (w4.alloc (.cells #[.func (.func 34) #[] #[.pointer (some ⟨b16 + 1, 0, none⟩), .pointer (some ⟨b11, 0, none⟩)]] 68)).heap[w4.heap.size]? = some (.cells #[.func (.func 34) #[] #[.pointer (some ⟨b16 + 1, 0, none⟩), .pointer (some ⟨b11, 0, none⟩)]] 68 (0, 0)) := heap_alloc_new _ _
            have hb1 := below_box (w := w4) (.cells #[.func (.func 34) #[] #[.pointer (some ⟨b16 + 1, 0, none⟩), .pointer (some ⟨b11, 0, none⟩)]] 68)
            have HRS2 := Lib.hid (HRS.out.below hb1); have H18 := Lib.hid h18
            have HBW2 := Lib.hid (HBW.out.trans (hb1.mono HBW.out.size))
            have c11 := box_cells HRS2.out.h11; have c18 := box_cells h18
            have HNE := Lib.hid (noL_ne HME.out)
            have HP := Lib.hid (show PredC 37 #[.pointer (some ⟨w4.heap.size, 0, none⟩)] (fun d => !metB cs (lessL L d.id)) L (w4.heap.size + 1) (w4.alloc (.cells #[.func (.func 34) #[] #[.pointer (some ⟨b16 + 1, 0, none⟩), .pointer (some ⟨b11, 0, none⟩)]] 68)) from fun d hd W hW =>
              Refuses3_any d b16 (b16 + 1) b11 w4.heap.size a2 cap2 cs al cl L W HNE.out (HRS2.out.below (hW.mono (by simp))) (blk_keep H18.out (hW.mono (by simp))))
            clear hb1 h18
            go_wp2_with (fail)
            refine (ContainsFR_any w4.heap.size (w4.heap.size + 1) (fun d => !metB cs (lessL L d.id)) al cl L _ (by have := HPL.out; omega) HP.out (by simp) HRS2.out.hd.rows).mono ?_
            rintro e w5 ⟨rfl, hb⟩
            have HB6 := Lib.hid (HBW2.out.trans (hb.mono HBW2.out.size))
            clear hb c11 c18
            generalize hA : (L.any fun d => !metB cs (lessL L d.id)) = A at *
            have HA := Lib.hid hA; clear hA
            go_wp2
            go_ret2
            refine ⟨HB6.out, .inr ⟨HV.out, !A, rfl, ?_⟩⟩
            rw [RefuP, HL.out]
            cases hAA : A
            · have hA := HA.out
              rw [hAA, List.any_eq_false] at hA
              exact ⟨fun _ => ⟨HST.out, HME.out, fun d hd => by simpa using hA d hd⟩, fun _ => rfl⟩
            · have hA := HA.out
              rw [hAA, List.any_eq_true] at hA
              obtain ⟨d, hd, hn⟩ := hA
              exact ⟨(fun h => by cases h), fun h => by rw [h.2.2 d hd] at hn; cases hn⟩
          · go_wp2
            go_ret2
            exact ⟨HBW.out, .inr ⟨HV.out, false, rfl, ⟨(fun h => by cases h), fun h => by have := h.2.1; rw [HL.out, HME.out] at this; cases this⟩⟩⟩
theorem refuses_c : RefusesC := fun a a2 a3 cap cap2 cap3 ds cs ids w hl hl2 hl3 he hm hc hi => (Refuses_any a a2 a3 cap cap2 cap3 ds cs ids w hl hl2 hl3 he hm hc hi).mono fun _ _ h => h.res
end Go.Proofs.YtehdhbnbajfanaaGreat
