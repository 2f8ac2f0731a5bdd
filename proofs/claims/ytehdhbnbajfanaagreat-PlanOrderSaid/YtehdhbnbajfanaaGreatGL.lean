/- Texts of this seat, laid together: PlanProg1, PlanLay, PlanProg2, PlanProg3. -/
import Derived.Test.YtehdhbnbajfanaaGreatGK
import Derived.Shelf.SlSortCmp.WholeK
import Derived.Lib.OwnBridge

/- The program's met: walked; for valid demands and copies. -/
namespace Go.Proofs.YtehdhbnbajfanaaGreat
set_option linter.unusedSimpArgs false
set_option linter.unusedVariables false
open Go.RowKit Go.Sort

theorem below_box {w : World} (o : Obj) : Below w.heap.size w (w.alloc o) := (Below.refl _ _).alloc (Nat.le_refl _) _
/-- What met says. -/
def PMetPost (ds : List De) (cs : List Co) (hall : Int) (w : World) (e : Ending) (w' : World) : Prop :=
  ∃ (a1 : Option Addr) (c1 : Nat) (a3 : Option Addr) (c3 : Nat) (l : List Nat) (ok : Bool), e = .returned (.tuple #[.slice a1 ds.length c1, .slice a3 l.length c3, .bool ok]) ∧ metB cs ds = ok ∧ (ok = true → MatAt w' a1 (costM ds cs hall) ∧ SlAt w' a3 1 (l.map metRow) ∧ BTo (costM ds cs hall) l) ∧ Below w.heap.size w w'
set_option maxRecDepth 100000 in
set_option maxHeartbeats 4000000 in
theorem met_any (a a2 : Option Addr) (cap cap2 : Nat) (ds : List De) (cs : List Co) (hall : Int) (w : World) (hv : validB ds cs = true) (hh : inR 0 99 hall = true) (hm : DeAt w a ds) (hc : CoAt w a2 cs) :
    Calls Tryz.prog 26 #[.agg #[.slice a2 cs.length cap2, .int .i64 hall], .slice a ds.length cap] w (PMetPost ds cs hall w) := by
  have HM := Lib.hid hm; have HC := Lib.hid hc; have HVB := Lib.hid hv; have HVD := Lib.hid (vd_of hv); have HH := Lib.hid hh
  clear hm hc hv hh
  go_enter Tryz.func26, Tryz.ntmps26
  have HBX := Lib.hid (below_box (w := w) (.cells #[.slice a2 cs.length cap2, .int .i64 hall] 58))
  go_wp2_with (fail)
  refine (Costs_any a a2 cap cap2 ds cs hall _ (by have := HVD.out.n1; omega) (by have := HVD.out.n2; omega) (fun d hd => by have := HVD.out.eds d hd; omega) (HM.out.below HBX.out) (HC.out.below HBX.out)).mono ?_
  rintro e w1 ⟨a1, c1, hb, ⟨hv, rfl, hs1, hm1⟩ | ⟨hv, rfl⟩⟩
  case inr => rw [HVB.out, HH.out] at hv; cases hv
  have HB := Lib.hid (HBX.out.trans (hb.mono HBX.out.size))
  have HM1 := Lib.hid hm1; have HS1 := Lib.hid hs1
  have HCL := Lib.hid (costM_len ds cs hall)
  clear hv hb hm1 hs1
  go_wp2_with (fail)
  have hRB := fun W h hm hs => Best_any a1 c1 (costM ds cs hall) W h hm hs
  rw [HCL.out] at hRB
  refine (hRB _ (by have := HVD.out.n1; omega) HM1.out HS1.out).mono ?_
  clear hRB
  rintro e w3 ⟨l, t, ok, err, a3, c3, rfl, hsay, hs3, hi3, hb⟩
  have HF := Lib.hid (costM_form (hall := hall) HVD.out.n1 HVD.out.n2 fun d hd => by have := HVD.out.eds d hd; omega)
  obtain rfl : err = 0 := by rw [best_err hsay, HF.out]
  have HOK := Lib.hid (show metB cs ds = ok by
    cases ok
    · cases hx : metB cs ds
      · rfl
      · have := best_ok hsay HF.out ((metB_mtd hall).1 hx); cases this
    · exact (metB_mtd hall).2 (by obtain ⟨u, v, _, b, _⟩ := best_has hsay rfl; exact ⟨_, b.tight.mt⟩))
  have HT := Lib.hid (fun h : ok = true => (show BTo (costM ds cs hall) l by subst h; exact ⟨t, hsay⟩))
  have HI3 := Lib.hid hi3
  replace HB := Lib.hid (HB.out.trans (hb.mono HB.out.size)); replace HM1 := Lib.hid (HM1.out.below hb)
  clear hsay hs3 hi3 hb
  cases ok
  · go_wp2
    go_ret3
    exact ⟨a1, c1, a3, c3, l, false, rfl, HOK.out, (fun h => by cases h), HB.out⟩
  · go_wp2
    go_ret3
    exact ⟨a1, c1, a3, c3, l, true, rfl, HOK.out, fun _ => ⟨HM1.out, HI3.out, HT.out trivial⟩, HB.out⟩
end Go.Proofs.YtehdhbnbajfanaaGreat

/- Library contracts laid at this program (written by the shelf's plain mode). -/
namespace Go.Proofs.YtehdhbnbajfanaaGreat
set_option linter.unusedSimpArgs false
set_option linter.unusedVariables false
open Go.Shelf
def Lay.sortD_ren : Go.Shelf.Ren := ⟨fun | 6 => 69 | 15 => 86 | 14 => 85 | 28 => 101 | 29 => 102 | 20 => 93 | 21 => 94 | 22 => 95 | 23 => 96 | 24 => 97 | 25 => 98 | 26 => 99 | 27 => 100 | 46 => 107 | 47 => 108 | 48 => 109 | 49 => 110 | 50 => 111 | 57 => 122 | n => n, fun | 22 => 22 | 24 => 46 | 25 => 100 | 3 => 3 | 39 => 118 | 0 => 0 | 53 => 128 | 55 => 130 | 4 => 4 | 46 => 121 | 45 => 120 | 50 => 125 | 5 => 5 | 9 => 9 | 66 => 134 | 70 => 138 | 76 => 146 | 77 => 147 | n => n, fun | n => n⟩
theorem Lay.sortD : Go.Proofs.SlLaysF0.n6 Tryz.prog Lay.sortD_ren := {
  mixed := by kernel_rfl
  f6 := ⟨Tryz.f69.name, by decide, Tryz.func69.trans (congrArg some (by kernel_rfl))⟩
  f14 := ⟨Tryz.f85.name, by decide, Tryz.func85.trans (congrArg some (by kernel_rfl))⟩
  f15 := Tryz.func86.trans (congrArg some (by kernel_rfl))
  f20 := ⟨Tryz.f93.name, by decide, Tryz.func93.trans (congrArg some (by kernel_rfl))⟩
  f21 := ⟨Tryz.f94.name, by decide, Tryz.func94.trans (congrArg some (by kernel_rfl))⟩
  f22 := ⟨Tryz.f95.name, by decide, Tryz.func95.trans (congrArg some (by kernel_rfl))⟩
  f23 := ⟨Tryz.f96.name, by decide, Tryz.func96.trans (congrArg some (by kernel_rfl))⟩
  f24 := ⟨Tryz.f97.name, by decide, Tryz.func97.trans (congrArg some (by kernel_rfl))⟩
  f25 := ⟨Tryz.f98.name, by decide, Tryz.func98.trans (congrArg some (by kernel_rfl))⟩
  f26 := ⟨Tryz.f99.name, by decide, Tryz.func99.trans (congrArg some (by kernel_rfl))⟩
  f27 := ⟨Tryz.f100.name, by decide, Tryz.func100.trans (congrArg some (by kernel_rfl))⟩
  f28 := Tryz.func101.trans (congrArg some (by kernel_rfl))
  f29 := Tryz.func102.trans (congrArg some (by kernel_rfl))
  f46 := ⟨Tryz.f107.name, by decide, Tryz.func107.trans (congrArg some (by kernel_rfl))⟩
  f47 := Tryz.func108.trans (congrArg some (by kernel_rfl))
  f48 := Tryz.func109.trans (congrArg some (by kernel_rfl))
  f49 := ⟨Tryz.f110.name, by decide, Tryz.func110.trans (congrArg some (by kernel_rfl))⟩
  f50 := ⟨Tryz.f111.name, by decide, Tryz.func111.trans (congrArg some (by kernel_rfl))⟩
  f57 := ⟨Tryz.f122.name, by decide, Tryz.func122.trans (congrArg some (by kernel_rfl))⟩
  t0 := Tryz.underlying0
  a0 := Tryz.isAgg0
  z0 := Tryz.sizeOf0
  v0 := Tryz.zeroValue0
  t3 := Tryz.underlying3
  a3 := Tryz.isAgg3
  z3 := Tryz.sizeOf3
  v3 := Tryz.zeroValue3
  t4 := Tryz.underlying4
  a4 := Tryz.isAgg4
  z4 := Tryz.sizeOf4
  v4 := Tryz.zeroValue4
  t5 := Tryz.underlying5
  a5 := Tryz.isAgg5
  z5 := Tryz.sizeOf5
  v5 := Tryz.zeroValue5
  t9 := Tryz.underlying9
  a9 := Tryz.isAgg9
  z9 := Tryz.sizeOf9
  v9 := Tryz.zeroValue9
  t22 := Tryz.underlying22
  a22 := Tryz.isAgg22
  z22 := Tryz.sizeOf22
  v22 := Tryz.zeroValue22
  t25 := Tryz.underlying100
  a25 := Tryz.isAgg100
  z25 := Tryz.sizeOf100
  v25 := Tryz.zeroValue100
  t39 := Tryz.underlying118
  a39 := Tryz.isAgg118
  z39 := Tryz.sizeOf118
  v39 := Tryz.zeroValue118
  t45 := Tryz.underlying120
  a45 := Tryz.isAgg120
  z45 := Tryz.sizeOf120
  v45 := Tryz.zeroValue120
  t46 := Tryz.underlying121
  a46 := Tryz.isAgg121
  z46 := Tryz.sizeOf121
  v46 := Tryz.zeroValue121
  t50 := Tryz.underlying125
  a50 := Tryz.isAgg125
  z50 := Tryz.sizeOf125
  v50 := Tryz.zeroValue125
  t53 := Tryz.underlying128
  a53 := Tryz.isAgg128
  z53 := Tryz.sizeOf128
  v53 := Tryz.zeroValue128
  t55 := Tryz.underlying130
  a55 := Tryz.isAgg130
  z55 := Tryz.sizeOf130
  v55 := Tryz.zeroValue130
  t66 := Tryz.underlying134
  a66 := Tryz.isAgg134
  z66 := Tryz.sizeOf134
  v66 := Tryz.zeroValue134
  t70 := Tryz.underlying138
  a70 := Tryz.isAgg138
  z70 := Tryz.sizeOf138
  v70 := Tryz.zeroValue138
  t76 := Tryz.underlying146
  a76 := Tryz.isAgg146
  z76 := Tryz.sizeOf146
  v76 := Tryz.zeroValue146
  t77 := Tryz.underlying147
  a77 := Tryz.isAgg147
  z77 := Tryz.sizeOf147
  v77 := Tryz.zeroValue147 }
end Go.Proofs.YtehdhbnbajfanaaGreat


/- slices.Clone and slices.SortFunc over demands, plan.falling: walked; for not too many demands, their numbers from 0 to 1000000. -/
namespace Go.Proofs.YtehdhbnbajfanaaGreat
set_option linter.unusedSimpArgs false
set_option linter.unusedVariables false
open Go.RowKit Go.Sort Go.Shelf

theorem nil_eq_someD (b off n cap : Nat) (w : World) : (binOp BinOp.eql 22 (.slice (some ⟨b, off, none⟩) n cap) (.slice none 0 0)).run Tryz.prog w = .ok (.bool false) w := by kernel_rfl
theorem CloneD_any (a : Option Addr) (cap : Nat) (l : List De) (w : World) (h0 : l ≠ []) (hl : l.length ≤ 1000) (hr : SlAt w a 4 (l.map De.cells)) :
    Calls Tryz.prog 58 #[.slice a l.length cap] w fun e w' => ∃ v, e = .returned v ∧ OwnR w' w.heap.size 46 4 v (l.map De.cells) ∧ Below w.heap.size w w' := by
  obtain ⟨d, l', rfl⟩ := List.exists_cons_of_ne_nil h0
  obtain ⟨b, off, rfl, _⟩ := hr 0 d.cells rfl
  have HR := Lib.hid hr; clear hr
  have hq := nil_eq_someD b off (d :: l').length cap w
  generalize d :: l' = l at *
  go_enter Tryz.func58, Tryz.ntmps58
  go_wp2_with (at_builtin; refine appE eltDe rfl (.tmp 5) (.tmp 6) rfl w.heap.size _ [] rfl (ownR_made _ _ _ _ (Nat.le_refl _)) _ _ _ l rfl rfl (fun e => by cases e) (HR.out.alloc _) (by simp; omega) (by simp) ?_; intro v2 w2 ho2 hg2; have HO2 := Lib.hid ho2; have HB2 := Lib.hid (below_grown ((Below.refl w.heap.size w).alloc (Nat.le_refl _) _) (ownR_made _ w.heap.size 46 4 (Nat.le_refl _)) (by simp) hg2); clear ho2 hg2)
  go_ret
  exact ⟨_, rfl, HO2.out, HB2.out⟩
/-- Demands with small numbers: their differences are exact. -/
abbrev DeR := { d : De // 0 ≤ d.id ∧ d.id ≤ 1000000 }
instance : Inhabited DeR := ⟨⟨default, by decide, by decide⟩⟩
def encR (x : DeR) : List Value := x.1.cells
def cfR (x y : DeR) : Int := y.1.id - x.1.id
theorem lt_cfR (x y : DeR) : ltOf cfR x y = decide (y.1.id < x.1.id) := by
  unfold ltOf cfR
  rw [decide_eq_decide]; omega
theorem swoR : SWO (ltOf cfR) where
  irrefl x := by rw [lt_cfR]; simp
  trans x y z h1 h2 := by rw [lt_cfR] at *; simp at *; omega
  ntrans x y z h1 h2 := by rw [lt_cfR] at *; simp at *; omega
theorem fall1_any (x y : DeR) (W : World) : Calls Tryz.prog 70 #[.agg #[.int .i64 x.1.id, .int .i64 x.1.part, .int .i64 x.1.stand, .slice x.1.ea x.1.eds.length x.1.ecap], .agg #[.int .i64 y.1.id, .int .i64 y.1.part, .int .i64 y.1.stand, .slice y.1.ea y.1.eds.length y.1.ecap]] W fun e w' => e = .returned (.int .i64 (cfR x y)) ∧ ∃ q os', w' = grow (W.drewN q) os' := by
  obtain ⟨x, hx1, hx2⟩ := x
  obtain ⟨y, hy1, hy2⟩ := y
  show Calls _ _ _ _ fun e w' => e = .returned (.int .i64 (y.id - x.id)) ∧ _
  go_enter Tryz.func70, Tryz.ntmps70
  go_wp2
  go_ret
  exact ⟨rfl, 0, _, by rw [alloc_eq_grow, alloc_eq_grow, grow_grow]; rfl⟩
theorem cmpR (blk off size : Nat) (w : World) : CmpLays Tryz.prog 70 #[] encR 4 cfR blk off size w := fun _ _ _ _ x y => fall1_any x y _
theorem lift_de {l : List De} (h : ∀ d ∈ l, 0 ≤ d.id ∧ d.id ≤ 1000000) : ∃ L : List DeR, L.map Subtype.val = l := by
  induction l with
  | nil => exact ⟨[], rfl⟩
  | cons d l ih =>
    obtain ⟨L, e⟩ := ih fun x hx => h x (List.mem_cons_of_mem _ hx)
    exact ⟨⟨d, h d (by simp)⟩ :: L, by simp [e]⟩
theorem encR_map (L : List DeR) : L.map encR = (L.map Subtype.val).map De.cells := by simp [encR, Function.comp_def]
theorem holds_of {w : World} {g : Nat} {cur : Array Value} {E : TypeId} {L : List DeR} (hc : w.heap[g]? = some (.cells cur E (0, 0))) (hs : SlAt w (some ⟨g, 0, none⟩) 4 (L.map encR)) : HoldsK encR 4 w g 0 L.toArray := by
  intro t ht
  rw [size_flatK] at ht
  have ht2 : t / 4 < L.length := by simp at ht; omega
  refine ⟨?_, by simp [World.frozen?, hc]⟩
  rw [get_flatK _ _ _ _ ht]
  obtain ⟨b, off, e, _, hl, hcl⟩ := hs (t / 4) (encR L[t / 4]) (by simp [ht2])
  cases e
  have hm : t % 4 < (encR L[t / 4]).length := by rw [hl]; omega
  have := hcl (t % 4) (encR L[t / 4])[t % 4] (by simp [hm])
  rw [show 0 + t / 4 * 4 + t % 4 = 0 + t by omega] at this
  rw [this]
  have e1 : (L.toArray)[t / 4]! = L[t / 4] := by simp [getElem!_pos, ht2]
  rw [e1, getElem!_pos (encR L[t / 4]) (t % 4) hm]; rfl
theorem slat_of {w : World} {g : Nat} {L : List DeR} (hg : g < w.heap.size) (hh : HoldsK encR 4 w g 0 L.toArray) : SlAt w (some ⟨g, 0, none⟩) 4 (L.map encR) := fun i r hr => by
  have hi : i < L.length := by have := (List.getElem?_eq_some_iff.1 hr).1; simpa using this
  have he : r = encR L[i] := by have := (List.getElem?_eq_some_iff.1 hr).2; simp at this; exact this.symm
  subst he
  refine ⟨g, 0, rfl, hg, rfl, fun j u hu => ?_⟩
  have hj : j < 4 := by have := (List.getElem?_eq_some_iff.1 hu).1; exact this
  have := (hh.cell (i := i) (c := j) (by simpa using hi) hj).1
  rw [this]
  have e1 : (L.toArray)[i]! = L[i] := by simp [getElem!_pos, hi]
  rw [e1, getElem!_pos (encR L[i]) j (by exact hj)]
  exact congrArg some (List.getElem?_eq_some_iff.1 hu).2
theorem size_sorted (w : World) (g n : Nat) (d : Array DeR) (os : Array Obj) : w.heap.size ≤ (sortWorldK encR 4 w g 0 n d os).heap.size := by
  simp [sortWorldK, putRowK, grow, putRow, mapBlock, Sort.ahead]
theorem below_sorted {B : Nat} {w : World} {g n : Nat} {d : Array DeR} {os : Array Obj} (hB : B ≤ w.heap.size) (hg : B ≤ g) : RowKit.Below B w (sortWorldK encR 4 w g 0 n d os) := by
  have h1 := Lib.below_putRow (enc := id) (q := n) (d := flatK encR 4 d) (RowKit.Below.refl B w) hg
  exact ⟨rfl, rfl, rfl, size_sorted _ _ _ _ _, fun k hk => by
    have := h1.size
    rw [← h1.block k hk]
    unfold sortWorldK putRowK grow
    exact Array.getElem?_append_left (by omega)⟩
/-- What the sort says. -/
def SortDPost (B : Nat) (v : Value) (l : List De) (w : World) (e : Ending) (w' : World) : Prop :=
  ∃ (s : List De) (g cap : Nat), e = .returned (.tuple #[]) ∧ s.Perm l ∧ (s.map De.id).Pairwise (fun a b => b ≤ a) ∧ v = .slice (some ⟨g, 0, none⟩) s.length cap ∧ SlAt w' (some ⟨g, 0, none⟩) 4 (s.map De.cells) ∧ RowKit.Below B w w' ∧ B ≤ g
theorem sortD_any (B : Nat) (v : Value) (l : List De) (w : World) (h0 : l ≠ []) (hl : l.length ≤ 1000) (hid : ∀ d ∈ l, 0 ≤ d.id ∧ d.id ≤ 1000000) (o : OwnR w B 46 4 v (l.map De.cells)) (hB : B ≤ w.heap.size) :
    Calls Tryz.prog 69 #[v, .func (.func 70) #[] #[]] w (SortDPost B v l w) := by
  obtain ⟨L, rfl⟩ := lift_de hid
  obtain ⟨a, cap0, ev, _, hs⟩ := o.slAt
  obtain ⟨_, h1, h2⟩ := o
  rcases h2 with ⟨_, h2⟩ | ⟨g, cap, cur, rfl, hg, hc, h3, h4, h5, h6⟩
  · exact absurd (List.length_eq_zero_iff.1 (by simpa using h2)) h0
  cases ev
  rw [← encR_map] at hs
  have hlt : g < w.heap.size := lt_blk hc
  have eg : ∀ args w, (callFunc 70 args).run Tryz.prog w = .ok (.enter 70 args) w := enters_of Tryz.func70 (by kernel_rfl) rfl
  have hcon := AnyQ.slices_SortFunc (P := Tryz.prog) Lay.sortD 4 (fun w => by kernel_rfl) (fun w => by kernel_rfl) encR (fun _ => rfl) (fun x v hv => eltDe.one x.1 v hv) cfR swoR 70 #[] g 0 cap0 L.toArray w eg (cmpR g 0 _ w) (holds_of hc hs) hlt (by simp at hl ⊢; omega)
  simp only [List.length_map, List.size_toArray] at hcon ⊢
  refine Calls.mono hcon ?_
  rintro e w' ⟨rfl, d', n, os, hp, hso, rfl⟩
  obtain ⟨hsz, _, hp⟩ := hp
  have hh := holdsK_sortWorldK_c encR 4 w g 0 L.toArray d' n os (holds_of hc hs) hlt hsz
  refine ⟨d'.toList.map Subtype.val, g, cap0, rfl, ?_, ?_, ?_, ?_, below_sorted hB hg, hg⟩
  · have e1 : d'.extract 0 L.length = d' := by simp at hsz; rw [← hsz]; simp
    have e2 : L.toArray.extract 0 L.length = L.toArray := by simp
    rw [e1, e2] at hp
    exact hp.map Subtype.val
  · rw [List.map_map, List.pairwise_map, List.pairwise_iff_getElem]
    intro i j hi hj hij
    have h7 := hso i j (Nat.zero_le _) hij (by simp at hsz hj ⊢; omega)
    rw [lt_cfR] at h7
    simp only [Array.length_toList] at hi hj
    rw [getElem!_pos d' i hi, getElem!_pos d' j hj] at h7
    simpa using h7
  · simp [hsz]
  · rw [← encR_map]
    exact slat_of (Nat.lt_of_lt_of_le hlt (size_sorted _ _ _ _ _)) (by simpa using hh)
end Go.Proofs.YtehdhbnbajfanaaGreat


/- plan.falling: walked; for not too many demands, their numbers from 0 to 1000000. -/
namespace Go.Proofs.YtehdhbnbajfanaaGreat
set_option linter.unusedSimpArgs false
set_option linter.unusedVariables false
open Go.RowKit Go.Sort Go.Shelf

theorem De.at4 {w : World} {a : Option Addr} {ds : List De} (h : SlAt w a 4 (ds.map De.cells)) (i : Nat) (hi : i < ds.length) : ∃ b off, a = some ⟨b, off, none⟩ ∧ w.cell? ⟨b, off + i * 4, none⟩ = some (.int .i64 ds[i].id) ∧ w.cell? ⟨b, off + i * 4 + 1, none⟩ = some (.int .i64 ds[i].part) ∧ w.cell? ⟨b, off + i * 4 + 2, none⟩ = some (.int .i64 ds[i].stand) ∧
    w.cell? ⟨b, off + i * 4 + 3, none⟩ = some (.slice ds[i].ea ds[i].eds.length ds[i].ecap) := by
  obtain ⟨b, off, e, _, _, hc⟩ := h i ds[i].cells (by simp [hi])
  exact ⟨b, off, e, hc 0 _ rfl, hc 1 _ rfl, hc 2 _ rfl, hc 3 _ rfl⟩
/-- An iterator over these demands, by falling numbers. -/
def FallPost (ds : List De) (w : World) (e : Ending) (w' : World) : Prop :=
  ∃ (s : List De) (b g cap : Nat), e = .returned (.func (.func 87) #[] #[.pointer (some ⟨b, 0, none⟩)]) ∧ w'.heap[b]? = some (.cells #[.slice (some ⟨g, 0, none⟩) s.length cap] 22 (0, 0)) ∧
    SlAt w' (some ⟨g, 0, none⟩) 4 (s.map De.cells) ∧ s.Perm ds ∧ (s.map De.id).Pairwise (fun a b => b ≤ a) ∧ RowKit.Below w.heap.size w w' ∧ w.heap.size ≤ g ∧ w.heap.size ≤ b
set_option maxRecDepth 100000 in
set_option maxHeartbeats 4000000 in
theorem falling_any (a : Option Addr) (cap : Nat) (ds : List De) (w : World) (h0 : ds ≠ []) (hl : ds.length ≤ 1000) (hid : ∀ d ∈ ds, 0 ≤ d.id ∧ d.id ≤ 1000000) (hm : DeAt w a ds) :
    Calls Tryz.prog 42 #[.slice a ds.length cap] w (FallPost ds w) := by
  have HM := Lib.hid hm.rows; have H0 := Lib.hid h0; have HID := Lib.hid hid
  clear hm h0 hid
  go_enter Tryz.func42, Tryz.ntmps42
  go_wp2_with (fail)
  refine (CloneD_any a cap ds w H0.out hl HM.out).mono ?_
  rintro e w1 ⟨v, rfl, ho, hb⟩
  have HB := Lib.hid hb; have HO := Lib.hid ho
  clear hb ho
  go_wp2_with (fail)
  refine (sortD_any w.heap.size v ds w1 H0.out hl HID.out HO.out HB.out.size).mono ?_
  rintro e w2 ⟨s, g, cg, rfl, hp, hs, rfl, hat, hb, hgB⟩
  replace HB := Lib.hid (HB.out.trans hb)
  have HP := Lib.hid hp; have HS := Lib.hid hs; have HA := Lib.hid hat
  clear hp hs hat hb
  go_wp2
  go_ret
  exact ⟨s, _, g, cg, rfl, heap_alloc_new _ _, HA.out.below ((RowKit.Below.refl _ _).alloc (Nat.le_refl _) _), HP.out, HS.out, HB.out.alloc HB.out.size _, hgB, HB.out.size⟩
end Go.Proofs.YtehdhbnbajfanaaGreat
