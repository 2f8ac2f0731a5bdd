import Derived.Test.YtehdhbnbajfanaaGreatGM
import Derived.Test.YtehdhbnbajfanaaGreatGN
import Derived.ArgAppend
import Derived.RegionTactic

/- The head of the laws on plans: walked; plan.Refuses by its contract. -/
namespace Go.Proofs.YtehdhbnbajfanaaGreat
set_option linter.unusedSimpArgs false
set_option linter.unusedVariables false
open Go.RowKit Go.Sort Go.Shelf

/-- append onto a slice without room: what is appended lies in a new block. -/
theorem appG {P : Program} {w : World} {ops : Array Oper} {rest : List Oper} {o : Oper} {a : Act} {Q : Exit → Act → World → Prop} {T E : TypeId} {sz bytes : Nat} {α : Type} {f : α → List Value} (he : Elt P T E sz bytes f)
    (hgd : o.guard = none) (s x : Operand) (ho : o.op = .call { callee := .builtin .append, args := #[s, x], argTypes := #[T, T] })
    (b off n : Nat) (l : List α) (hs : a.eval s = .slice (some ⟨b, off, none⟩) n n) (hn : n = l.length) (hin : SlAt w (some ⟨b, off, none⟩) sz (l.map f))
    (b2 off2 m c : Nat) (news : List α) (hx : a.eval x = .slice (some ⟨b2, off2, none⟩) m c) (hm : m = news.length) (hpos : 0 < m) (hnews : SlAt w (some ⟨b2, off2, none⟩) sz (news.map f))
    (hlen : l.length + news.length ≤ 1048576)
    (h : ∀ v' w', OwnR w' w.heap.size E sz v' ((l ++ news).map f) → RowKit.Below w.heap.size w w' → wpList P ops Q rest (a.put o.dst v') w') : wpList P ops Q (o :: rest) a w := by
  obtain ⟨z, hi, hz⟩ := he.info
  obtain ⟨i, hi, hz0, hz1, hz2⟩ := info_parts hi
  have hw : ∀ (k : List α), ∀ r ∈ k.map f, r.length = sz := fun k r hr => by obtain ⟨y, _, rfl⟩ := List.mem_map.1 hr; exact he.len y
  subst hn hm
  refine wpList_append_grows (P := P) w hgd s x T ho E i z sz bytes he.ty hi hz0 hz1 hz2 hz he.pos _ l.length l.length (l.map f).flatten hs (fun e => by cases e) (by rw [flat_len _ sz (hw l), List.length_map]) (fun b' e => by cases e; exact hin.flat) _ news.length c (news.map f).flatten hx (by rw [flat_len _ sz (hw news), List.length_map]) hnews.flat
    (oneCell_flat fun r hr u hu => by obtain ⟨y, _, rfl⟩ := List.mem_map.1 hr; exact he.one y u hu) (by omega) (by unfold maxLen; omega) (Nat.le_trans (Nat.mul_le_mul hlen he.small) (by decide)) fun v' w' ho' hg => h v' w' ⟨hw _, ?_⟩ ?_
  · rw [List.length_map, List.length_append, List.map_append, List.flatten_append]; exact ho'
  · exact (RowKit.Below.refl _ _).grown hg (Nat.le_refl _) (fun k e => by cases e)
theorem said1 {a1 a2 : Option Addr} {gl : List Gv} {rl : List Int} {ok : Bool} (h : Said [dd 1 7 a1, dd 2 7 a2] cs0 4 gl rl ok) : gl = [(1, 5, 0), (2, 6, 5)] ∧ rl = [] ∧ ok = true := by
  rcases h with ⟨h, _⟩ | ⟨_, h1, h2, l, h3, h4⟩
  · rw [ex1] at h; cases h
  · exact ⟨by rw [h3, plan1 a1 a2 h4], h1, h2⟩
theorem said2 {a1 a2 a4 : Option Addr} {gl : List Gv} {rl : List Int} {ok : Bool} (h : Said [dd 1 7 a1, dd 2 7 a2, dd 4 7 a4] cs0 4 gl rl ok) : gl = [] ∧ rl = [1, 2, 4] ∧ ok = false := by
  rcases h with ⟨_, h1, h2, h3⟩ | ⟨h, _⟩
  · exact ⟨h1, by rw [h2, answer2], h3⟩
  · rw [ex2] at h; cases h
theorem said3 {a1 a2 a4 : Option Addr} {gl : List Gv} {rl : List Int} {ok : Bool} (h : Said [dd 1 7 a1, dd 2 7 a2, dd 4 8 a4] cs0 4 gl rl ok) : gl = [] ∧ rl = [4] ∧ ok = false := by
  rcases h with ⟨_, h1, h2, h3⟩ | ⟨h, _⟩
  · exact ⟨h1, by rw [h2, answer3], h3⟩
  · rw [ex3] at h; cases h
theorem dds_at {w : World} {a : Option Addr} {l : List De} (h : SlAt w a 4 (l.map De.cells)) (hk : ∀ d ∈ l, d.Ok w) : DeAt w a l := ⟨h, hk⟩
theorem dd_eds {l : List De} (h : ∀ d ∈ l, ∃ i p a, d = dd i p a) : ∀ d ∈ l, d.eds.length ≤ 1000 := fun d hd => by
  obtain ⟨i, p, a, rfl⟩ := h d hd
  show 1 ≤ 1000
  decide
theorem wpAny_take1 {P : Program} {md : Region.Mode} {ops : Array Oper} {Q : Exit → Act → World → Prop} (i : Nat) {oi : Oper} {v : Value} {fuel : Nat} {listed : Array Bool} {a : Act} {w : World} (hi : ops[i]? = some oi)
    (hs : Region.noSelect ops = true) (hf : Region.free md ops listed i = true) (hr : (Region.ready md ops listed).contains i = true)
    (hy : Region.wanted oi (yielded ops a.tmps) = true ∧ ∀ w, (execOp a.eval oi).run P w = .ok (.value v) w) (hQ : ∀ c a w, Q (.panic c) (Act.put a oi.dst v) w → Q (.panic c) a w) (h : wpAny P md ops Q fuel (listed.setIfInBounds i true) (a.put oi.dst v) w) : wpAny P md ops Q (fuel + 1) listed a w :=
  wpAny_take hi hs hf hr hQ (.inl hy) h
/-- append onto a slice without room, as one step of a region that draws. -/
theorem step_appG {P : Program} {w : World} {ops : Array Oper} {o : Oper} {a : Act} {K : Act → World → Prop} {Q : Exit → Act → World → Prop} {T E : TypeId} {sz bytes : Nat} {α : Type} {f : α → List Value} {F : Prop} (he : Elt P T E sz bytes f)
    (hgd : o.guard = none) (s x : Operand) (ho : o.op = .call { callee := .builtin .append, args := #[s, x], argTypes := #[T, T] })
    (b off n : Nat) (l : List α) (hs : a.eval s = .slice (some ⟨b, off, none⟩) n n) (hn : n = l.length) (hin : SlAt w (some ⟨b, off, none⟩) sz (l.map f))
    (b2 off2 m c : Nat) (news : List α) (hx : a.eval x = .slice (some ⟨b2, off2, none⟩) m c) (hm : m = news.length) (hpos : 0 < m) (hnews : SlAt w (some ⟨b2, off2, none⟩) sz (news.map f))
    (hlen : l.length + news.length ≤ 1048576)
    (h : ∀ v' w', OwnR w' w.heap.size E sz v' ((l ++ news).map f) → RowKit.Below w.heap.size w w' → K (a.put o.dst v') w') : if Region.wanted o (yielded ops a.tmps) = true then Oper.wp P o a w K Q else F := by
  have hw : Region.wanted o (yielded ops a.tmps) = true := by simp [Region.wanted, hgd]
  rw [if_pos hw]
  obtain ⟨z, hi, hz⟩ := he.info
  obtain ⟨i, hi, hz0, hz1, hz2⟩ := info_parts hi
  have hww : ∀ (k : List α), ∀ r ∈ k.map f, r.length = sz := fun k r hr => by obtain ⟨y, _, rfl⟩ := List.mem_map.1 hr; exact he.len y
  subst hn hm
  obtain ⟨v', w', hrun, r1, r2⟩ := run_append_arg_grows (P := P) w T o.type E i z sz bytes he.ty hi hz0 hz1 hz2 hz he.pos ⟨b, off, none⟩ l.length l.length (l.map f).flatten (by rw [flat_len _ sz (hww l), List.length_map]) hin.flat ⟨b2, off2, none⟩ news.length c (news.map f).flatten (by rw [flat_len _ sz (hww news), List.length_map]) hnews.flat
    (by omega) (by unfold maxLen; omega) (Nat.le_trans (Nat.mul_le_mul hlen he.small) (by decide))
  unfold Oper.wp
  simp [execOp, ho, resolve, invoke, builtin, hs, hx, hrun, Result.andThen]
  refine h v' w' ⟨hww _, ?_⟩ ((RowKit.Below.refl _ _).grown r2 (Nat.le_refl _) (fun k e => by cases e))
  rw [List.length_map, List.length_append, List.map_append, List.flatten_append]; exact r1
theorem said4 {a1 a2 : Option Addr} {gl : List Gv} {rl : List Int} {ok : Bool} {err : Int} (h : Says BTo [dd 1 7 a1, dd 2 7 a2] cs0 (-1) gl rl ok err) : err = 1 ∧ gl = [] ∧ rl = [] ∧ ok = false := by
  have hv : (validB [dd 1 7 a1, dd 2 7 a2] cs0 && inR 0 99 (-1)) = false := rfl
  rcases h with ⟨_, h1, h2, h3, h4⟩ | ⟨h, _⟩ | ⟨h, _⟩
  · exact ⟨h4, h1, h2, h3⟩
  · rw [hv] at h; cases h
  · rw [hv] at h; cases h
set_option maxRecDepth 100000 in
set_option maxHeartbeats 4000000 in
theorem phead_any (HQ : RefusesC) (w : World) : Calls Tryz.prog 10 #[] w fun e w' => e = .returned (.bool true) ∧ RowKit.Below w.heap.size w w' := by
  go_enter Tryz.func10, Tryz.ntmps10
  go_wp2_with (fail)
  refine (demand_any 1 7 w).mono ?_
  rintro e w1 ⟨a1, rfl, hd1, hb⟩
  have HB := Lib.hid hb; have HD1 := Lib.hid hd1; clear hb hd1
  go_wp2_with (fail)
  refine (demand_any 2 7 w1).mono ?_
  rintro e w2 ⟨a2, rfl, hd2, hb⟩
  have HD2 := Lib.hid hd2
  replace HD1 := Lib.hid (HD1.out.below hb)
  replace HB := Lib.hid (HB.out.trans (hb.mono HB.out.size)); clear hb
  clear hd2
  go_wp2_with (fail)
  have hb1 : RowKit.Below w2.heap.size w2 (w2.alloc (.cells #[.int .i64 1, .int .i64 7, .int .i64 1, .slice a1 1 1, .int .i64 2, .int .i64 7, .int .i64 1, .slice a2 1 1] 46)) := (RowKit.Below.refl _ _).alloc (Nat.le_refl _) _
  have hs1 : SlAt (w2.alloc (.cells #[.int .i64 1, .int .i64 7, .int .i64 1, .slice a1 1 1, .int .i64 2, .int .i64 7, .int .i64 1, .slice a2 1 1] 46)) (some ⟨w2.heap.size, 0, none⟩) 4 ([dd 1 7 a1, dd 2 7 a2].map De.cells) := SlAt.new _ _ _ _ _ (by simp [De.cells]) rfl
  have hm1 : DeAt (w2.alloc (.cells #[.int .i64 1, .int .i64 7, .int .i64 1, .slice a1 1 1, .int .i64 2, .int .i64 7, .int .i64 1, .slice a2 1 1] 46)) (some ⟨w2.heap.size, 0, none⟩) [dd 1 7 a1, dd 2 7 a2] := dds_at hs1 fun d hd => by
    simp only [List.mem_cons, List.not_mem_nil, or_false] at hd
    rcases hd with rfl | rfl
    · exact HD1.out.below hb1
    · exact HD2.out.below hb1
  have hsz : (w2.alloc (.cells #[.int .i64 1, .int .i64 7, .int .i64 1, .slice a1 1 1, .int .i64 2, .int .i64 7, .int .i64 1, .slice a2 1 1] 46)).heap.size = w2.heap.size + 1 := by simp
  have HB1 := Lib.hid (HB.out.trans (hb1.mono HB.out.size)); clear HB
  generalize (w2.alloc (.cells #[.int .i64 1, .int .i64 7, .int .i64 1, .slice a1 1 1, .int .i64 2, .int .i64 7, .int .i64 1, .slice a2 1 1] 46)) = w3 at *
  generalize w2.heap.size = g at *
  clear hb1 hs1 HD1 HD2
  have hb2 : RowKit.Below w3.heap.size w3 (w3.alloc (.cells #[.int .i64 5, .int .i64 7, .int .i64 3, .int .i64 4, .int .i64 6, .int .i64 7, .int .i64 3, .int .i64 2] 44)) := (RowKit.Below.refl _ _).alloc (Nat.le_refl _) _
  have hc1 : CoAt (w3.alloc (.cells #[.int .i64 5, .int .i64 7, .int .i64 3, .int .i64 4, .int .i64 6, .int .i64 7, .int .i64 3, .int .i64 2] 44)) (some ⟨w3.heap.size, 0, none⟩) cs0 := SlAt.new _ _ _ _ _ (by simp [Co.cells, cs0]) rfl
  rw [hsz] at hc1
  have HM := Lib.hid (hm1.below hb2)
  have HB := Lib.hid (HB1.out.trans (hb2.mono HB1.out.size)); clear HB1 hm1 hb2 hsz
  generalize (w3.alloc (.cells #[.int .i64 5, .int .i64 7, .int .i64 3, .int .i64 4, .int .i64 6, .int .i64 7, .int .i64 3, .int .i64 2] 44)) = w4 at *
  have HC := Lib.hid hc1; clear hc1 w3
  have HE1 := Lib.hid (dd_eds (l := [dd 1 7 a1, dd 2 7 a2]) (by simp only [List.mem_cons, List.not_mem_nil, or_false]; rintro d (rfl | rfl) <;> exact ⟨_, _, _, rfl⟩))
  refine (Plan_any _ _ 2 2 [dd 1 7 a1, dd 2 7 a2] cs0 4 _ (by simp) (by simp [cs0]) HE1.out HM.out HC.out).mono ?_
  intro e w5 hp
  obtain ⟨p1, p2, q1, q2, gl, rl, ok, err, rfl, hsay, _, hg, _, _, hb⟩ := hp.res
  obtain ⟨rfl, hsaid⟩ := says_said hsay rfl
  obtain ⟨rfl, rfl, rfl⟩ := said1 hsaid
  replace HB := Lib.hid (HB.out.trans (hb.mono HB.out.size)); replace HM := Lib.hid (HM.out.below hb); replace HC := Lib.hid (HC.out.below hb); (try replace HG := Lib.hid (HG.out.below hb)); (try replace HR := Lib.hid (HR.out.below hb)); (try replace HS := Lib.hid (HS.out.below hb))
  have HG := Lib.hid hg
  clear hp hsay hsaid hg hb
  go_wp2_with (fail); refine (demand_any 4 7 _).mono ?_; rintro e w3 ⟨a4, rfl, hd4, hb⟩; have HD4 := Lib.hid hd4; replace HB := Lib.hid (HB.out.trans (hb.mono HB.out.size)); replace HM := Lib.hid (HM.out.below hb); replace HC := Lib.hid (HC.out.below hb); (try replace HG := Lib.hid (HG.out.below hb)); (try replace HR := Lib.hid (HR.out.below hb)); (try replace HS := Lib.hid (HS.out.below hb)); clear hd4 hb
  go_wp2_with (at_builtin; go_must (refine appG eltDe rfl (.tmp 39) (.tmp 41) rfl _ _ 2 [dd 1 7 a1, dd 2 7 a2] rfl rfl (HM.out.rows.alloc _) _ _ 1 1 [dd 4 7 a4] rfl rfl (by decide) (eltDe.new _ _ _ _ rfl) (by simp) ?_); intro v5 w5 ho5 hb5; obtain ⟨a5, c5, e5, _, hi5⟩ := ho5.slAt; replace e5 : v5 = .slice a5 3 c5 := e5; subst e5; have hb := RowKit.Below.trans ((RowKit.Below.refl _ _).alloc (Nat.le_refl _) _) (hb5.mono (by simp)); have HN := Lib.hid (show DeAt w5 a5 [dd 1 7 a1, dd 2 7 a2, dd 4 7 a4] from dds_at hi5 fun d hd => by (simp only [List.mem_cons, List.not_mem_nil, or_false] at hd; rcases hd with rfl | rfl | rfl; exact (HM.out.ok _ (by simp)).below hb; exact (HM.out.ok _ (by simp)).below hb; exact HD4.out.below hb)); replace HB := Lib.hid (HB.out.trans (hb.mono HB.out.size)); replace HM := Lib.hid (HM.out.below hb); replace HC := Lib.hid (HC.out.below hb); (try replace HG := Lib.hid (HG.out.below hb)); (try replace HR := Lib.hid (HR.out.below hb)); (try replace HS := Lib.hid (HS.out.below hb)); clear ho5 hb5 hi5 hb HD4)
  have HE2 := Lib.hid (fun a4 => dd_eds (l := [dd 1 7 a1, dd 2 7 a2, dd 4 7 a4]) (by simp only [List.mem_cons, List.not_mem_nil, or_false]; rintro d (rfl | rfl | rfl) <;> exact ⟨_, _, _, rfl⟩))
  have HE3 := Lib.hid (fun a4 => dd_eds (l := [dd 1 7 a1, dd 2 7 a2, dd 4 8 a4]) (by simp only [List.mem_cons, List.not_mem_nil, or_false]; rintro d (rfl | rfl | rfl) <;> exact ⟨_, _, _, rfl⟩))
  refine (Plan_any _ _ c5 2 [dd 1 7 a1, dd 2 7 a2, dd 4 7 a4] cs0 4 _ (by simp) (by simp [cs0]) (HE2.out a4) HN.out HC.out).mono ?_
  intro e w6 hp
  obtain ⟨p3, p4, q3, q4, gl, rl, ok, err, rfl, hsay, _, _, hs4, hr, hb⟩ := hp.res
  obtain ⟨rfl, hsaid⟩ := says_said hsay rfl
  obtain ⟨rfl, rfl, rfl⟩ := said2 hsaid
  have HQ4 := Lib.hid (show 3 ≤ q4 from hs4.le)
  clear hs4
  replace HB := Lib.hid (HB.out.trans (hb.mono HB.out.size)); replace HM := Lib.hid (HM.out.below hb); replace HC := Lib.hid (HC.out.below hb); (try replace HG := Lib.hid (HG.out.below hb)); (try replace HR := Lib.hid (HR.out.below hb)); (try replace HS := Lib.hid (HS.out.below hb))
  have HR := Lib.hid hr
  clear hp hsay hsaid hr hb HN
  go_wp2_with (fail); refine (demand_any 4 8 _).mono ?_; rintro e w3 ⟨a4, rfl, hd4, hb⟩; have HD4 := Lib.hid hd4; replace HB := Lib.hid (HB.out.trans (hb.mono HB.out.size)); replace HM := Lib.hid (HM.out.below hb); replace HC := Lib.hid (HC.out.below hb); (try replace HG := Lib.hid (HG.out.below hb)); (try replace HR := Lib.hid (HR.out.below hb)); (try replace HS := Lib.hid (HS.out.below hb)); clear hd4 hb
  go_wp2_with (at_builtin; go_must (refine appG eltDe rfl (.tmp 50) (.tmp 52) rfl _ _ 2 [dd 1 7 a1, dd 2 7 a2] rfl rfl (HM.out.rows.alloc _) _ _ 1 1 [dd 4 8 a4] rfl rfl (by decide) (eltDe.new _ _ _ _ rfl) (by simp) ?_); intro v5 w5 ho5 hb5; obtain ⟨a5, c5, e5, _, hi5⟩ := ho5.slAt; replace e5 : v5 = .slice a5 3 c5 := e5; subst e5; have hb := RowKit.Below.trans ((RowKit.Below.refl _ _).alloc (Nat.le_refl _) _) (hb5.mono (by simp)); have HN := Lib.hid (show DeAt w5 a5 [dd 1 7 a1, dd 2 7 a2, dd 4 8 a4] from dds_at hi5 fun d hd => by (simp only [List.mem_cons, List.not_mem_nil, or_false] at hd; rcases hd with rfl | rfl | rfl; exact (HM.out.ok _ (by simp)).below hb; exact (HM.out.ok _ (by simp)).below hb; exact HD4.out.below hb)); replace HB := Lib.hid (HB.out.trans (hb.mono HB.out.size)); replace HM := Lib.hid (HM.out.below hb); replace HC := Lib.hid (HC.out.below hb); (try replace HG := Lib.hid (HG.out.below hb)); (try replace HR := Lib.hid (HR.out.below hb)); (try replace HS := Lib.hid (HS.out.below hb)); clear ho5 hb5 hi5 hb HD4)
  refine (Plan_any _ _ c5 2 [dd 1 7 a1, dd 2 7 a2, dd 4 8 a4] cs0 4 _ (by simp) (by simp [cs0]) (HE3.out a4) HN.out HC.out).mono ?_
  intro e w7 hp
  obtain ⟨p5, p6, q5, q6, gl, rl, ok, err, rfl, hsay, _, _, _, hr, hb⟩ := hp.res
  obtain ⟨rfl, hsaid⟩ := says_said hsay rfl
  obtain ⟨rfl, rfl, rfl⟩ := said3 hsaid
  replace HB := Lib.hid (HB.out.trans (hb.mono HB.out.size)); replace HM := Lib.hid (HM.out.below hb); replace HC := Lib.hid (HC.out.below hb); (try replace HG := Lib.hid (HG.out.below hb)); (try replace HR := Lib.hid (HR.out.below hb)); (try replace HS := Lib.hid (HS.out.below hb))
  have HS := Lib.hid hr
  clear hp hsay hsaid hr hb HN
  go_wp2_with (fail); refine (demand_any 4 7 _).mono ?_; rintro e w3 ⟨a4, rfl, hd4, hb⟩; have HD4 := Lib.hid hd4; replace HB := Lib.hid (HB.out.trans (hb.mono HB.out.size)); replace HM := Lib.hid (HM.out.below hb); replace HC := Lib.hid (HC.out.below hb); (try replace HG := Lib.hid (HG.out.below hb)); (try replace HR := Lib.hid (HR.out.below hb)); (try replace HS := Lib.hid (HS.out.below hb)); clear hd4 hb
  go_wp2_with (at_builtin; go_must (refine appG eltDe rfl (.tmp 61) (.tmp 63) rfl _ _ 2 [dd 1 7 a1, dd 2 7 a2] rfl rfl (HM.out.rows.alloc _) _ _ 1 1 [dd 4 7 a4] rfl rfl (by decide) (eltDe.new _ _ _ _ rfl) (by simp) ?_); intro v5 w5 ho5 hb5; obtain ⟨a5, c5, e5, _, hi5⟩ := ho5.slAt; replace e5 : v5 = .slice a5 3 c5 := e5; subst e5; have hb := RowKit.Below.trans ((RowKit.Below.refl _ _).alloc (Nat.le_refl _) _) (hb5.mono (by simp)); have HN := Lib.hid (show DeAt w5 a5 [dd 1 7 a1, dd 2 7 a2, dd 4 7 a4] from dds_at hi5 fun d hd => by (simp only [List.mem_cons, List.not_mem_nil, or_false] at hd; rcases hd with rfl | rfl | rfl; exact (HM.out.ok _ (by simp)).below hb; exact (HM.out.ok _ (by simp)).below hb; exact HD4.out.below hb)); replace HB := Lib.hid (HB.out.trans (hb.mono HB.out.size)); replace HM := Lib.hid (HM.out.below hb); replace HC := Lib.hid (HC.out.below hb); (try replace HG := Lib.hid (HG.out.below hb)); (try replace HR := Lib.hid (HR.out.below hb)); (try replace HS := Lib.hid (HS.out.below hb)); clear ho5 hb5 hi5 hb HD4)
  refine (HQ _ _ _ _ _ _ [dd 1 7 a1, dd 2 7 a2, dd 4 7 a4] cs0 [1, 2, 4] _ (by simp) (by simp [cs0]) (by simp) (HE2.out a4) HN.out HC.out HR.out).mono ?_
  rintro e w8 ⟨b, err, rfl, hr, hb⟩
  obtain ⟨rfl, hr2⟩ := ref_said hr rfl
  obtain rfl : b = true := hr2.2 (refu2 a1 a2 a4)
  replace HB := Lib.hid (HB.out.trans (hb.mono HB.out.size)); replace HM := Lib.hid (HM.out.below hb); replace HC := Lib.hid (HC.out.below hb); (try replace HG := Lib.hid (HG.out.below hb)); (try replace HR := Lib.hid (HR.out.below hb)); (try replace HS := Lib.hid (HS.out.below hb))
  clear hr hr2 hb HN
  go_wp2
  refine wp_region_any (by kernel_rfl) ?_
  change wpAny _ _ _ _ _ _ _ (World.drew _)
  obtain ⟨b4, o4, rfl, _⟩ := HR.out.get 0 (by simp)
  have hmin : min (2 : Int) 3 = 2 := by decide
  have hq2 : (2 : Int) ≤ (q4 : Int) := by have := HQ4.out; omega
  have hq0 : ¬ q4 = 0 := by have := HQ4.out; omega
  have hq1 : ¬ (q4 : Int) = 0 := by have := HQ4.out; omega
  ((refine wpAny_take1 0 (oi := ?_) (v := ?_) ?_ (by kernel_rfl) (by kernel_rfl) (by kernel_rfl) ?_ ?_ ?_; rotate_left 2; (· simp only [List.getElem?_toArray, List.getElem?_cons_succ, List.getElem?_cons_zero]; try rfl); (· refine ⟨by kernel_rfl, ?_⟩; intro wq; go_simp; first | done | with_reducible rfl); (· exact fun _ _ _ h => h); try simp only [Act.put, List.setIfInBounds_toArray, List.set_cons_zero, List.set_cons_succ]); (refine wpAny_take1 4 (oi := ?_) (v := ?_) ?_ (by kernel_rfl) (by kernel_rfl) (by kernel_rfl) ?_ ?_ ?_; rotate_left 2; (· simp only [List.getElem?_toArray, List.getElem?_cons_succ, List.getElem?_cons_zero]; try rfl); (· refine ⟨by kernel_rfl, ?_⟩; intro wq; go_simp; first | done | with_reducible rfl); (· exact fun _ _ _ h => h); try simp only [Act.put, List.setIfInBounds_toArray, List.set_cons_zero, List.set_cons_succ]); (refine wpAny_take1 5 (oi := ?_) (v := ?_) ?_ (by kernel_rfl) (by kernel_rfl) (by kernel_rfl) ?_ ?_ ?_; rotate_left 2; (· simp only [List.getElem?_toArray, List.getElem?_cons_succ, List.getElem?_cons_zero]; try rfl); (· refine ⟨by kernel_rfl, ?_⟩; intro wq; go_simp; first | done | with_reducible rfl); (· exact fun _ _ _ h => h); try simp only [Act.put, List.setIfInBounds_toArray, List.set_cons_zero, List.set_cons_succ]); (refine wpAny_take1 6 (oi := ?_) (v := ?_) ?_ (by kernel_rfl) (by kernel_rfl) (by kernel_rfl) ?_ ?_ ?_; rotate_left 2; (· simp only [List.getElem?_toArray, List.getElem?_cons_succ, List.getElem?_cons_zero]; try rfl); (· refine ⟨by kernel_rfl, ?_⟩; intro wq; go_simp; first | done | with_reducible rfl); (· exact fun _ _ _ h => h); try simp only [Act.put, List.setIfInBounds_toArray, List.set_cons_zero, List.set_cons_succ]); (refine wpAny_take1 7 (oi := ?_) (v := ?_) ?_ (by kernel_rfl) (by kernel_rfl) (by kernel_rfl) ?_ ?_ ?_; rotate_left 2; (· simp only [List.getElem?_toArray, List.getElem?_cons_succ, List.getElem?_cons_zero]; try rfl); (· refine ⟨by kernel_rfl, ?_⟩; intro wq; go_simp; first | done | with_reducible rfl); (· exact fun _ _ _ h => h); try simp only [Act.put, List.setIfInBounds_toArray, List.set_cons_zero, List.set_cons_succ]); (refine wpAny_take1 8 (oi := ?_) (v := ?_) ?_ (by kernel_rfl) (by kernel_rfl) (by kernel_rfl) ?_ ?_ ?_; rotate_left 2; (· simp only [List.getElem?_toArray, List.getElem?_cons_succ, List.getElem?_cons_zero]; try rfl); (· refine ⟨by kernel_rfl, ?_⟩; intro wq; go_simp; first | done | with_reducible rfl); (· exact fun _ _ _ h => h); try simp only [Act.put, List.setIfInBounds_toArray, List.set_cons_zero, List.set_cons_succ]); (refine wpAny_take1 9 (oi := ?_) (v := ?_) ?_ (by kernel_rfl) (by kernel_rfl) (by kernel_rfl) ?_ ?_ ?_; rotate_left 2; (· simp only [List.getElem?_toArray, List.getElem?_cons_succ, List.getElem?_cons_zero]; try rfl); (· refine ⟨by kernel_rfl, ?_⟩; intro wq; go_simp; first | done | with_reducible rfl); (· exact fun _ _ _ h => h); try simp only [Act.put, List.setIfInBounds_toArray, List.set_cons_zero, List.set_cons_succ]))
  clear hmin hq2 hq0 hq1
  (refine wpAny_ready (rs := [1]) (by kernel_rfl) (by simp) (AllReady.cons (o := ?_) ?_ (fun K hK => ?_) AllReady.nil); rotate_left 1; (· simp only [List.getElem?_toArray, List.getElem?_cons_succ, List.getElem?_cons_zero]; try rfl))
  have hb : RowKit.Below w8.heap.size w8 w8.drew := (RowKit.Below.refl _ _).drew
  replace HB := Lib.hid (HB.out.trans (hb.mono HB.out.size)); replace HM := Lib.hid (HM.out.below hb); replace HC := Lib.hid (HC.out.below hb); (try replace HG := Lib.hid (HG.out.below hb)); (try replace HR := Lib.hid (HR.out.below hb)); (try replace HS := Lib.hid (HS.out.below hb))
  clear hb
  go_simp
  refine (demand_any 4 7 _).mono ?_
  rintro e w9 ⟨a4, rfl, hd4, hb⟩
  have HD4 := Lib.hid hd4
  replace HB := Lib.hid (HB.out.trans (hb.mono HB.out.size)); replace HM := Lib.hid (HM.out.below hb); replace HC := Lib.hid (HC.out.below hb); (try replace HG := Lib.hid (HG.out.below hb)); (try replace HR := Lib.hid (HR.out.below hb)); (try replace HS := Lib.hid (HS.out.below hb))
  clear hd4 hb
  go_simp
  refine hK _ _ ?_
  clear hK K
  (try (simp only [Act.put, List.setIfInBounds_toArray, List.set_cons_zero, List.set_cons_succ]))
  (refine wpAny_ready (rs := [2]) (by kernel_rfl) (by simp) (AllReady.cons (o := ?_) ?_ (fun K hK => ?_) AllReady.nil); rotate_left 1; (· simp only [List.getElem?_toArray, List.getElem?_cons_succ, List.getElem?_cons_zero]; try rfl))
  go_simp
  refine hK _ _ ?_
  clear hK K
  (try (simp only [Act.put, List.setIfInBounds_toArray, List.set_cons_zero, List.set_cons_succ]))
  (refine wpAny_ready (rs := [3]) (by kernel_rfl) (by simp) (AllReady.cons (o := ?_) ?_ (fun K hK => ?_) AllReady.nil); rotate_left 1; (· simp only [List.getElem?_toArray, List.getElem?_cons_succ, List.getElem?_cons_zero]; try rfl))
  refine step_appG eltDe rfl (.tmp 71) (.tmp 73) rfl _ _ 2 [dd 1 7 a1, dd 2 7 a2] rfl rfl (HM.out.rows.alloc _) _ _ 1 1 [dd 4 7 a4] rfl rfl (by decide) (eltDe.new _ _ _ _ rfl) (by simp) ?_
  intro v5 w5 ho5 hb5
  obtain ⟨a5, c5, e5, _, hi5⟩ := ho5.slAt
  replace e5 : v5 = .slice a5 3 c5 := e5
  subst e5
  have hb := RowKit.Below.trans ((RowKit.Below.refl _ _).alloc (Nat.le_refl _) _) (hb5.mono (by simp))
  have HN := Lib.hid (show DeAt w5 a5 [dd 1 7 a1, dd 2 7 a2, dd 4 7 a4] from dds_at hi5 fun d hd => by
    simp only [List.mem_cons, List.not_mem_nil, or_false] at hd
    rcases hd with rfl | rfl | rfl
    · exact (HM.out.ok _ (by simp)).below hb
    · exact (HM.out.ok _ (by simp)).below hb
    · exact HD4.out.below hb)
  replace HB := Lib.hid (HB.out.trans (hb.mono HB.out.size)); replace HM := Lib.hid (HM.out.below hb); replace HC := Lib.hid (HC.out.below hb); (try replace HG := Lib.hid (HG.out.below hb)); (try replace HR := Lib.hid (HR.out.below hb)); (try replace HS := Lib.hid (HS.out.below hb))
  clear ho5 hb5 hi5 hb HD4
  refine hK _ _ ?_
  clear hK K
  (try (simp only [Act.put, List.setIfInBounds_toArray, List.set_cons_zero, List.set_cons_succ]))
  (refine wpAny_ready (rs := [10]) (by kernel_rfl) (by simp) (AllReady.cons (o := ?_) ?_ (fun K hK => ?_) AllReady.nil); rotate_left 1; (· simp only [List.getElem?_toArray, List.getElem?_cons_succ, List.getElem?_cons_zero]; try rfl))
  go_simp
  refine (HQ _ _ _ _ _ _ [dd 1 7 a1, dd 2 7 a2, dd 4 7 a4] cs0 [1, 2] _ (by simp) (by simp [cs0]) (by simp) (HE2.out a4) HN.out HC.out (HR.out.take' 2)).mono ?_
  rintro e w10 ⟨b, err, rfl, hr, hb⟩
  obtain ⟨rfl, hr2⟩ := ref_said hr rfl
  obtain rfl : b = false := by
    cases b
    · rfl
    · exact absurd (hr2.1 rfl) (refu3 a1 a2 a4)
  replace HB := Lib.hid (HB.out.trans (hb.mono HB.out.size)); replace HM := Lib.hid (HM.out.below hb); replace HC := Lib.hid (HC.out.below hb); (try replace HG := Lib.hid (HG.out.below hb)); (try replace HR := Lib.hid (HR.out.below hb)); (try replace HS := Lib.hid (HS.out.below hb))
  clear hr hr2 hb HN
  go_simp
  refine hK _ _ ?_
  clear hK K
  (try (simp only [Act.put, List.setIfInBounds_toArray, List.set_cons_zero, List.set_cons_succ]))
  ((refine wpAny_take1 11 (oi := ?_) (v := ?_) ?_ (by kernel_rfl) (by kernel_rfl) (by kernel_rfl) ?_ ?_ ?_; rotate_left 2; (· simp only [List.getElem?_toArray, List.getElem?_cons_succ, List.getElem?_cons_zero]; try rfl); (· refine ⟨by kernel_rfl, ?_⟩; intro wq; go_simp; first | done | with_reducible rfl); (· exact fun _ _ _ h => h); try simp only [Act.put, List.setIfInBounds_toArray, List.set_cons_zero, List.set_cons_succ]); (refine wpAny_take1 12 (oi := ?_) (v := ?_) ?_ (by kernel_rfl) (by kernel_rfl) (by kernel_rfl) ?_ ?_ ?_; rotate_left 2; (· simp only [List.getElem?_toArray, List.getElem?_cons_succ, List.getElem?_cons_zero]; try rfl); (· refine ⟨by kernel_rfl, ?_⟩; intro wq; go_simp; first | done | with_reducible rfl); (· exact fun _ _ _ h => h); try simp only [Act.put, List.setIfInBounds_toArray, List.set_cons_zero, List.set_cons_succ]); (refine wpAny_take1 13 (oi := ?_) (v := ?_) ?_ (by kernel_rfl) (by kernel_rfl) (by kernel_rfl) ?_ ?_ ?_; rotate_left 2; (· simp only [List.getElem?_toArray, List.getElem?_cons_succ, List.getElem?_cons_zero]; try rfl); (· refine ⟨by kernel_rfl, ?_⟩; intro wq; go_simp; first | done | with_reducible rfl); (· exact fun _ _ _ h => h); try simp only [Act.put, List.setIfInBounds_toArray, List.set_cons_zero, List.set_cons_succ]); (refine wpAny_take1 14 (oi := ?_) (v := ?_) ?_ (by kernel_rfl) (by kernel_rfl) (by kernel_rfl) ?_ ?_ ?_; rotate_left 2; (· simp only [List.getElem?_toArray, List.getElem?_cons_succ, List.getElem?_cons_zero]; try rfl); (· refine ⟨by kernel_rfl, ?_⟩; intro wq; go_simp; first | done | with_reducible rfl); (· exact fun _ _ _ h => h); try simp only [Act.put, List.setIfInBounds_toArray, List.set_cons_zero, List.set_cons_succ]); (refine wpAny_take1 15 (oi := ?_) (v := ?_) ?_ (by kernel_rfl) (by kernel_rfl) (by kernel_rfl) ?_ ?_ ?_; rotate_left 2; (· simp only [List.getElem?_toArray, List.getElem?_cons_succ, List.getElem?_cons_zero]; try rfl); (· refine ⟨by kernel_rfl, ?_⟩; intro wq; go_simp; first | done | with_reducible rfl); (· exact fun _ _ _ h => h); try simp only [Act.put, List.setIfInBounds_toArray, List.set_cons_zero, List.set_cons_succ]))
  refine wpAny_done (by kernel_rfl) ?_ _
  go_wp2_with (fail)
  refine (Plan_any _ _ 2 2 [dd 1 7 a1, dd 2 7 a2] cs0 (-1) _ (by simp) (by simp [cs0]) HE1.out HM.out HC.out).mono ?_
  intro e w11 hp
  obtain ⟨p7, p8, q7, q8, gl, rl, ok, err, rfl, hsay, _, _, _, _, hb⟩ := hp.res
  obtain ⟨rfl, rfl, rfl, rfl⟩ := said4 hsay
  replace HB := Lib.hid (HB.out.trans (hb.mono HB.out.size)); replace HM := Lib.hid (HM.out.below hb); replace HC := Lib.hid (HC.out.below hb); (try replace HG := Lib.hid (HG.out.below hb)); (try replace HR := Lib.hid (HR.out.below hb)); (try replace HS := Lib.hid (HS.out.below hb))
  clear hp hsay hb
  go_wp2_with (fail)
  have i9 : GvAt (w11.alloc (.cells #[.int .i64 1, .int .i64 5, .int .i64 0, .int .i64 2, .int .i64 6, .int .i64 5] 42)) (some ⟨w11.heap.size, 0, none⟩) [(1, 5, 0), (2, 6, 5)] := SlAt.new _ _ _ _ _ (by simp [Gv.cells]) rfl
  have hb := (RowKit.Below.refl w11.heap.size w11).alloc (Nat.le_refl _) (.cells #[.int .i64 1, .int .i64 5, .int .i64 0, .int .i64 2, .int .i64 6, .int .i64 5] 42)
  replace HB := Lib.hid (HB.out.trans (hb.mono HB.out.size)); replace HM := Lib.hid (HM.out.below hb); replace HC := Lib.hid (HC.out.below hb); (try replace HG := Lib.hid (HG.out.below hb)); (try replace HR := Lib.hid (HR.out.below hb)); (try replace HS := Lib.hid (HS.out.below hb))
  clear hb
  refine (RSameG_any _ _ 2 2 _ _ [(1, 5, 0), (2, 6, 5)] [(1, 5, 0), (2, 6, 5)] _ rfl rfl (by decide) (by decide) HG.out i9).mono ?_
  clear i9
  rintro e w12 ⟨rfl, hb⟩
  replace HB := Lib.hid (HB.out.trans (hb.mono HB.out.size)); replace HM := Lib.hid (HM.out.below hb); replace HC := Lib.hid (HC.out.below hb); (try replace HG := Lib.hid (HG.out.below hb)); (try replace HR := Lib.hid (HR.out.below hb)); (try replace HS := Lib.hid (HS.out.below hb))
  clear hb
  go_wp2_with (fail)
  have i9 : InAt (w12.alloc (.cells #[.int .i64 1, .int .i64 2, .int .i64 4] 3)) (some ⟨w12.heap.size, 0, none⟩) [1, 2, 4] := inAt_new w12 [1, 2, 4] _ rfl
  have hb := (RowKit.Below.refl w12.heap.size w12).alloc (Nat.le_refl _) (.cells #[.int .i64 1, .int .i64 2, .int .i64 4] 3)
  replace HB := Lib.hid (HB.out.trans (hb.mono HB.out.size)); replace HM := Lib.hid (HM.out.below hb); replace HC := Lib.hid (HC.out.below hb); (try replace HG := Lib.hid (HG.out.below hb)); (try replace HR := Lib.hid (HR.out.below hb)); (try replace HS := Lib.hid (HS.out.below hb))
  clear hb
  refine (RSameI_any _ _ 3 3 _ _ [1, 2, 4] [1, 2, 4] _ rfl rfl (by decide) (by decide) HR.out i9).mono ?_
  clear i9
  rintro e w13 ⟨rfl, hb⟩
  replace HB := Lib.hid (HB.out.trans (hb.mono HB.out.size)); replace HM := Lib.hid (HM.out.below hb); replace HC := Lib.hid (HC.out.below hb); (try replace HG := Lib.hid (HG.out.below hb)); (try replace HR := Lib.hid (HR.out.below hb)); (try replace HS := Lib.hid (HS.out.below hb))
  clear hb
  go_wp2_with (fail)
  have i9 : InAt (w13.alloc (.cells #[.int .i64 4] 3)) (some ⟨w13.heap.size, 0, none⟩) [4] := inAt_new w13 [4] _ rfl
  have hb := (RowKit.Below.refl w13.heap.size w13).alloc (Nat.le_refl _) (.cells #[.int .i64 4] 3)
  replace HB := Lib.hid (HB.out.trans (hb.mono HB.out.size)); replace HM := Lib.hid (HM.out.below hb); replace HC := Lib.hid (HC.out.below hb); (try replace HG := Lib.hid (HG.out.below hb)); (try replace HR := Lib.hid (HR.out.below hb)); (try replace HS := Lib.hid (HS.out.below hb))
  clear hb
  refine (RSameI_any _ _ 1 1 _ _ [4] [4] _ rfl rfl (by decide) (by decide) HS.out i9).mono ?_
  clear i9
  rintro e w14 ⟨rfl, hb⟩
  replace HB := Lib.hid (HB.out.trans (hb.mono HB.out.size)); replace HM := Lib.hid (HM.out.below hb); replace HC := Lib.hid (HC.out.below hb); (try replace HG := Lib.hid (HG.out.below hb)); (try replace HR := Lib.hid (HR.out.below hb)); (try replace HS := Lib.hid (HS.out.below hb))
  clear hb
  go_wp2
  go_ret
  exact ⟨rfl, HB.out⟩
end Go.Proofs.YtehdhbnbajfanaaGreat
