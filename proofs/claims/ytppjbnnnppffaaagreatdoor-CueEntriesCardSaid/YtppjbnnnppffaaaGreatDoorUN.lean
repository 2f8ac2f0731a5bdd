/- Texts of this seat, laid together: ScCue4, ScCue5, ScCue7, ScCue8, ScRnd, ScCue9, ScCue2, ScCue10. -/
import Derived.Test.YtppjbnnnppffaaaGreatDoorUF
import Derived.Test.YtppjbnnnppffaaaGreatDoorUJ
import Derived.Test.YtppjbnnnppffaaaGreatDoorUL
import Derived.Test.YtppjbnnnppffaaaGreatDoorUE
import Derived.Deep.AppendLies
import Derived.Test.YtppjbnnnppffaaaGreatDoorUA
import Derived.RangeFuncNested
import Derived.RangeFuncBound
import Derived.RangeFuncCalls
import Derived.RangeFuncLeaves
import Derived.Shelf.RegionOpen
import Derived.OwnWalkIn
import Derived.TacticsInMore
import Derived.LoopNIn
import Derived.LoopIn
import Derived.Test.YtppjbnnnppffaaaGreatDoorUD
import Derived.Test.YtppjbnnnppffaaaGreatDoorUM
import Derived.RegionIn
import Derived.Sort.CutIn

/- A map of rows that the call makes for itself: the notes of a part by their bars; a map of such maps; no condition. -/
namespace Go.Proofs.YtppjbnnnppffaaaGreatDoor
set_option linter.unusedSimpArgs false
set_option linter.unusedVariables false
open Go.RowKit Go.Sort Go.Shelf

/-- The notes of a bar's ID. -/
def barL (L : List No) (x : Int) : List No := L.filter fun n => n.bar == x
theorem barL_inBar (b : Ba) (L : List No) : barL L b.id = inBar b L := rfl
theorem barL_snoc (L : List No) (n : No) (x : Int) : barL (L ++ [n]) x = if x = n.bar then barL L x ++ [n] else barL L x := by
  unfold barL
  rw [List.filter_append]
  by_cases h : x = n.bar
  · rw [if_pos h]; simp [h]
  · rw [if_neg h]
    have : (n.bar == x) = false := by simp; exact fun e => h e.symm
    simp [this]
theorem barL_len (L : List No) (x : Int) : (barL L x).length ≤ L.length := List.length_filter_le _ _
/-- The row of a key. -/
def rowOf (m : List (Int × Value)) (x : Int) : Value := (mget m x).getD (.slice none 0 0)
theorem rowOf_put (m : List (Int × Value)) (k x : Int) (v : Value) : rowOf (mput m k v) x = if x = k then v else rowOf m x := by
  unfold rowOf; rw [mget_mput]; split <;> rfl
/-- Block r is a map of rows, none of which lies in another's block. -/
structure RowsOwn (w : World) (B r : Nat) (L : List No) (m : List (Int × Value)) : Prop where
  map : MapAt w encJ r m
  low : r < B
  le : B ≤ w.heap.size
  own : ∀ x, OwnR w B 73 12 (rowOf m x) ((barL L x).map No.cells)
  apart : ∀ x y b, x ≠ y → (rowOf m x).ownBlock = some b → (rowOf m y).ownBlock ≠ some b
theorem RowsOwn.new (w : World) : RowsOwn (w.alloc (.map #[] 0)) (w.heap.size + 1) w.heap.size [] [] :=
  ⟨MapAt.new w encJ, Nat.lt_succ_self _, by simp, fun x => OwnR.nil _ _ _ _, fun x y b _ h => by cases h⟩
theorem RowsOwn.below {w w' : World} {B r : Nat} {L : List No} {m : List (Int × Value)} (h : RowsOwn w B r L m) (hb : Below w.heap.size w w') : RowsOwn w' B r L m :=
  ⟨h.map.below hb, h.low, Nat.le_trans h.le hb.size, fun x => (h.own x).below hb, h.apart⟩
/-- Where a row's own block is. -/
theorem OwnR.notAt {w : World} {B : Nat} {E : TypeId} {sz : Nat} {v : Value} {rows : List (List Value)} (o : OwnR w B E sz v rows) {r : Nat} (h : r < B) : v.ownBlock = none ∨ v.ownBlock ≠ some r := by
  cases hv : v.ownBlock with
  | none => exact .inl rfl
  | some k => exact .inr (fun e => by cases e; have := (o.lt r hv).1; omega)
theorem RowsOwn.step {w w1 w2 w3 : World} {B r : Nat} {L : List No} {m : List (Int × Value)} (h : RowsOwn w B r L m) (n : No) (h1 : Below w.heap.size w w1) {g cap : Nat}
    (ho : OwnR w2 B 73 12 (.slice (some ⟨g, 0, none⟩) ((barL L n.bar).length + 1) cap) ((barL L n.bar ++ [n]).map No.cells)) (hg : w1.grownBy w2 (rowOf m n.bar).ownBlock) (hw : (rowOf m n.bar).ownBlock = some g ∨ w1.heap.size ≤ g)
    (hm : MapAt w3 encJ r (mput m n.bar (.slice (some ⟨g, 0, none⟩) ((barL L n.bar).length + 1) cap))) (hg3 : w2.grownBy w3 (some r)) :
    RowsOwn w3 B r (L ++ [n]) (mput m n.bar (.slice (some ⟨g, 0, none⟩) ((barL L n.bar).length + 1) cap)) := by
  have hs := h1.size; have hs2 := hg.size; have hs3 := hg3.size; have hle := h.le
  refine ⟨hm, h.low, by omega, fun x => ?_, fun x y b hne hx hy => ?_⟩
  · rw [rowOf_put, barL_snoc]
    by_cases e : x = n.bar
    · subst e
      rw [if_pos rfl, if_pos rfl]
      exact ho.kept hg3 (ho.notAt h.low)
    · rw [if_neg e, if_neg e]
      have o1 := (h.own x).below h1
      have o2 := o1.kept hg (by
        cases hv : (rowOf m x).ownBlock with
        | none => exact .inl rfl
        | some k => exact .inr (fun e' => h.apart x n.bar k e hv e'.symm))
      exact o2.kept hg3 (o2.notAt h.low)
  · rw [rowOf_put] at hx hy
    have fresh : ∀ z, z ≠ n.bar → (rowOf m z).ownBlock = some g → False := fun z hz hzb => by
      rcases hw with hw | hw
      · exact h.apart z n.bar g hz hzb hw
      · have := ((h.own z).lt g hzb).2
        omega
    by_cases e1 : x = n.bar
    · rw [if_pos e1] at hx
      rw [if_neg (fun e => hne (e1.trans e.symm))] at hy
      cases hx
      exact fresh y (fun e => hne (e1.trans e.symm)) hy
    · rw [if_neg e1] at hx
      by_cases e2 : y = n.bar
      · rw [if_pos e2] at hy
        cases hy
        exact fresh x e1 hx
      · rw [if_neg e2] at hy
        exact h.apart x y b hne hx hy
/-- Block r is a map of rows: each bar's notes. -/
def BarsAt (w : World) (B r : Nat) (L : List No) : Prop := ∃ m, MapAt w encJ r m ∧ ∀ x, OwnR w B 73 12 (rowOf m x) ((barL L x).map No.cells)
theorem RowsOwn.bars {w : World} {B r : Nat} {L : List No} {m : List (Int × Value)} (h : RowsOwn w B r L m) : BarsAt w B r L := ⟨m, h.map, h.own⟩
theorem BarsAt.below {w w' : World} {B r : Nat} {L : List No} (h : BarsAt w B r L) (hb : Below w.heap.size w w') : BarsAt w' B r L := by
  obtain ⟨m, h1, h2⟩ := h
  exact ⟨m, h1.below hb, fun x => (h2 x).below hb⟩
theorem BarsAt.lt {w : World} {B r : Nat} {L : List No} (h : BarsAt w B r L) : r < w.heap.size := by obtain ⟨m, h1, _⟩ := h; exact h1.lt
theorem BarsAt.kept {w w' : World} {B r k : Nat} {L : List No} (h : BarsAt w B r L) (hg : w.grownBy w' (some k)) (hne : r ≠ k) (hk : k < B) : BarsAt w' B r L := by
  obtain ⟨m, h1, h2⟩ := h
  exact ⟨m, h1.kept hg (fun e => hne (by cases e; rfl)), fun x => (h2 x).kept hg ((h2 x).notAt hk)⟩
/-- What a look at a bar's notes says. -/
theorem BarsAt.look {w : World} {B r : Nat} {L : List No} (h : BarsAt w B r L) (x : Int) :
    ∃ a cap, SlOk a (barL L x).length cap ∧ NoAt w a (barL L x) ∧ ∀ W, W.heap[r]? = w.heap[r]? → (Instr.lookup 92 (.map (some r)) (.int .i64 x) false).run Tryz.prog W = .ok (.slice a (barL L x).length cap) W := by
  obtain ⟨m, h1, h2⟩ := h
  obtain ⟨a, cap, e, hok, hs⟩ := (h2 x).slAt
  rw [List.length_map] at e hok
  refine ⟨a, cap, hok, hs, fun W hW => ?_⟩
  have := run_lookup_at Tryz.underlying92 keyJ (z := .slice none 0 0) (fun w => by kernel_rfl) (h1.same hW) x false
  rw [this, ← e]; rfl
/-- Block r is a map of what these parts play. -/
def PlaysAt (w : World) (B r : Nat) (s : Sc) (l : List Pa) : Prop := ∃ m, MapAt w encJ r m ∧ ∀ p ∈ l, ∃ rp, r < rp ∧ mget m p.id = some (.map (some rp)) ∧ BarsAt w B rp (playedL s p)
theorem PlaysAt.below {w w' : World} {B r : Nat} {s : Sc} {l : List Pa} (h : PlaysAt w B r s l) (hb : Below w.heap.size w w') : PlaysAt w' B r s l := by
  obtain ⟨m, h1, h2⟩ := h
  exact ⟨m, h1.below hb, fun p hp => by obtain ⟨rp, h3, h4, h5⟩ := h2 p hp; exact ⟨rp, h3, h4, h5.below hb⟩⟩
theorem PlaysAt.lt {w : World} {B r : Nat} {s : Sc} {l : List Pa} (h : PlaysAt w B r s l) : r < w.heap.size := by obtain ⟨m, h1, _⟩ := h; exact h1.lt
theorem PlaysAt.new (w : World) (B : Nat) (s : Sc) : PlaysAt (w.alloc (.map #[] 0)) B w.heap.size s [] := ⟨[], MapAt.new w encJ, fun p hp => by cases hp⟩
theorem BarsAt.mono {w : World} {B B' r : Nat} {L : List No} (h : BarsAt w B r L) (hB : B' ≤ B) : BarsAt w B' r L := by
  obtain ⟨m, h1, h2⟩ := h
  exact ⟨m, h1, fun x => (h2 x).mono hB⟩
/-- A further part. -/
theorem PlaysAt.step {w w' : World} {B r rp : Nat} {s : Sc} {l : List Pa} {p : Pa} {m : List (Int × Value)} (h1 : MapAt w encJ r m) (h2 : ∀ p ∈ l, ∃ rp, r < rp ∧ mget m p.id = some (.map (some rp)) ∧ BarsAt w B rp (playedL s p))
    (hp : BarsAt w B rp (playedL s p)) (hr : r < rp) (hB : r < B) (hn : ((l ++ [p]).map Pa.id).Nodup) (hm : MapAt w' encJ r (mput m p.id (.map (some rp)))) (hg : w.grownBy w' (some r)) : PlaysAt w' B r s (l ++ [p]) := by
  refine ⟨_, hm, fun q hq => ?_⟩
  rcases List.mem_append.1 hq with hq | hq
  · obtain ⟨rq, h3, h4, h5⟩ := h2 q hq
    have hne : q.id ≠ p.id := fun e => by
      rw [List.map_append, List.nodup_append] at hn
      exact hn.2.2 q.id (List.mem_map_of_mem hq) p.id (by simp) e
    exact ⟨rq, h3, by rw [mget_mput, if_neg hne]; exact h4, h5.kept hg (by omega) hB⟩
  · simp only [List.mem_singleton] at hq
    subst hq
    exact ⟨rp, hr, by rw [mget_mput, if_pos rfl], hp.kept hg (by omega) hB⟩
theorem PlaysAt.look {w : World} {B r : Nat} {s : Sc} {l : List Pa} (h : PlaysAt w B r s l) {p : Pa} (hp : p ∈ l) :
    ∃ rp, BarsAt w B rp (playedL s p) ∧ ∀ W, W.heap[r]? = w.heap[r]? → (Instr.lookup 87 (.map (some r)) (.int .i64 p.id) false).run Tryz.prog W = .ok (.map (some rp)) W := by
  obtain ⟨m, h1, h2⟩ := h
  obtain ⟨rp, _, h4, h5⟩ := h2 p hp
  refine ⟨rp, h5, fun W hW => ?_⟩
  have := run_lookup_at Tryz.underlying87 keyJ (z := .map none) (fun w => by kernel_rfl) (h1.same hW) p.id false
  rw [this, h4]; rfl
/-- append onto a row of the call's own, from one fresh block; where the new row lies. -/
theorem appEL {P : Program} {w : World} {ops : Array Oper} {rest : List Oper} {o : Oper} {a : Act} {Q : Exit → Act → World → Prop} {T E : TypeId} {sz bytes : Nat} {α : Type} {f : α → List Value} (he : Elt P T E sz bytes f)
    (hgd : o.guard = none) (s x : Operand) (ho : o.op = .call { callee := .builtin .append, args := #[s, x], argTypes := #[T, T] })
    (B : Nat) (v : Value) (l : List α) (hs : a.eval s = v) (hown : OwnR w B E sz v (l.map f))
    (ad : Addr) (c : Nat) (y : α) (hx : a.eval x = .slice (some ad) 1 c) (hnews : SlAt w (some ad) sz ([y].map f))
    (hlen : l.length + 1 ≤ 1048576) (hbase : B ≤ w.heap.size)
    (h : ∀ g cap w', OwnR w' B E sz (.slice (some ⟨g, 0, none⟩) (l.length + 1) cap) ((l ++ [y]).map f) → w.grownBy w' v.ownBlock → (v.ownBlock = some g ∨ w.heap.size ≤ g) → wpList P ops Q rest (a.put o.dst (.slice (some ⟨g, 0, none⟩) (l.length + 1) cap)) w') : wpList P ops Q (o :: rest) a w := by
  obtain ⟨z, hi, hz⟩ := he.info
  obtain ⟨i, hi, hz0, hz1, hz2⟩ := info_parts hi
  have hwn : ∀ r ∈ [y].map f, r.length = sz := fun r hr => by obtain ⟨y, _, rfl⟩ := List.mem_map.1 hr; exact he.len y
  have hww : ∀ r ∈ (l ++ [y]).map f, r.length = sz := fun r hr => by obtain ⟨y, _, rfl⟩ := List.mem_map.1 hr; exact he.len y
  have hown' := hown.own
  rw [List.length_map] at hown'
  have hcell : ∀ j u, ([y].map f).flatten[j]? = some u → w.cell? (ad.add j) = some u := by
    intro j u hj
    obtain ⟨i', j', r, g1, _, _⟩ := flat_inv ([y].map f) sz hwn j u hj
    obtain ⟨b, off, e, _⟩ := hnews i' r g1
    cases e
    exact hnews.flat j u hj
  refine wpList_append_lies (P := P) w hgd s x T ho B E i z sz bytes he.ty hi hz0 hz1 hz2 hz he.pos v l.length (l.map f).flatten hs hown' ad 1 c ([y].map f).flatten hx (by rw [flat_len _ sz hwn]; simp) hcell
    (oneCell_flat fun r hr u hu => by obtain ⟨y, _, rfl⟩ := List.mem_map.1 hr; exact he.one y u hu) (by decide) (by unfold maxLen; omega) (Nat.le_trans (Nat.mul_le_mul hlen he.small) (by decide)) hbase _ rfl
    fun g cap w' ho' hg hat _ => h g cap w' ⟨hww, by rw [List.length_map, List.length_append, List.map_append, List.flatten_append]; exact ho'⟩ hg (hat.imp id fun e => by omega)
end Go.Proofs.YtppjbnnnppffaaaGreatDoor


/- cue.played: what each part plays, by bars: walked. -/
namespace Go.Proofs.YtppjbnnnppffaaaGreatDoor
set_option linter.unusedSimpArgs false
set_option linter.unusedVariables false
open Go.RowKit Go.Sort Go.Shelf

/-- append onto a row of the call's own, from one fresh block, as an operation by itself; where the new row lies. -/
theorem oper_appEL {P : Program} {w : World} {o : Oper} {a : Act} {K : Act → World → Prop} {Q : Exit → Act → World → Prop} {T E : TypeId} {sz bytes : Nat} {α : Type} {f : α → List Value} (he : Elt P T E sz bytes f)
    (s x : Operand) (ho : o.op = .call { callee := .builtin .append, args := #[s, x], argTypes := #[T, T] })
    (B : Nat) (v : Value) (l : List α) (hs : a.eval s = v) (hown : OwnR w B E sz v (l.map f))
    (ad : Addr) (c : Nat) (y : α) (hx : a.eval x = .slice (some ad) 1 c) (hnews : SlAt w (some ad) sz ([y].map f))
    (hlen : l.length + 1 ≤ 1048576) (hbase : B ≤ w.heap.size)
    (h : ∀ g cap w', OwnR w' B E sz (.slice (some ⟨g, 0, none⟩) (l.length + 1) cap) ((l ++ [y]).map f) → w.grownBy w' v.ownBlock → (v.ownBlock = some g ∨ w.heap.size ≤ g) → K (a.put o.dst (.slice (some ⟨g, 0, none⟩) (l.length + 1) cap)) w') : Oper.wp P o a w K Q := by
  obtain ⟨z, hi, hz⟩ := he.info
  obtain ⟨i, hi, hz0, hz1, hz2⟩ := info_parts hi
  have hwn : ∀ r ∈ [y].map f, r.length = sz := fun r hr => by obtain ⟨y, _, rfl⟩ := List.mem_map.1 hr; exact he.len y
  have hww : ∀ r ∈ (l ++ [y]).map f, r.length = sz := fun r hr => by obtain ⟨y, _, rfl⟩ := List.mem_map.1 hr; exact he.len y
  have hown' := hown.own
  rw [List.length_map] at hown'
  have hcell : ∀ j u, ([y].map f).flatten[j]? = some u → w.cell? (ad.add j) = some u := by
    intro j u hj
    obtain ⟨i', j', r, g1, _, _⟩ := flat_inv ([y].map f) sz hwn j u hj
    obtain ⟨b, off, e, _⟩ := hnews i' r g1
    cases e
    exact hnews.flat j u hj
  refine wp_append_lies (P := P) w s x T ho B E i z sz bytes he.ty hi hz0 hz1 hz2 hz he.pos v l.length (l.map f).flatten hs hown' ad 1 c ([y].map f).flatten hx (by rw [flat_len _ sz hwn]; simp) hcell
    (oneCell_flat fun r hr u hu => by obtain ⟨y, _, rfl⟩ := List.mem_map.1 hr; exact he.one y u hu) (by decide) (by unfold maxLen; omega) (Nat.le_trans (Nat.mul_le_mul hlen he.small) (by decide)) hbase _ rfl
    fun g cap w' ho' hg hat _ => h g cap w' ⟨hww, by rw [List.length_map, List.length_append, List.map_append, List.flatten_append]; exact ho'⟩ hg (hat.imp id fun e => by omega)
/-- 'm[k] = v' as an operation by itself. -/
theorem oper_update {κ : Type} [DecidableEq κ] {enc : κ → Value} {P : Program} {w : World} {o : Oper} {a : Act} {K : Act → World → Prop} {Q : Exit → Act → World → Prop} (mo x v : Operand) (t : TypeId) (hop : o.op = Op.mapUpdate t mo x v) {Ky E : TypeId} (ht : P.underlying t = some (.map Ky E)) (hk : KeyOk P Ky enc)
    (r : Nat) (m : List (κ × Value)) (hm : a.eval mo = .map (some r)) (h : MapAt w enc r m) (k : κ) (hx : a.eval x = enc k) (val : Value) (hv : a.eval v = val)
    (hK : ∀ w', MapAt w' enc r (mput m k val) → w.grownBy w' (some r) → K (a.put o.dst undef) w') : Oper.wp P o a w K Q := by
  obtain ⟨w', hrun, r1, r2⟩ := run_update_at ht hk h k val
  unfold Oper.wp
  simp only [execOp, hop, hm, hx, hv]
  simp [hrun, Result.andThen]
  exact hK w' r1 r2
theorem RowsOwn.look {w : World} {B r : Nat} {L : List No} {m : List (Int × Value)} (h : RowsOwn w B r L m) (x : Int) : (Instr.lookup 92 (.map (some r)) (.int .i64 x) false).run Tryz.prog w = .ok (rowOf m x) w := by
  have := run_lookup_at Tryz.underlying92 keyJ (z := .slice none 0 0) (fun w => by kernel_rfl) h.map x false
  exact this
set_option maxRecDepth 100000 in
set_option maxHeartbeats 8000000 in
theorem cplayed_any (s : Sc) (q : Sp) (w : World) (hf : ScFew s) (hv : validS s = true) (hs : ScAt w s q) (hE : Env w) :
    Calls Tryz.prog 44 #[.agg #[.int .i64 s.version, .slice q.ab s.bars.length q.cb, .slice q.ap s.parts.length q.cp, .slice q.an s.notes.length q.cn]] w fun e w' => ∃ r, e = .returned (.map (some r)) ∧ PlaysAt w' (r + 1) r s s.parts ∧ Below w.heap.size w w' := by
  obtain ⟨ab, cb, ap, cp, an, cn⟩ := q
  have HX1 := Lib.hid (heap_alloc_new w (.cells #[.int .i64 s.version, .slice (⟨ab, cb, ap, cp, an, cn⟩ : Sp).ab s.bars.length (⟨ab, cb, ap, cp, an, cn⟩ : Sp).cb, .slice (⟨ab, cb, ap, cp, an, cn⟩ : Sp).ap s.parts.length (⟨ab, cb, ap, cp, an, cn⟩ : Sp).cp, .slice (⟨ab, cb, ap, cp, an, cn⟩ : Sp).an s.notes.length (⟨ab, cb, ap, cp, an, cn⟩ : Sp).cn] 26))
  have HB := Lib.hid ((Below.refl w.heap.size w).alloc (Nat.le_refl _) (.cells #[.int .i64 s.version, .slice (⟨ab, cb, ap, cp, an, cn⟩ : Sp).ab s.bars.length (⟨ab, cb, ap, cp, an, cn⟩ : Sp).cb, .slice (⟨ab, cb, ap, cp, an, cn⟩ : Sp).ap s.parts.length (⟨ab, cb, ap, cp, an, cn⟩ : Sp).cp, .slice (⟨ab, cb, ap, cp, an, cn⟩ : Sp).an s.notes.length (⟨ab, cb, ap, cp, an, cn⟩ : Sp).cn] 26))
  have v := scV hv
  have HPl := Lib.hid (fun (p : Pa) (hp : p ∈ s.parts) W (hb : Below w.heap.size w W) => show Calls Tryz.prog 33 #[.agg #[.int .i64 s.version, .slice (⟨ab, cb, ap, cp, an, cn⟩ : Sp).ab s.bars.length (⟨ab, cb, ap, cp, an, cn⟩ : Sp).cb, .slice (⟨ab, cb, ap, cp, an, cn⟩ : Sp).ap s.parts.length (⟨ab, cb, ap, cp, an, cn⟩ : Sp).cp, .slice (⟨ab, cb, ap, cp, an, cn⟩ : Sp).an s.notes.length (⟨ab, cb, ap, cp, an, cn⟩ : Sp).cn], .int .i64 p.id] W (RetNE (playedL s p) 0 W) from by have := SPlays_any s (⟨ab, cb, ap, cp, an, cn⟩ : Sp) p.id W hf (hs.below hb) (hE.below hb); rwa [show playsR s p.id = (playedL s p, 0) by unfold playsR; rw [if_pos hv, partAt_mem v.parts hp]] at this)
  have HPa := Lib.hid (fun W (hb : Below w.heap.size w W) => hs.parts.below hb)
  have HLn := Lib.hid (fun p => Nat.le_trans (playedL_len s p) hf.notes)
  have HNd := Lib.hid v.parts
  have hnp := hf.parts
  clear hf hv hs hE v
  dsimp only at *
  have hmm := @run_makeMap Tryz.prog
  go_enter Tryz.func44, Tryz.ntmps44
  go_upto_region 1 with (fail)
  generalize w.alloc (.cells #[.int .i64 s.version, .slice (⟨ab, cb, ap, cp, an, cn⟩ : Sp).ab s.bars.length (⟨ab, cb, ap, cp, an, cn⟩ : Sp).cb, .slice (⟨ab, cb, ap, cp, an, cn⟩ : Sp).ap s.parts.length (⟨ab, cb, ap, cp, an, cn⟩ : Sp).cp, .slice (⟨ab, cb, ap, cp, an, cn⟩ : Sp).an s.notes.length (⟨ab, cb, ap, cp, an, cn⟩ : Sp).cn] 26) = W at *
  have hc1 := box_cells HX1.out
  go_upto_region 2 with (fail)
  have hM0 := PlaysAt.new W (W.heap.size + 1) s
  have hb := below_box (w := W) (.map #[] 0)
  have hro := lt_blk HX1.out
  replace HX1 := Lib.hid (blk_keep HX1.out hb)
  replace HB := Lib.hid (HB.out.trans (hb.mono HB.out.size))
  clear hb hc1
  generalize W.alloc (.map #[] 0) = W1 at *
  generalize W.heap.size = ro at *
  have hrl := hM0.lt
  have HM0 := Lib.hid hM0
  clear hM0
  have hc1 := box_cells HX1.out
  go_wp2
  clear hc1
  go_loopw [15] (fun s15 wi => ∃ k : Nat, k ≤ s.parts.length ∧ s15 = .int .i64 k ∧ PlaysAt wi (ro + 1) ro s (s.parts.take k) ∧ wi.heap[w.heap.size]? = some (.cells #[.int .i64 s.version, .slice (⟨ab, cb, ap, cp, an, cn⟩ : Sp).ab s.bars.length (⟨ab, cb, ap, cp, an, cn⟩ : Sp).cb, .slice (⟨ab, cb, ap, cp, an, cn⟩ : Sp).ap s.parts.length (⟨ab, cb, ap, cp, an, cn⟩ : Sp).cp, .slice (⟨ab, cb, ap, cp, an, cn⟩ : Sp).an s.notes.length (⟨ab, cb, ap, cp, an, cn⟩ : Sp).cn] 26) ∧ Below w.heap.size w wi) (fun s15 _ => s.parts.length - (intOf s15).toNat)
  case atStart => exact ⟨0, Nat.zero_le _, rfl, HM0.out, HX1.out, HB.out⟩
  case round =>
    clear HX1 HB HM0
    obtain ⟨k, hk, rfl, hpl, hx1, hb0⟩ := hrel
    have HP := Lib.hid hpl; have HX1 := Lib.hid hx1; have HB := Lib.hid hb0
    clear hpl hx1 hb0
    by_cases hlt : k < s.parts.length
    · obtain ⟨b, off, hqa, _, e0, e1, e2, e3, e4, e5, e6, e7, e8, e9, e10, e11, e12⟩ := (HPa.out _ HB.out).get k hlt
      subst hqa
      have HCl := Lib.hid (HPl.out _ (List.getElem_mem hlt)); have hll := HLn.out s.parts[k]
      have HTa := Lib.hid (List.take_succ_eq_append_getElem hlt)
      have HNk := Lib.hid (show ((s.parts.take k ++ [s.parts[k]]).map Pa.id).Nodup from by rw [← HTa.out]; exact HNd.out.sublist ((List.take_sublist _ _).map _))
      generalize s.parts[k] = p at *
      go_upto_region 5 with (fail)
      have HXp := Lib.hid (heap_alloc_new wr (.cells #[.int .i64 p.id, .int .i64 p.section_, .int .i64 p.of, .int .i64 p.octave, .int .i64 p.desks, .int .i64 p.shift.x, .int .i64 p.shift.y, .int .i64 p.low.s, .int .i64 p.low.a, .int .i64 p.low.o, .int .i64 p.high.s, .int .i64 p.high.a, .int .i64 p.high.o] 59))
      have hb := below_box (w := wr) (.cells #[.int .i64 p.id, .int .i64 p.section_, .int .i64 p.of, .int .i64 p.octave, .int .i64 p.desks, .int .i64 p.shift.x, .int .i64 p.shift.y, .int .i64 p.low.s, .int .i64 p.low.a, .int .i64 p.low.o, .int .i64 p.high.s, .int .i64 p.high.a, .int .i64 p.high.o] 59)
      replace HX1 := Lib.hid (blk_keep HX1.out hb); replace HP := Lib.hid (HP.out.below hb); replace HB := Lib.hid (HB.out.trans (hb.mono HB.out.size))
      clear hb e0 e1 e2 e3 e4 e5 e6 e7 e8 e9 e10 e11 e12
      generalize wr.alloc (.cells #[.int .i64 p.id, .int .i64 p.section_, .int .i64 p.of, .int .i64 p.octave, .int .i64 p.desks, .int .i64 p.shift.x, .int .i64 p.shift.y, .int .i64 p.low.s, .int .i64 p.low.a, .int .i64 p.low.o, .int .i64 p.high.s, .int .i64 p.high.a, .int .i64 p.high.o] 59) = W2 at *
      generalize wr.heap.size = pb at *
      have hc1 := box_cells HX1.out; have hcp := box_cells HXp.out
      go_upto_region 6 with (go_at_call 33; refine (HCl.out _ HB.out).mono ?_; rintro e w3 ⟨aL, cL, rfl, _, hnL, hb⟩; have HL := Lib.hid hnL; clear hnL; replace HX1 := Lib.hid (blk_keep HX1.out hb); replace HXp := Lib.hid (blk_keep HXp.out hb); replace HP := Lib.hid (HP.out.below hb); replace HB := Lib.hid (HB.out.trans (hb.mono HB.out.size)); clear hb)
      clear hc1 hcp HCl
      go_upto_region 7 with (fail)
      have HR0 := Lib.hid (RowsOwn.new w3)
      have hb := below_box (w := w3) (.map #[] 0)
      have hps := HP.out.lt
      have hxs := lt_blk HXp.out
      have HNL := Lib.hid (fun W (hb : Below w3.heap.size w3 W) => SlAt.below HL.out hb)
      have HXX := Lib.hid (fun W (hb : Below w3.heap.size w3 W) => And.intro (blk_keep HX1.out hb) (blk_keep HXp.out hb))
      have HPP := Lib.hid (fun W (hb : Below w3.heap.size w3 W) => And.intro (HP.out.below hb) (HB.out.trans (hb.mono HB.out.size)))
      have HB1 := Lib.hid hb
      clear hb HX1 HXp HP HB HL
      generalize hW3 : w3.alloc (.map #[] 0) = W3 at *
      clear hW3
      have HNL2 := Lib.hid (fun W hb => show NoAt W aL (playedL s p) from HNL.out W hb)
      clear HNL
      generalize hLL : playedL s p = L at *
      have HLL := Lib.hid hLL; clear hLL
      generalize hrb : w3.heap.size = rb at *
      have HRb := Lib.hid hrb.symm
      have hps2 : ro < rb := by omega
      have hxs2 : pb < rb := by omega
      clear hrb hps hxs
      go_wp2
      go_loopw [29] (fun s29 wi => ∃ (j : Nat) (m : List (Int × Value)), j ≤ L.length ∧ s29 = .int .i64 j ∧ RowsOwn wi (rb + 1) rb (L.take j) m ∧ Below rb w3 wi) (fun s29 _ => L.length - (intOf s29).toNat)
      case atStart => exact ⟨0, [], Nat.zero_le _, rfl, HR0.out, HB1.out⟩
      case round =>
        clear HR0 HB1
        obtain ⟨j, m, hj, rfl, hro2, hbi⟩ := hrel
        have HRo := Lib.hid hro2; have HBi := Lib.hid hbi
        clear hro2 hbi
        by_cases hjl : j < L.length
        · obtain ⟨lb, loff, hqa, _, d0, d1, d2, d3, d4, d5, d6, d7, d8, d9, d10, d11⟩ := (HNL2.out _ HBi.out).get j hjl
          subst hqa
          have HTk := Lib.hid (List.take_succ_eq_append_getElem hjl)
          have hbl := Nat.le_trans (barL_len (L.take j) L[j].bar) (by rw [List.length_take]; omega : (L.take j).length ≤ 1000)
          generalize L[j] = x at *
          go_upto_region 10 with (fail)
          have HNb := Lib.hid (show ∀ g, (rowOf m x.bar).ownBlock = some g → g ≠ wr.heap.size from fun g hg e => by
            have h1 := ((HRo.out.own x.bar).lt g hg).2
            omega)
          have hrbn := HRo.out.le
          have HXn := Lib.hid (heap_alloc_new wr (.cells #[.int .i64 x.id, .int .i64 x.part, .int .i64 x.bar, .int .i64 x.voice, .int .i64 x.ossia, .int .i64 x.start.n, .int .i64 x.start.d, .int .i64 x.len.n, .int .i64 x.len.d, .int .i64 x.pitch.s, .int .i64 x.pitch.a, .int .i64 x.pitch.o] 73))
          have hb := below_box (w := wr) (.cells #[.int .i64 x.id, .int .i64 x.part, .int .i64 x.bar, .int .i64 x.voice, .int .i64 x.ossia, .int .i64 x.start.n, .int .i64 x.start.d, .int .i64 x.len.n, .int .i64 x.len.d, .int .i64 x.pitch.s, .int .i64 x.pitch.a, .int .i64 x.pitch.o] 73)
          replace HRo := Lib.hid (HRo.out.below hb); replace HBi := Lib.hid (HBi.out.trans (hb.mono (by have := HBi.out.size; have := HRb.out; omega)))
          clear hb d0 d1 d2 d3 d4 d5 d6 d7 d8 d9 d10 d11
          generalize wr.alloc (.cells #[.int .i64 x.id, .int .i64 x.part, .int .i64 x.bar, .int .i64 x.voice, .int .i64 x.ossia, .int .i64 x.start.n, .int .i64 x.start.d, .int .i64 x.len.n, .int .i64 x.len.d, .int .i64 x.pitch.s, .int .i64 x.pitch.a, .int .i64 x.pitch.o] 73) = W4 at *
          generalize wr.heap.size = nb at *
          refine wp_region_noPanic ?_
          refine wp_region_held_drew (S := fun w' => w'.heap[nb]? = some (.cells #[.int .i64 x.id, .int .i64 x.part, .int .i64 x.bar, .int .i64 x.voice, .int .i64 x.ossia, .int .i64 x.start.n, .int .i64 x.start.d, .int .i64 x.len.n, .int .i64 x.len.d, .int .i64 x.pitch.s, .int .i64 x.pitch.a, .int .i64 x.pitch.o] 73)) (by kernel_rfl) HXn.out (fun hHeld => ?_)
          (refine wpAnyH_take1 0 (oi := ?_) (v := ?_) ?_ (by kernel_rfl) (by kernel_rfl) (by kernel_rfl) (by assumption) ?_ ?_ ?_; rotate_left 2; (· simp only [List.getElem?_toArray, List.getElem?_cons_succ, List.getElem?_cons_zero]; try rfl); (· refine ⟨by kernel_rfl, ?_⟩; intro wq hSw; have hx := box_cells hSw; go_simp; first | done | with_reducible rfl); (· exact fun _ _ _ h => h); try simp only [Act.put, List.setIfInBounds_toArray, List.set_cons_zero, List.set_cons_succ])
          (refine wpAnyH_take1 1 (oi := ?_) (v := ?_) ?_ (by kernel_rfl) (by kernel_rfl) (by kernel_rfl) (by assumption) ?_ ?_ ?_; rotate_left 2; (· simp only [List.getElem?_toArray, List.getElem?_cons_succ, List.getElem?_cons_zero]; try rfl); (· refine ⟨by kernel_rfl, ?_⟩; intro wq hSw; have hx := box_cells hSw; go_simp; first | done | with_reducible rfl); (· exact fun _ _ _ h => h); try simp only [Act.put, List.setIfInBounds_toArray, List.set_cons_zero, List.set_cons_succ])
          (refine wpAnyH_take1 2 (oi := ?_) (v := ?_) ?_ (by kernel_rfl) (by kernel_rfl) (by kernel_rfl) (by assumption) ?_ ?_ ?_; rotate_left 2; (· simp only [List.getElem?_toArray, List.getElem?_cons_succ, List.getElem?_cons_zero]; try rfl); (· refine ⟨by kernel_rfl, ?_⟩; intro wq hSw; have hx := box_cells hSw; go_simp; first | done | with_reducible rfl); (· exact fun _ _ _ h => h); try simp only [Act.put, List.setIfInBounds_toArray, List.set_cons_zero, List.set_cons_succ])
          (refine wpAnyH_take1 3 (oi := ?_) (v := ?_) ?_ (by kernel_rfl) (by kernel_rfl) (by kernel_rfl) (by assumption) ?_ ?_ ?_; rotate_left 2; (· simp only [List.getElem?_toArray, List.getElem?_cons_succ, List.getElem?_cons_zero]; try rfl); (· refine ⟨by kernel_rfl, ?_⟩; intro wq hSw; have hx := box_cells hSw; go_simp; first | done | with_reducible rfl); (· exact fun _ _ _ h => h); try simp only [Act.put, List.setIfInBounds_toArray, List.set_cons_zero, List.set_cons_succ])
          (refine wpAnyH_take1 4 (oi := ?_) (v := ?_) ?_ (by kernel_rfl) (by kernel_rfl) (by kernel_rfl) (by assumption) ?_ ?_ ?_; rotate_left 2; (· simp only [List.getElem?_toArray, List.getElem?_cons_succ, List.getElem?_cons_zero]; try rfl); (· refine ⟨by kernel_rfl, ?_⟩; intro wq hSw; have hx := box_cells hSw; go_simp; first | done | with_reducible rfl); (· exact fun _ _ _ h => h); try simp only [Act.put, List.setIfInBounds_toArray, List.set_cons_zero, List.set_cons_succ])
          (refine wpAnyH_take1 5 (oi := ?_) (v := ?_) ?_ (by kernel_rfl) (by kernel_rfl) (by kernel_rfl) (by assumption) ?_ ?_ ?_; rotate_left 2; (· simp only [List.getElem?_toArray, List.getElem?_cons_succ, List.getElem?_cons_zero]; try rfl); (· refine ⟨by kernel_rfl, ?_⟩; intro wq hSw; have hx := box_cells hSw; go_simp; first | done | with_reducible rfl); (· exact fun _ _ _ h => h); try simp only [Act.put, List.setIfInBounds_toArray, List.set_cons_zero, List.set_cons_succ])
          (refine wpAnyH_take1 7 (oi := ?_) (v := ?_) ?_ (by kernel_rfl) (by kernel_rfl) (by kernel_rfl) (by assumption) ?_ ?_ ?_; rotate_left 2; (· simp only [List.getElem?_toArray, List.getElem?_cons_succ, List.getElem?_cons_zero]; try rfl); (· refine ⟨by kernel_rfl, ?_⟩; intro wq hSw; have hx := box_cells hSw; go_simp; first | done | with_reducible rfl); (· exact fun _ _ _ h => h); try simp only [Act.put, List.setIfInBounds_toArray, List.set_cons_zero, List.set_cons_succ])
          replace HRo := Lib.hid (HRo.out.below (Below.refl W4.heap.size W4).drew); replace HBi := Lib.hid (HBi.out.drew)
          clear HXn
          generalize W4.drew = wd at *
          have hnbd : nb < wd.heap.size := lt_blk hHeld
          have hrbs : w3.heap.size ≤ rb := Nat.le_of_eq HRb.out.symm
          have hrbs2 : rb ≤ w3.heap.size := Nat.le_of_eq HRb.out
          (refine wpAnyH_two (i := 6) (j := 8) (o := ?_) (o' := ?_) (by kernel_rfl) ?_ ?_ (fun K hK => ?_) (fun K hK => ?_); rotate_left 2; (· simp only [List.getElem?_toArray, List.getElem?_cons_succ, List.getElem?_cons_zero]; try rfl); (· simp only [List.getElem?_toArray, List.getElem?_cons_succ, List.getElem?_cons_zero]; try rfl))
          · have hlk := HRo.out.look x.bar
            go_simp
            refine hK.out _ _ hHeld (fun hHeld2 => ?_)
            clear hK K hlk
            (try simp only [Act.put, List.setIfInBounds_toArray, List.set_cons_zero, List.set_cons_succ])
            (refine wpAnyH_call1 (i := 8) (o := ?_) (by kernel_rfl) ?_ (fun K hK => ?_); rotate_left 1; (· simp only [List.getElem?_toArray, List.getElem?_cons_succ, List.getElem?_cons_zero]; try rfl); go_simp)
            refine hK.out _ _ (up_alloc hHeld2 _) (fun hHeld3 => ?_)
            clear hK K
            (try simp only [Act.put, List.setIfInBounds_toArray, List.set_cons_zero, List.set_cons_succ]); (refine wpAnyH_call1 (i := 9) (o := ?_) (by kernel_rfl) ?_ (fun K hK => ?_); rotate_left 1; (· simp only [List.getElem?_toArray, List.getElem?_cons_succ, List.getElem?_cons_zero]; try rfl)); refine step_of rfl (oper_appEL eltNo (.tmp 39) (.tmp 41) rfl (rb + 1) _ (barL (L.take j) x.bar) rfl (HRo.out.own x.bar |>.below (below_box _)) _ _ x rfl (eltNo.new _ x _ _ rfl) (by omega) (by have := HRo.out.le; simp; omega) ?_); intro g cap w2 ho2 hg2 hat2; have hnb2 := (hg2.block nb (by simp; omega) (fun e => HNb.out _ e.symm rfl)).trans hHeld3; refine hK.out _ _ hnb2 (fun hHeld4 => ?_); clear hK K; (try simp only [Act.put, List.setIfInBounds_toArray, List.set_cons_zero, List.set_cons_succ]); have hrm2 := (HRo.out.map.below (below_box (.cells #[.int .i64 x.id, .int .i64 x.part, .int .i64 x.bar, .int .i64 x.voice, .int .i64 x.ossia, .int .i64 x.start.n, .int .i64 x.start.d, .int .i64 x.len.n, .int .i64 x.len.d, .int .i64 x.pitch.s, .int .i64 x.pitch.a, .int .i64 x.pitch.o] 73))).kept hg2 (fun e => by have := ((HRo.out.own x.bar).lt _ e).1; omega); (refine wpAnyH_call1 (i := 10) (o := ?_) (by kernel_rfl) ?_ (fun K hK => ?_); rotate_left 1; (· simp only [List.getElem?_toArray, List.getElem?_cons_succ, List.getElem?_cons_zero]; try rfl)); refine step_of rfl (oper_update (.tmp 33) (.tmp 35) (.tmp 42) _ rfl Tryz.underlying92 keyJ rb m rfl hrm2 x.bar rfl _ rfl ?_); intro w3 hm3 hg3; refine hK.out _ _ ((hg3.block nb (lt_blk hHeld4) (fun e => by cases e; omega)).trans hHeld4) (fun hHeld5 => ?_); clear hK K; have hnew := HRo.out.step x (below_box (.cells #[.int .i64 x.id, .int .i64 x.part, .int .i64 x.bar, .int .i64 x.voice, .int .i64 x.ossia, .int .i64 x.start.n, .int .i64 x.start.d, .int .i64 x.len.n, .int .i64 x.len.d, .int .i64 x.pitch.s, .int .i64 x.pitch.a, .int .i64 x.pitch.o] 73)) ho2 hg2 hat2 hm3 hg3; have hbn := ((HBi.out.alloc (by have := HBi.out.size; omega) (.cells #[.int .i64 x.id, .int .i64 x.part, .int .i64 x.bar, .int .i64 x.voice, .int .i64 x.ossia, .int .i64 x.start.n, .int .i64 x.start.d, .int .i64 x.len.n, .int .i64 x.len.d, .int .i64 x.pitch.s, .int .i64 x.pitch.a, .int .i64 x.pitch.o] 73)).grown hg2 (by have := HBi.out.size; simp; omega) (fun k e => by have := ((HRo.out.own x.bar).lt k e).1; omega)).grown hg3 (by have := HBi.out.size; have := hg2.size; simp at this; omega) (fun k e => by cases e; omega); refine wpAnyH_done (by kernel_rfl) ?_ _; refine NoPanic.normal ?_; go_wp2; exact ⟨⟨j + 1, _, by omega, by go_num, by rw [HTk.out]; exact hnew, hbn⟩, by simp [intOf]; omega⟩
          · go_simp
            refine hK.out _ _ (up_alloc hHeld _) (fun hHeld2 => ?_)
            clear hK K
            (try simp only [Act.put, List.setIfInBounds_toArray, List.set_cons_zero, List.set_cons_succ])
            have hlk := (HRo.out.below (below_box (.cells #[.int .i64 x.id, .int .i64 x.part, .int .i64 x.bar, .int .i64 x.voice, .int .i64 x.ossia, .int .i64 x.start.n, .int .i64 x.start.d, .int .i64 x.len.n, .int .i64 x.len.d, .int .i64 x.pitch.s, .int .i64 x.pitch.a, .int .i64 x.pitch.o] 73))).look x.bar
            (refine wpAnyH_call1 (i := 6) (o := ?_) (by kernel_rfl) ?_ (fun K hK => ?_); rotate_left 1; (· simp only [List.getElem?_toArray, List.getElem?_cons_succ, List.getElem?_cons_zero]; try rfl); go_simp)
            refine hK.out _ _ hHeld2 (fun hHeld3 => ?_)
            clear hK K hlk
            (try simp only [Act.put, List.setIfInBounds_toArray, List.set_cons_zero, List.set_cons_succ]); (refine wpAnyH_call1 (i := 9) (o := ?_) (by kernel_rfl) ?_ (fun K hK => ?_); rotate_left 1; (· simp only [List.getElem?_toArray, List.getElem?_cons_succ, List.getElem?_cons_zero]; try rfl)); refine step_of rfl (oper_appEL eltNo (.tmp 39) (.tmp 41) rfl (rb + 1) _ (barL (L.take j) x.bar) rfl (HRo.out.own x.bar |>.below (below_box _)) _ _ x rfl (eltNo.new _ x _ _ rfl) (by omega) (by have := HRo.out.le; simp; omega) ?_); intro g cap w2 ho2 hg2 hat2; have hnb2 := (hg2.block nb (by simp; omega) (fun e => HNb.out _ e.symm rfl)).trans hHeld3; refine hK.out _ _ hnb2 (fun hHeld4 => ?_); clear hK K; (try simp only [Act.put, List.setIfInBounds_toArray, List.set_cons_zero, List.set_cons_succ]); have hrm2 := (HRo.out.map.below (below_box (.cells #[.int .i64 x.id, .int .i64 x.part, .int .i64 x.bar, .int .i64 x.voice, .int .i64 x.ossia, .int .i64 x.start.n, .int .i64 x.start.d, .int .i64 x.len.n, .int .i64 x.len.d, .int .i64 x.pitch.s, .int .i64 x.pitch.a, .int .i64 x.pitch.o] 73))).kept hg2 (fun e => by have := ((HRo.out.own x.bar).lt _ e).1; omega); (refine wpAnyH_call1 (i := 10) (o := ?_) (by kernel_rfl) ?_ (fun K hK => ?_); rotate_left 1; (· simp only [List.getElem?_toArray, List.getElem?_cons_succ, List.getElem?_cons_zero]; try rfl)); refine step_of rfl (oper_update (.tmp 33) (.tmp 35) (.tmp 42) _ rfl Tryz.underlying92 keyJ rb m rfl hrm2 x.bar rfl _ rfl ?_); intro w3 hm3 hg3; refine hK.out _ _ ((hg3.block nb (lt_blk hHeld4) (fun e => by cases e; omega)).trans hHeld4) (fun hHeld5 => ?_); clear hK K; have hnew := HRo.out.step x (below_box (.cells #[.int .i64 x.id, .int .i64 x.part, .int .i64 x.bar, .int .i64 x.voice, .int .i64 x.ossia, .int .i64 x.start.n, .int .i64 x.start.d, .int .i64 x.len.n, .int .i64 x.len.d, .int .i64 x.pitch.s, .int .i64 x.pitch.a, .int .i64 x.pitch.o] 73)) ho2 hg2 hat2 hm3 hg3; have hbn := ((HBi.out.alloc (by have := HBi.out.size; omega) (.cells #[.int .i64 x.id, .int .i64 x.part, .int .i64 x.bar, .int .i64 x.voice, .int .i64 x.ossia, .int .i64 x.start.n, .int .i64 x.start.d, .int .i64 x.len.n, .int .i64 x.len.d, .int .i64 x.pitch.s, .int .i64 x.pitch.a, .int .i64 x.pitch.o] 73)).grown hg2 (by have := HBi.out.size; simp; omega) (fun k e => by have := ((HRo.out.own x.bar).lt k e).1; omega)).grown hg3 (by have := HBi.out.size; have := hg2.size; simp at this; omega) (fun k e => by cases e; omega); refine wpAnyH_done (by kernel_rfl) ?_ _; refine NoPanic.normal ?_; go_wp2; exact ⟨⟨j + 1, _, by omega, by go_num, by rw [HTk.out]; exact hnew, hbn⟩, by simp [intOf]; omega⟩
        · obtain rfl : j = L.length := by omega
          rw [List.take_length] at HRo
          obtain ⟨hx1, hxp⟩ := HXX.out _ HBi.out
          obtain ⟨hpl, hbw⟩ := HPP.out _ HBi.out
          obtain ⟨mo, hmo, hmp⟩ := hpl
          have HMo := Lib.hid hmo; have HMp := Lib.hid hmp; have HX1 := Lib.hid hx1; have HXp := Lib.hid hxp; have HBw := Lib.hid hbw
          clear hmo hmp hx1 hxp hbw
          have hcp := box_cells HXp.out
          have HBa := Lib.hid (show BarsAt wr (ro + 1) rb (playedL s p) from by rw [HLL.out]; exact HRo.out.bars.mono (by omega))
          go_wp2_with (refine wpList_mapUpdate_at rfl (.tmp 44) (.tmp 46) (.tmp 47) _ (.inl rfl) Tryz.underlying87 keyJ ro mo rfl HMo.out p.id rfl (.map (some rb)) rfl ?_; intro w9 hm9 hg9)
          have hst := PlaysAt.step HMo.out HMp.out HBa.out hps2 (Nat.lt_succ_self ro) HNk.out hm9 hg9
          rw [← HTa.out] at hst
          exact ⟨⟨k + 1, by omega, by go_num, hst, (hg9.block _ (lt_blk HX1.out) (fun e => by cases e; omega)).trans HX1.out, HBw.out.grown hg9 HBw.out.size (fun k e => by cases e; omega)⟩, by simp [intOf]; omega⟩
    · obtain rfl : k = s.parts.length := by omega
      rw [List.take_length] at HP
      go_wp2
      go_ret
      exact ⟨ro, rfl, HP.out, HB.out⟩
end Go.Proofs.YtppjbnnnppffaaaGreatDoor


/- cue.entries: the iterator over the measures in which a part enters: walked. -/
namespace Go.Proofs.YtppjbnnnppffaaaGreatDoor
set_option linter.unusedSimpArgs false
set_option linter.unusedVariables false
open Go.RowKit Go.Sort Go.Shelf
attribute [local go_sem] Oper.semAt_some

theorem centries_any (a : Option Addr) (n c r : Nat) (after : Int) (w : World) :
    Calls Tryz.prog 45 #[.slice a n c, .map (some r), .int .i64 after] w fun e w' => e = .returned (.func (.func 101) #[] #[.pointer (some ⟨w.heap.size, 0, none⟩), .pointer (some ⟨w.heap.size + 1, 0, none⟩), .pointer (some ⟨w.heap.size + 2, 0, none⟩)]) ∧ w' = (((w.alloc (.cells #[.slice a n c] 22)).alloc (.cells #[.map (some r)] 92)).alloc (.cells #[.int .i64 after] 3)) := by
  go_enter Tryz.func45, Tryz.ntmps45
  go_wp2
  go_ret
  refine ⟨?_, ?_⟩
  · first | rfl | simp
  · first | rfl | simp
/-- The measures in which a part enters, of the first ones. -/
def entL (s : Sc) (p : Pa) (after k : Nat) : List Nat := (List.range k).filter fun i => entryB (busyL s p) after i
theorem entL_succ (s : Sc) (p : Pa) (after k : Nat) : entL s p after (k + 1) = if entryB (busyL s p) after k = true then entL s p after k ++ [k] else entL s p after k := by
  unfold entL
  rw [List.range_succ, List.filter_append]
  by_cases h : entryB (busyL s p) after k = true
  · rw [if_pos h]; simp [h]
  · rw [if_neg h]; simp [h]
theorem entL_len (s : Sc) (p : Pa) (after k : Nat) : (entL s p after k).length ≤ k := Nat.le_trans (List.length_filter_le _ _) (by simp)
/-- The cues are those of the entries. -/
theorem cuesL_ent (s : Sc) (p : Pa) (after : Nat) : cuesL s p after = (entL s p after s.bars.length).filterMap fun i => cueO s p (i - 1) := by
  unfold cuesL entL
  rw [List.filterMap_filter]
/-- A measure in which a part enters. -/
abbrev EnR (s : Sc) (p : Pa) (after : Nat) := { i : Nat // i < s.bars.length ∧ entryB (busyL s p) after i = true }
abbrev encEn {s : Sc} {p : Pa} {after : Nat} (x : EnR s p after) : Array Value := #[.int .i64 ((x.1 : Nat) : Int)]
theorem rests_succ (l : List Bool) (k : Nat) : restsN l (k + 1) = if l.getD k false = true then 0 else restsN l k + 1 := rfl
set_option maxHeartbeats 4000000 in
set_option maxRecDepth 100000 in
theorem entries1_in (F : Fence) (n : Nat) (hF : F.fn 101) (hro : F.round = none) (hn : 1 ≤ n) (lo bb bm ba rp B n0 a b after : Nat) (s : Sc) (p : Pa) (ab : Option Addr) (cb : Nat) (J Jx : List (EnR s p after) → World → Prop) (W : World)
    (hl : s.bars.length ≤ 1000) (hln : (playedL s p).length ≤ 1000) (hn0 : n0 ≤ W.heap.size)
    (hbb : W.heap[bb]? = some (.cells #[.slice ab s.bars.length cb] 22)) (hbm : W.heap[bm]? = some (.cells #[.map (some rp)] 92)) (hba : W.heap[ba]? = some (.cells #[.int .i64 after] 3))
    (hfb : bb < n0 ∧ bb ≠ a ∧ bb ≠ b) (hfm : bm < n0 ∧ bm ≠ a ∧ bm ≠ b) (hfa : ba < n0 ∧ ba ≠ a ∧ ba ≠ b) (hfr : rp < n0 ∧ rp ≠ a ∧ rp ≠ b)
    (hr : FarAt W n0 a b ab 4 (s.bars.map Ba.cells)) (hM : BarsAt W B rp (playedL s p)) (hJ : AbidesFrom W.heap.size J)
    (hY : ∀ pre x W1, J pre W1 → pre.length < s.bars.length → YieldAt F (n - 1) Tryz.prog lo (encEn x) W1 fun e W' =>
      (e = .returned (.bool true) ∧ J (pre ++ [x]) W' ∧ Kept2 n0 a b W1 W') ∨ (e = .returned (.bool false) ∧ Jx (pre ++ [x]) W')) (h0 : J [] W) :
    CallsIn F n Tryz.prog 101 (#[.func (.yield lo) #[] #[]] ++ #[.pointer (some ⟨bb, 0, none⟩), .pointer (some ⟨bm, 0, none⟩), .pointer (some ⟨ba, 0, none⟩)]) W fun e W' => (∃ v, e = .returned v) ∧ ((∃ xs, xs.map Subtype.val = entL s p after s.bars.length ∧ J xs W') ∨ (∃ pre, True ∧ Jx pre W')) := by
  have hc1 := box_cells hbb
  have HR := Lib.hid hr; have HBb := Lib.hid hbb; have HBm := Lib.hid hbm; have HBa := Lib.hid hba; have HN0 := Lib.hid hn0; have HM := Lib.hid hM
  have HFm := Lib.hid hfm; have HFa := Lib.hid hfa; have HFr := Lib.hid hfr; have HFb := Lib.hid hfb
  clear hr hbb hbm hba hn0 hM hfm hfa hfr hfb
  refine callsIn_of_wp Tryz.func101 rfl hF ?_ hro
  simp only [Tryz.ntmps101, List.size_toArray, List.length_cons, List.length_nil, Nat.reduceAdd, Nat.reduceSub, Array.replicate_succ, Array.replicate_zero, List.push_toArray, List.append_toArray, List.nil_append, List.cons_append]
  gi_wp2
  gi_loopw [5, 10] (fun s5 i wr => ∃ (k : Nat) (xs : List (EnR s p after)), k ≤ s.bars.length ∧ i = .int .i64 k ∧ s5 = .int .i64 ((restsN (busyL s p) k : Nat) : Int) ∧ Hid (xs.map Subtype.val = entL s p after k) ∧ J xs wr ∧ Kept2 n0 a b W wr) (fun _ i _ => s.bars.length - (intOf i).toNat)
  case atStart => exact ⟨0, [], Nat.zero_le _, rfl, rfl, Lib.hid rfl, h0, Kept2.refl _ _ _ _⟩
  case round =>
    obtain ⟨k, xs, hk, rfl, rfl, hxs, hJk, hK⟩ := hrel
    have HK := Lib.hid hK; clear hK
    clear hc1
    by_cases hlt : k < s.bars.length
    · have HR1 := HR.out.kept HK.out
      obtain ⟨b1, o1, hqa, hblt, c0, c1, c2, c3⟩ := BaAt.get HR1.at_ k hlt
      have hbm1 := (HK.out.block bm HFm.out.1 HFm.out.2.1 HFm.out.2.2).trans HBm.out
      have hba1 := (HK.out.block ba HFa.out.1 HFa.out.2.1 HFa.out.2.2).trans HBa.out
      have hcm := box_cells hbm1; have hca := box_cells hba1
      have hmlt := lt_of_block hbm1; have halt := lt_of_block hba1
      have HBM1 := Lib.hid hbm1; have HBA1 := Lib.hid hba1; clear hbm1 hba1
      obtain ⟨al, cl, hok, hna, hlook⟩ := HM.out.look s.bars[k].id
      have hrk := HK.out.block rp HFr.out.1 HFr.out.2.1 HFr.out.2.2
      have hrlt : rp < wr.heap.size := Nat.lt_of_lt_of_le HM.out.lt HK.out.size
      have hlk := hlook (wr.alloc (.cells #[.int .i64 s.bars[k].id, .int .i64 s.bars[k].len.n, .int .i64 s.bars[k].len.d, .int .i64 s.bars[k].key] 82)) ((Below.heap_alloc _ _ _ hrlt).trans hrk)
      have hbn := Nat.le_trans (barL_len (playedL s p) s.bars[k].id) hln
      have hR := rests_le (busyL s p) k
      have HRs := Lib.hid (rests_succ (busyL s p) k)
      have HEs := Lib.hid (entL_succ s p after k)
      have HEy := Lib.hid (show entryB (busyL s p) after k = ((busyL s p).getD k false && decide (after ≤ restsN (busyL s p) k)) from rfl)
      have HMem := Lib.hid (show ∀ h : entryB (busyL s p) after k = true, ∃ x : EnR s p after, x.1 = k from fun h => ⟨⟨k, hlt, h⟩, rfl⟩)
      have hbg := busy_get (p := p) hlt
      rw [show playsB s p s.bars[k] = barL (playedL s p) s.bars[k].id from rfl] at hbg
      have hJ1 : J xs (wr.alloc (.cells #[.int .i64 s.bars[k].id, .int .i64 s.bars[k].len.n, .int .i64 s.bars[k].len.d, .int .i64 s.bars[k].key] 82)) := hJ _ _ _ none hJk (World.grownBy_alloc _ _ _) (fun r e => by cases e)
      have hN := HN0.out
      have hxl : xs.length ≤ k := by have h1 := congrArg List.length hxs.out; rw [List.length_map] at h1; rw [h1]; exact entL_len _ _ _ _
      have HK1 := Lib.hid (HK.out.alloc (Nat.le_trans HN0.out HK.out.size) (.cells #[.int .i64 s.bars[k].id, .int .i64 s.bars[k].len.n, .int .i64 s.bars[k].len.d, .int .i64 s.bars[k].key] 82))
      clear hlook hna hok hrk
      generalize hLb : barL (playedL s p) s.bars[k].id = Lb at *
      generalize restsN (busyL s p) k = R at *
      clear hLb
      rw [hqa]
      cases Lb with
      | nil =>
        have hd : (busyL s p).getD k false = false := by rw [hbg]; rfl
        have HR1 := Lib.hid (show restsN (busyL s p) (k + 1) = R + 1 by have := HRs.out; rw [hd] at this; simpa using this)
        have HE1 := Lib.hid (show entL s p after (k + 1) = entL s p after k by have := HEs.out; rw [HEy.out, hd] at this; simpa using this)
        clear hd hbg HRs HEs HEy
        simp only [List.length_nil] at hlk
        gi_wp2
        go_roundw
        case rel => exact ⟨k + 1, xs, by omega, by go_num, by rw [HR1.out]; go_num, Lib.hid (by rw [HE1.out]; exact hxs.out), hJ1, HK1.out⟩
        case measure => simp [intOf]; omega
      | cons y l =>
        have hd : (busyL s p).getD k false = true := by rw [hbg]; rfl
        have HR1 := Lib.hid (show restsN (busyL s p) (k + 1) = 0 by have := HRs.out; rw [hd] at this; simpa using this)
        have hz : ((((y :: l).length : Nat) : Int) == 0) = false := by simp; omega
        by_cases hge : after ≤ R
        · have HEn := Lib.hid (show entryB (busyL s p) after k = true by rw [HEy.out, hd]; simpa using hge)
          have HE1 := Lib.hid (show entL s p after (k + 1) = entL s p after k ++ [k] by have := HEs.out; rwa [if_pos HEn.out] at this)
          have hge2 : (after : Int) ≤ (R : Int) := by omega
          obtain ⟨xk, hxk⟩ := HMem.out HEn.out
          obtain ⟨fn, tmps, assign, body, hy, hRd⟩ := hY xs xk _ hJ1 (by omega)
          dsimp only [encEn] at hy hRd
          have HMv := Lib.hid hxk
          rw [hxk] at hy
          clear hxk
          clear hd hbg HRs HEs HEy HEn HMem
          gi_wp2
          refine hRd.mono ?_
          rintro e W3 (⟨rfl, hJ3, hk3⟩ | ⟨rfl, hJx3⟩)
          · gi_wp2
            go_roundw
            case rel => exact ⟨k + 1, xs ++ [xk], by omega, by go_num, by rw [HR1.out]; rfl, Lib.hid (by rw [HE1.out, List.map_append, hxs.out, ← HMv.out]; rfl), hJ3, HK1.out.trans hk3⟩
            case measure => simp [intOf]; omega
          · gi_wp2
            refine bodyPost_ret (results_none rfl _ _ _) rfl ?_
            exact ⟨⟨_, rfl⟩, .inr ⟨_, trivial, hJx3⟩⟩
        · have HE1 := Lib.hid (show entL s p after (k + 1) = entL s p after k by have := HEs.out; rw [HEy.out, hd] at this; simpa [hge] using this)
          have hge2 : ¬ (after : Int) ≤ (R : Int) := by omega
          clear hd hbg HRs HEs HEy
          gi_wp2
          refine ⟨fun _ h => (by cases h), ?_⟩
          gi_wp2
          go_roundw
          case rel => exact ⟨k + 1, xs, by omega, by go_num, by rw [HR1.out]; rfl, Lib.hid (by rw [HE1.out]; exact hxs.out), hJ1, HK1.out⟩
          case measure => simp [intOf]; omega
    · obtain rfl : k = s.bars.length := by omega
      gi_wp2
      go_end0
      exact ⟨⟨_, rfl⟩, .inl ⟨_, hxs.out, hJk⟩⟩
end Go.Proofs.YtppjbnnnppffaaaGreatDoor


/- cue.Cues's closures; slices.MaxFunc over parts: walked. -/
namespace Go.Proofs.YtppjbnnnppffaaaGreatDoor
set_option linter.unusedSimpArgs false
set_option linter.unusedVariables false
open Go.RowKit Go.Sort Go.Shelf

theorem ccues1_any (p : Pa) (part : Int) (tb : Nat) (w : World) (htb : w.heap[tb]? = some (.cells #[.int .i64 part] 3)) :
    Calls Tryz.prog 43 #[.agg #[.int .i64 p.id, .int .i64 p.section_, .int .i64 p.of, .int .i64 p.octave, .int .i64 p.desks, .int .i64 p.shift.x, .int .i64 p.shift.y, .int .i64 p.low.s, .int .i64 p.low.a, .int .i64 p.low.o, .int .i64 p.high.s, .int .i64 p.high.a, .int .i64 p.high.o], .pointer (some ⟨tb, 0, none⟩)] w fun e w' => e = .returned (.bool (p.id == part)) ∧ Below w.heap.size w w' := by
  have HX1 := Lib.hid (heap_alloc_new w (.cells #[.int .i64 p.id, .int .i64 p.section_, .int .i64 p.of, .int .i64 p.octave, .int .i64 p.desks, .int .i64 p.shift.x, .int .i64 p.shift.y, .int .i64 p.low.s, .int .i64 p.low.a, .int .i64 p.low.o, .int .i64 p.high.s, .int .i64 p.high.a, .int .i64 p.high.o] 59))
  have HX2 := Lib.hid (up_alloc htb (.cells #[.int .i64 p.id, .int .i64 p.section_, .int .i64 p.of, .int .i64 p.octave, .int .i64 p.desks, .int .i64 p.shift.x, .int .i64 p.shift.y, .int .i64 p.low.s, .int .i64 p.low.a, .int .i64 p.low.o, .int .i64 p.high.s, .int .i64 p.high.a, .int .i64 p.high.o] 59))
  have HB := Lib.hid (below_box (w := w) (.cells #[.int .i64 p.id, .int .i64 p.section_, .int .i64 p.of, .int .i64 p.octave, .int .i64 p.desks, .int .i64 p.shift.x, .int .i64 p.shift.y, .int .i64 p.low.s, .int .i64 p.low.a, .int .i64 p.low.o, .int .i64 p.high.s, .int .i64 p.high.a, .int .i64 p.high.o] 59))
  clear htb
  go_enter Tryz.func43, Tryz.ntmps43
  go_upto_region 1 with (fail)
  generalize w.alloc (.cells #[.int .i64 p.id, .int .i64 p.section_, .int .i64 p.of, .int .i64 p.octave, .int .i64 p.desks, .int .i64 p.shift.x, .int .i64 p.shift.y, .int .i64 p.low.s, .int .i64 p.low.a, .int .i64 p.low.o, .int .i64 p.high.s, .int .i64 p.high.a, .int .i64 p.high.o] 59) = W at *
  have hc1 := box_cells HX1.out; have hc2 := box_cells HX2.out
  go_wp2
  go_ret
  exact ⟨rfl, HB.out⟩
theorem enters_cues2 : ∀ args w, (callFunc 46 args).run Tryz.prog w = .ok (.enter 46 args) w := enters_of Tryz.func46 (by kernel_rfl) rfl
/-- How two parts compare in a bar. -/
def busyC (s : Sc) (b : Ba) (x y : Pa) : Int := orL [cmpI ((playsB s x b).length : Nat) ((playsB s y b).length : Nat), cmpI y.id x.id]
theorem orL_more (n m : Nat) (a b : Int) : decide (0 < orL [cmpI (n : Int) (m : Int), cmpI b a]) = (decide (m < n) || decide (m = n) && decide (a < b)) := by
  simp only [orL, cmpI]
  rw [Bool.eq_iff_iff]
  simp only [decide_eq_true_eq, Bool.or_eq_true, Bool.and_eq_true]
  by_cases h1 : n < m
  · have e1 : (n : Int) < (m : Int) := by omega
    simp [e1]; omega
  · by_cases h2 : m < n
    · have e1 : ¬ (n : Int) < (m : Int) := by omega
      have e2 : (m : Int) < (n : Int) := by omega
      simp [e1, e2]; omega
    · have e : n = m := by omega
      subst e
      simp
      by_cases h3 : b < a
      · simp [h3]; omega
      · by_cases h4 : a < b
        · simp [h3, h4]
        · simp [h3, h4]
theorem busy_more (s : Sc) (b : Ba) (x y : Pa) : decide (0 < busyC s b x y) = moreB (fun p => (playsB s p b).length) x y := orL_more _ _ _ _
set_option maxRecDepth 100000 in
set_option maxHeartbeats 4000000 in
theorem ccues2_any (s : Sc) (b : Ba) (x y : Pa) (B r alb bb : Nat) (w : World) (hf : ∀ p, (playedL s p).length ≤ 1000) (hx : x ∈ s.parts) (hy : y ∈ s.parts) (hP : PlaysAt w B r s s.parts) (hal : w.heap[alb]? = some (.cells #[.map (some r)] 87)) (hbb : w.heap[bb]? = some (.cells #[.int .i64 b.id, .int .i64 b.len.n, .int .i64 b.len.d, .int .i64 b.key] 82)) :
    Calls Tryz.prog 46 #[.agg #[.int .i64 x.id, .int .i64 x.section_, .int .i64 x.of, .int .i64 x.octave, .int .i64 x.desks, .int .i64 x.shift.x, .int .i64 x.shift.y, .int .i64 x.low.s, .int .i64 x.low.a, .int .i64 x.low.o, .int .i64 x.high.s, .int .i64 x.high.a, .int .i64 x.high.o], .agg #[.int .i64 y.id, .int .i64 y.section_, .int .i64 y.of, .int .i64 y.octave, .int .i64 y.desks, .int .i64 y.shift.x, .int .i64 y.shift.y, .int .i64 y.low.s, .int .i64 y.low.a, .int .i64 y.low.o, .int .i64 y.high.s, .int .i64 y.high.a, .int .i64 y.high.o], .pointer (some ⟨alb, 0, none⟩), .pointer (some ⟨bb, 0, none⟩)] w fun e w' => e = .returned (.int .i64 (busyC s b x y)) ∧ Below w.heap.size w w' := by
  obtain ⟨x1, x2, hb⟩ := box2 (w := w) (A := .cells #[.int .i64 x.id, .int .i64 x.section_, .int .i64 x.of, .int .i64 x.octave, .int .i64 x.desks, .int .i64 x.shift.x, .int .i64 x.shift.y, .int .i64 x.low.s, .int .i64 x.low.a, .int .i64 x.low.o, .int .i64 x.high.s, .int .i64 x.high.a, .int .i64 x.high.o] 59) (B := .cells #[.int .i64 y.id, .int .i64 y.section_, .int .i64 y.of, .int .i64 y.octave, .int .i64 y.desks, .int .i64 y.shift.x, .int .i64 y.shift.y, .int .i64 y.low.s, .int .i64 y.low.a, .int .i64 y.low.o, .int .i64 y.high.s, .int .i64 y.high.a, .int .i64 y.high.o] 59) (Below.refl _ _)
  obtain ⟨rx, hbx, hlx⟩ := hP.look hx
  obtain ⟨ry, hby, hly⟩ := hP.look hy
  obtain ⟨ax, cx, hok1, _, hkx⟩ := hbx.look b.id
  obtain ⟨ay, cy, hok2, _, hky⟩ := hby.look b.id
  have hrl := hP.lt; have hrx := hbx.lt; have hry := hby.lt
  have HL1 := Lib.hid (fun W (hb : Below w.heap.size w W) => hlx W (hb.block _ hrl)); have HL2 := Lib.hid (fun W (hb : Below w.heap.size w W) => hly W (hb.block _ hrl))
  have HL3 := Lib.hid (fun W (hb : Below w.heap.size w W) => hkx W (hb.block _ hrx)); have HL4 := Lib.hid (fun W (hb : Below w.heap.size w W) => hky W (hb.block _ hry))
  have HX1 := Lib.hid x1; have HX2 := Lib.hid x2; have HB := Lib.hid hb
  have HX3 := Lib.hid (up_alloc (up_alloc hal (.cells #[.int .i64 x.id, .int .i64 x.section_, .int .i64 x.of, .int .i64 x.octave, .int .i64 x.desks, .int .i64 x.shift.x, .int .i64 x.shift.y, .int .i64 x.low.s, .int .i64 x.low.a, .int .i64 x.low.o, .int .i64 x.high.s, .int .i64 x.high.a, .int .i64 x.high.o] 59)) (.cells #[.int .i64 y.id, .int .i64 y.section_, .int .i64 y.of, .int .i64 y.octave, .int .i64 y.desks, .int .i64 y.shift.x, .int .i64 y.shift.y, .int .i64 y.low.s, .int .i64 y.low.a, .int .i64 y.low.o, .int .i64 y.high.s, .int .i64 y.high.a, .int .i64 y.high.o] 59)); have HX4 := Lib.hid (up_alloc (up_alloc hbb (.cells #[.int .i64 x.id, .int .i64 x.section_, .int .i64 x.of, .int .i64 x.octave, .int .i64 x.desks, .int .i64 x.shift.x, .int .i64 x.shift.y, .int .i64 x.low.s, .int .i64 x.low.a, .int .i64 x.low.o, .int .i64 x.high.s, .int .i64 x.high.a, .int .i64 x.high.o] 59)) (.cells #[.int .i64 y.id, .int .i64 y.section_, .int .i64 y.of, .int .i64 y.octave, .int .i64 y.desks, .int .i64 y.shift.x, .int .i64 y.shift.y, .int .i64 y.low.s, .int .i64 y.low.a, .int .i64 y.low.o, .int .i64 y.high.s, .int .i64 y.high.a, .int .i64 y.high.o] 59))
  have HR := Lib.hid (show busyC s b x y = orL [cmpI ((barL (playedL s x) b.id).length : Nat) ((barL (playedL s y) b.id).length : Nat), cmpI y.id x.id] from rfl)
  have hn1 := Nat.le_trans (barL_len (playedL s x) b.id) (hf x); have hn2 := Nat.le_trans (barL_len (playedL s y) b.id) (hf y)
  clear hP hal hbb hlx hly hkx hky hbx hby hok1 hok2 x1 x2 hb hf
  generalize busyC s b x y = R at *
  generalize (barL (playedL s x) b.id).length = n at *; generalize (barL (playedL s y) b.id).length = m at *
  have HC := Lib.hid (fun a b W => (cmpI_any a b W).mono fun e w' h => (⟨h.1, h.2 ▸ Below.refl _ _⟩ : _ ∧ Below W.heap.size W w'))
  go_enter Tryz.func46, Tryz.ntmps46
  go_upto_region 1 with (fail)
  generalize (w.alloc (.cells #[.int .i64 x.id, .int .i64 x.section_, .int .i64 x.of, .int .i64 x.octave, .int .i64 x.desks, .int .i64 x.shift.x, .int .i64 x.shift.y, .int .i64 x.low.s, .int .i64 x.low.a, .int .i64 x.low.o, .int .i64 x.high.s, .int .i64 x.high.a, .int .i64 x.high.o] 59)).alloc (.cells #[.int .i64 y.id, .int .i64 y.section_, .int .i64 y.of, .int .i64 y.octave, .int .i64 y.desks, .int .i64 y.shift.x, .int .i64 y.shift.y, .int .i64 y.low.s, .int .i64 y.low.a, .int .i64 y.low.o, .int .i64 y.high.s, .int .i64 y.high.a, .int .i64 y.high.o] 59) = W at *
  have hc1 := box_cells HX1.out; have hc2 := box_cells HX2.out; have hc3 := box_cells HX3.out; have hc4 := box_cells HX4.out
  have g0 := cell_regrown (hc1 0); have g1 := cell_regrown (hc2 0); have g2 := cell_regrown (hc3 0); have g3 := cell_regrown (hc4 0)
  have l1 := fun (d : Nat) (os : Array Obj) => HL1.out (grow (redrawn W d) os) (HB.out.trans ((below_regrown W d os).mono HB.out.size))
  have l2 := fun (d : Nat) (os : Array Obj) => HL2.out (grow (redrawn W d) os) (HB.out.trans ((below_regrown W d os).mono HB.out.size))
  have l3 := fun (d : Nat) (os : Array Obj) => HL3.out (grow (redrawn W d) os) (HB.out.trans ((below_regrown W d os).mono HB.out.size))
  have l4 := fun (d : Nat) (os : Array Obj) => HL4.out (grow (redrawn W d) os) (HB.out.trans ((below_regrown W d os).mono HB.out.size))
  refine wp_tailB 22 (by kernel_rfl) (by kernel_rfl) ?_
  simp only [List.take_succ_cons, List.take_zero, List.drop_succ_cons, List.drop_zero]
  (repeat (go_big_quiet_step (fail)))
  go_big_quiet_step ((go_at_call 48; refine Calls.regrown_of (HC.out _ _ _)))
  (repeat (go_big_quiet_step (fail)))
  go_big_quiet_step ((go_at_call 48; refine Calls.regrown_of (HC.out _ _ _)))
  (repeat (go_big_quiet_step (fail)))
  refine wpQuiet_nil ?_
  intro w6 hb6
  replace HB := Lib.hid (HB.out.trans (hb6.mono HB.out.size))
  clear hb6 g0 g1 g2 g3 l1 l2 l3 l4 hc1 hc2 hc3 hc4 HX1 HX2 HX3 HX4 HL1 HL2 HL3 HL4
  generalize cmpI (n : Int) (m : Int) = a1 at *; generalize cmpI y.id x.id = a2 at *
  have HO := Lib.hid (fun (b : Nat) (W' : World) (hx : W'.heap[b]? = some (.cells #[.int .i64 a1, .int .i64 a2] 3 (0, 0))) => (HR.out ▸ OrI_any (some ⟨b, 0, none⟩) 2 [a1, a2] W' (by simp) (inAt_row hx (by rfl)) : Calls Tryz.prog 47 #[.slice (some ⟨b, 0, none⟩) 2 2] W' fun e w' => e = .returned (.int .i64 R) ∧ W' = w'))
  go_wp2_with (fail)
  refine (HO.out _ _ (heap_alloc_new _ _)).mono ?_
  rintro e w9 ⟨rfl, rfl⟩
  go_wp2
  go_ret
  exact ⟨rfl, HB.out.alloc HB.out.size _⟩
/-- The last one of the first that is more than those before. -/
def maxK (c : Pa → Pa → Int) (x : Pa) (l : List Pa) (j : Nat) : Pa := (l.take j).foldl (fun best q => if 0 < c q best then q else best) x
theorem maxK_succ (c : Pa → Pa → Int) (x : Pa) (l : List Pa) (j : Nat) (h : j < l.length) : maxK c x l (j + 1) = if 0 < c l[j] (maxK c x l j) then l[j] else maxK c x l j := by
  unfold maxK
  rw [List.take_succ_eq_append_getElem h, List.foldl_append]
  rfl
theorem maxK_mem (c : Pa → Pa → Int) (x : Pa) (l : List Pa) (j : Nat) : maxK c x l j ∈ x :: l := by
  unfold maxK
  have : ∀ (r acc : List Pa) (y : Pa), y ∈ acc → (∀ z ∈ r, z ∈ acc) → r.foldl (fun best q => if 0 < c q best then q else best) y ∈ acc := by
    intro r acc
    induction r with
    | nil => intro y hy _; exact hy
    | cons z r ih =>
      intro y hy hr
      rw [List.foldl_cons]
      refine ih _ ?_ (fun u hu => hr u (by simp [hu]))
      split
      · exact hr z (by simp)
      · exact hy
  exact this _ _ x (by simp) (fun z hz => List.mem_cons_of_mem _ (List.mem_of_mem_take hz))
theorem maxK_most {s : Sc} {b : Ba} {x : Pa} {l : List Pa} (e : s.parts = x :: l) : mostP (fun p => (playsB s p b).length) s.parts = some (maxK (busyC s b) x l l.length) := by
  have h : (fun best q => if moreB (fun p => (playsB s p b).length) q best = true then q else best) = (fun best q => if 0 < busyC s b q best then q else best) := by
    funext best q
    rw [← busy_more]
    simp
  rw [e]
  show some (l.foldl _ x) = some (maxK _ _ _ _)
  unfold maxK
  rw [List.take_length, h]
/-- 13 cells of a block are set. -/
theorem set13_at {w : World} {c : Nat} {T : TypeId} {a0 a1 a2 a3 a4 a5 a6 a7 a8 a9 a10 a11 a12 v0 v1 v2 v3 v4 v5 v6 v7 v8 v9 v10 v11 v12 : Value} (h : w.heap[c]? = some (.cells #[a0, a1, a2, a3, a4, a5, a6, a7, a8, a9, a10, a11, a12] T (0, 0))) :
    (((((((((((((w.setCell ⟨c, 0, none⟩ v0).setCell ⟨c, 1, none⟩ v1).setCell ⟨c, 2, none⟩ v2).setCell ⟨c, 3, none⟩ v3).setCell ⟨c, 4, none⟩ v4).setCell ⟨c, 5, none⟩ v5).setCell ⟨c, 6, none⟩ v6).setCell ⟨c, 7, none⟩ v7).setCell ⟨c, 8, none⟩ v8).setCell ⟨c, 9, none⟩ v9).setCell ⟨c, 10, none⟩ v10).setCell ⟨c, 11, none⟩ v11).setCell ⟨c, 12, none⟩ v12).heap[c]? = some (.cells #[v0, v1, v2, v3, v4, v5, v6, v7, v8, v9, v10, v11, v12] T (0, 0)) := by
  have h0 := heap_setCell_same w c 0 _ T v0 h
  have h1 := heap_setCell_same _ c 1 _ T v1 h0
  have h2 := heap_setCell_same _ c 2 _ T v2 h1
  have h3 := heap_setCell_same _ c 3 _ T v3 h2
  have h4 := heap_setCell_same _ c 4 _ T v4 h3
  have h5 := heap_setCell_same _ c 5 _ T v5 h4
  have h6 := heap_setCell_same _ c 6 _ T v6 h5
  have h7 := heap_setCell_same _ c 7 _ T v7 h6
  have h8 := heap_setCell_same _ c 8 _ T v8 h7
  have h9 := heap_setCell_same _ c 9 _ T v9 h8
  have h10 := heap_setCell_same _ c 10 _ T v10 h9
  have h11 := heap_setCell_same _ c 11 _ T v11 h10
  have h12 := heap_setCell_same _ c 12 _ T v12 h11
  simpa only [List.setIfInBounds_toArray, List.set_cons_zero, List.set_cons_succ] using h12
theorem set13_far {w : World} {b c : Nat} {o : Obj} {v0 v1 v2 v3 v4 v5 v6 v7 v8 v9 v10 v11 v12 : Value} (h : w.heap[b]? = some o) (hne : b ≠ c) :
    (((((((((((((w.setCell ⟨c, 0, none⟩ v0).setCell ⟨c, 1, none⟩ v1).setCell ⟨c, 2, none⟩ v2).setCell ⟨c, 3, none⟩ v3).setCell ⟨c, 4, none⟩ v4).setCell ⟨c, 5, none⟩ v5).setCell ⟨c, 6, none⟩ v6).setCell ⟨c, 7, none⟩ v7).setCell ⟨c, 8, none⟩ v8).setCell ⟨c, 9, none⟩ v9).setCell ⟨c, 10, none⟩ v10).setCell ⟨c, 11, none⟩ v11).setCell ⟨c, 12, none⟩ v12).heap[b]? = some o :=
  set1_far (set1_far (set1_far (set1_far (set1_far (set1_far (set1_far (set1_far (set1_far (set1_far (set1_far (set1_far (set1_far h hne _) hne _) hne _) hne _) hne _) hne _) hne _) hne _) hne _) hne _) hne _) hne _) hne _
theorem set13_below {n : Nat} {w0 w : World} {c : Nat} {v0 v1 v2 v3 v4 v5 v6 v7 v8 v9 v10 v11 v12 : Value} (h : Below n w0 w) (hc : n ≤ c) :
    Below n w0 (((((((((((((w.setCell ⟨c, 0, none⟩ v0).setCell ⟨c, 1, none⟩ v1).setCell ⟨c, 2, none⟩ v2).setCell ⟨c, 3, none⟩ v3).setCell ⟨c, 4, none⟩ v4).setCell ⟨c, 5, none⟩ v5).setCell ⟨c, 6, none⟩ v6).setCell ⟨c, 7, none⟩ v7).setCell ⟨c, 8, none⟩ v8).setCell ⟨c, 9, none⟩ v9).setCell ⟨c, 10, none⟩ v10).setCell ⟨c, 11, none⟩ v11).setCell ⟨c, 12, none⟩ v12) :=
  ((((((((((((h.setCell (p := ⟨c, 0, none⟩) hc _).setCell (p := ⟨c, 1, none⟩) hc _).setCell (p := ⟨c, 2, none⟩) hc _).setCell (p := ⟨c, 3, none⟩) hc _).setCell (p := ⟨c, 4, none⟩) hc _).setCell (p := ⟨c, 5, none⟩) hc _).setCell (p := ⟨c, 6, none⟩) hc _).setCell (p := ⟨c, 7, none⟩) hc _).setCell (p := ⟨c, 8, none⟩) hc _).setCell (p := ⟨c, 9, none⟩) hc _).setCell (p := ⟨c, 10, none⟩) hc _).setCell (p := ⟨c, 11, none⟩) hc _).setCell (p := ⟨c, 12, none⟩) hc _
/-- A comparator says what c says, of these parts, from world w0 on; it lays memory at most. -/
def CmpO (g : Nat) (caps : Array Value) (c : Pa → Pa → Int) (ds : List Pa) (B : Nat) (w0 : World) : Prop :=
  ∀ x ∈ ds, ∀ y ∈ ds, ∀ W, RowKit.Below B w0 W → Calls Tryz.prog g (#[.agg #[.int .i64 x.id, .int .i64 x.section_, .int .i64 x.of, .int .i64 x.octave, .int .i64 x.desks, .int .i64 x.shift.x, .int .i64 x.shift.y, .int .i64 x.low.s, .int .i64 x.low.a, .int .i64 x.low.o, .int .i64 x.high.s, .int .i64 x.high.a, .int .i64 x.high.o], .agg #[.int .i64 y.id, .int .i64 y.section_, .int .i64 y.of, .int .i64 y.octave, .int .i64 y.desks, .int .i64 y.shift.x, .int .i64 y.shift.y, .int .i64 y.low.s, .int .i64 y.low.a, .int .i64 y.low.o, .int .i64 y.high.s, .int .i64 y.high.a, .int .i64 y.high.o]] ++ caps) W fun e W' => e = .returned (.int .i64 (c x y)) ∧ RowKit.Below W.heap.size W W'
set_option maxRecDepth 100000 in
set_option maxHeartbeats 8000000 in
theorem MaxFunc_any (g : Nat) (caps : Array Value) (eg : ∀ args w, (callFunc g args).run Tryz.prog w = .ok (.enter g args) w) (c : Pa → Pa → Int) (a : Option Addr) (cap : Nat) (x : Pa) (l : List Pa) (w : World) (hl : l.length ≤ 1000) (hc : CmpO g caps c (x :: l) w.heap.size w) (hm : PaAt w a (x :: l)) :
    Calls Tryz.prog 49 #[.slice a (l.length + 1) cap, .func (.func g) #[] caps] w fun e w' => e = .returned (.agg #[.int .i64 (maxK c x l l.length).id, .int .i64 (maxK c x l l.length).section_, .int .i64 (maxK c x l l.length).of, .int .i64 (maxK c x l l.length).octave, .int .i64 (maxK c x l l.length).desks, .int .i64 (maxK c x l l.length).shift.x, .int .i64 (maxK c x l l.length).shift.y, .int .i64 (maxK c x l l.length).low.s, .int .i64 (maxK c x l l.length).low.a, .int .i64 (maxK c x l l.length).low.o, .int .i64 (maxK c x l l.length).high.s, .int .i64 (maxK c x l l.length).high.a, .int .i64 (maxK c x l l.length).high.o]) ∧ RowKit.Below w.heap.size w w' := by
  have HM := Lib.hid hm
  have HC := Lib.hid hc
  have HX1 := Lib.hid (heap_alloc_new w (.cells #[.int .i64 0, .int .i64 0, .int .i64 0, .int .i64 0, .int .i64 0, .int .i64 0, .int .i64 0, .int .i64 0, .int .i64 0, .int .i64 0, .int .i64 0, .int .i64 0, .int .i64 0] 59))
  have HB := Lib.hid (below_box (w := w) (.cells #[.int .i64 0, .int .i64 0, .int .i64 0, .int .i64 0, .int .i64 0, .int .i64 0, .int .i64 0, .int .i64 0, .int .i64 0, .int .i64 0, .int .i64 0, .int .i64 0, .int .i64 0] 59))
  clear hm hc
  have HG := Lib.hid (fun W (hb : Below w.heap.size w W) (j : Nat) (hj : j < (x :: l).length) => PaAt.get (HM.out.below hb) j hj)
  clear HM
  obtain ⟨b, off, hqa, _, e0, e1, e2, e3, e4, e5, e6, e7, e8, e9, e10, e11, e12⟩ := HG.out w (Below.refl _ _) 0 (by simp)
  subst hqa
  simp only [List.getElem_cons_zero, Nat.zero_mul, Nat.add_zero] at e0 e1 e2 e3 e4 e5 e6 e7 e8 e9 e10 e11 e12
  replace e0 := keepE e0 HB.out; replace e1 := keepE e1 HB.out; replace e2 := keepE e2 HB.out; replace e3 := keepE e3 HB.out; replace e4 := keepE e4 HB.out; replace e5 := keepE e5 HB.out; replace e6 := keepE e6 HB.out; replace e7 := keepE e7 HB.out; replace e8 := keepE e8 HB.out; replace e9 := keepE e9 HB.out; replace e10 := keepE e10 HB.out; replace e11 := keepE e11 HB.out; replace e12 := keepE e12 HB.out
  have hlen : ¬ ((l.length + 1 : Nat) : Int) < 1 := by omega
  have hpos : (0 : Int) < ((l.length + 1 : Nat) : Int) := by omega
  go_enter Tryz.func49, Tryz.ntmps49
  go_upto_region 1 with (fail)
  have hzw := lt_blk HX1.out
  generalize w.alloc (.cells #[.int .i64 0, .int .i64 0, .int .i64 0, .int .i64 0, .int .i64 0, .int .i64 0, .int .i64 0, .int .i64 0, .int .i64 0, .int .i64 0, .int .i64 0, .int .i64 0, .int .i64 0] 59) = W at *
  go_upto_region 4 with (fail)
  have HX2 := Lib.hid (heap_alloc_new W (.cells #[.int .i64 x.id, .int .i64 x.section_, .int .i64 x.of, .int .i64 x.octave, .int .i64 x.desks, .int .i64 x.shift.x, .int .i64 x.shift.y, .int .i64 x.low.s, .int .i64 x.low.a, .int .i64 x.low.o, .int .i64 x.high.s, .int .i64 x.high.a, .int .i64 x.high.o] 59))
  have hb := below_box (w := W) (.cells #[.int .i64 x.id, .int .i64 x.section_, .int .i64 x.of, .int .i64 x.octave, .int .i64 x.desks, .int .i64 x.shift.x, .int .i64 x.shift.y, .int .i64 x.low.s, .int .i64 x.low.a, .int .i64 x.low.o, .int .i64 x.high.s, .int .i64 x.high.a, .int .i64 x.high.o] 59)
  replace HX1 := Lib.hid (blk_keep HX1.out hb)
  have hWs := HB.out.size
  replace HB := Lib.hid (HB.out.trans (hb.mono HB.out.size))
  have hwW := hzw
  clear hb e0 e1 e2 e3 e4 e5 e6 e7 e8 e9 e10 e11 e12
  have hmb : w.heap.size < W.heap.size := hwW
  generalize W.alloc (.cells #[.int .i64 x.id, .int .i64 x.section_, .int .i64 x.of, .int .i64 x.octave, .int .i64 x.desks, .int .i64 x.shift.x, .int .i64 x.shift.y, .int .i64 x.low.s, .int .i64 x.low.a, .int .i64 x.low.o, .int .i64 x.high.s, .int .i64 x.high.a, .int .i64 x.high.o] 59) = W2 at *
  generalize W.heap.size = mb at *
  go_wp2
  go_loopw [6] (fun s6 wi => ∃ i : Nat, 1 ≤ i ∧ i ≤ l.length + 1 ∧ s6 = .int .i64 i ∧ wi.heap[mb]? = some (.cells #[.int .i64 (maxK c x l (i - 1)).id, .int .i64 (maxK c x l (i - 1)).section_, .int .i64 (maxK c x l (i - 1)).of, .int .i64 (maxK c x l (i - 1)).octave, .int .i64 (maxK c x l (i - 1)).desks, .int .i64 (maxK c x l (i - 1)).shift.x, .int .i64 (maxK c x l (i - 1)).shift.y, .int .i64 (maxK c x l (i - 1)).low.s, .int .i64 (maxK c x l (i - 1)).low.a, .int .i64 (maxK c x l (i - 1)).low.o, .int .i64 (maxK c x l (i - 1)).high.s, .int .i64 (maxK c x l (i - 1)).high.a, .int .i64 (maxK c x l (i - 1)).high.o] 59) ∧ wi.heap[w.heap.size]? = some (.cells #[.int .i64 0, .int .i64 0, .int .i64 0, .int .i64 0, .int .i64 0, .int .i64 0, .int .i64 0, .int .i64 0, .int .i64 0, .int .i64 0, .int .i64 0, .int .i64 0, .int .i64 0] 59) ∧ RowKit.Below w.heap.size w wi) (fun s6 _ => l.length + 1 - (intOf s6).toNat)
  case atStart => exact ⟨1, by omega, by omega, rfl, HX2.out, HX1.out, HB.out⟩
  case round =>
    clear HX1 HX2 HB
    obtain ⟨i, hi1, hi, rfl, hx2, hx1, hb⟩ := hrel
    have HX1 := Lib.hid hx1; have HX2 := Lib.hid hx2; have HB := Lib.hid hb
    clear hx1 hx2 hb
    by_cases hlt : i < l.length + 1
    · obtain ⟨b', off', hqa, _, e0, e1, e2, e3, e4, e5, e6, e7, e8, e9, e10, e11, e12⟩ := HG.out wr HB.out i (by simp; omega)
      cases hqa
      have hil : i - 1 < l.length := by omega
      have hgi : (x :: l)[i]'(by simp; omega) = l[i - 1] := by rw [List.getElem_cons, dif_neg (by omega)]
      rw [hgi] at e0 e1 e2 e3 e4 e5 e6 e7 e8 e9 e10 e11 e12
      have HS := Lib.hid (show maxK c x l (i + 1 - 1) = if 0 < c l[i - 1] (maxK c x l (i - 1)) then l[i - 1] else maxK c x l (i - 1) from by
        rw [show i + 1 - 1 = (i - 1) + 1 by omega]; exact maxK_succ c x l (i - 1) hil)
      have HCj := Lib.hid (HC.out l[i - 1] (by simp) (maxK c x l (i - 1)) (maxK_mem c x l (i - 1)))
      have hib : (i : Int) < ((l.length + 1 : Nat) : Int) := by omega
      clear hgi
      generalize l[i - 1] = y at *
      generalize maxK c x l (i - 1) = z at *
      have hcm := box_cells HX2.out
      have g0 := cell_regrown e0; have g1 := cell_regrown e1; have g2 := cell_regrown e2; have g3 := cell_regrown e3; have g4 := cell_regrown e4; have g5 := cell_regrown e5; have g6 := cell_regrown e6; have g7 := cell_regrown e7; have g8 := cell_regrown e8; have g9 := cell_regrown e9; have g10 := cell_regrown e10; have g11 := cell_regrown e11; have g12 := cell_regrown e12
      have k0 := cell_regrown (hcm 0); have k1 := cell_regrown (hcm 1); have k2 := cell_regrown (hcm 2); have k3 := cell_regrown (hcm 3); have k4 := cell_regrown (hcm 4); have k5 := cell_regrown (hcm 5); have k6 := cell_regrown (hcm 6); have k7 := cell_regrown (hcm 7); have k8 := cell_regrown (hcm 8); have k9 := cell_regrown (hcm 9); have k10 := cell_regrown (hcm 10); have k11 := cell_regrown (hcm 11); have k12 := cell_regrown (hcm 12)
      go_upto_region 7 with (fail)
      refine wp_quietB (by kernel_rfl) (by kernel_rfl) ?_
      (repeat (go_big_quiet_step (fail)))
      go_big_quiet_step ((go_at_fn g; refine Calls.regrown_of (HCj.out _ (HB.out.trans ((below_regrown _ _ _).mono HB.out.size)))))
      (repeat (go_big_quiet_step (fail)))
      refine wpQuiet_nil ?_
      intro w9 hb9
      clear g0 g1 g2 g3 g4 g5 g6 g7 g8 g9 g10 g11 g12 k0 k1 k2 k3 k4 k5 k6 k7 k8 k9 k10 k11 k12 hcm
      replace e0 := keepE e0 hb9; replace e1 := keepE e1 hb9; replace e2 := keepE e2 hb9; replace e3 := keepE e3 hb9; replace e4 := keepE e4 hb9; replace e5 := keepE e5 hb9; replace e6 := keepE e6 hb9; replace e7 := keepE e7 hb9; replace e8 := keepE e8 hb9; replace e9 := keepE e9 hb9; replace e10 := keepE e10 hb9; replace e11 := keepE e11 hb9; replace e12 := keepE e12 hb9
      replace HX1 := Lib.hid (blk_keep HX1.out hb9); replace HX2 := Lib.hid (blk_keep HX2.out hb9); replace HB := Lib.hid (HB.out.trans (hb9.mono HB.out.size))
      clear hb9
      generalize hcc : c y z = C at *
      by_cases hpos2 : 0 < C
      · have HS2 := Lib.hid (by have := HS.out; rwa [if_pos hpos2] at this)
        have hcm := box_cells HX2.out; have hfm := box_free HX2.out; have hzm := lt_blk HX2.out
        clear HS
        go_wp2
        exact ⟨⟨i + 1, by omega, by omega, by go_num, by rw [HS2.out]; exact set13_at HX2.out, set13_far HX1.out (by omega), set13_below HB.out (by omega)⟩, by simp [intOf]; omega⟩
      · have HS2 := Lib.hid (by have := HS.out; rwa [if_neg hpos2] at this)
        clear HS
        go_wp2
        exact ⟨⟨i + 1, by omega, by omega, by go_num, by rw [HS2.out]; exact HX2.out, HX1.out, HB.out⟩, by simp [intOf]; omega⟩
    · obtain rfl : i = l.length + 1 := by omega
      have e1 : l.length + 1 - 1 = l.length := by omega
      rw [e1] at HX2
      generalize hzz : maxK c x l l.length = z at *
      have hcm := box_cells HX2.out
      have hcr := box_cells HX1.out; have hfr := box_free HX1.out; have hzr := lt_blk HX1.out
      go_wp2
      have hx9 := set13_at (v0 := .int .i64 z.id) (v1 := .int .i64 z.section_) (v2 := .int .i64 z.of) (v3 := .int .i64 z.octave) (v4 := .int .i64 z.desks) (v5 := .int .i64 z.shift.x) (v6 := .int .i64 z.shift.y) (v7 := .int .i64 z.low.s) (v8 := .int .i64 z.low.a) (v9 := .int .i64 z.low.o) (v10 := .int .i64 z.high.s) (v11 := .int .i64 z.high.a) (v12 := .int .i64 z.high.o) HX1.out
      have hc9 := box_cells hx9; have hf9 := box_free hx9
      exact bodyPost_ret (v := .agg #[.int .i64 z.id, .int .i64 z.section_, .int .i64 z.of, .int .i64 z.octave, .int .i64 z.desks, .int .i64 z.shift.x, .int .i64 z.shift.y, .int .i64 z.low.s, .int .i64 z.low.a, .int .i64 z.low.o, .int .i64 z.high.s, .int .i64 z.high.a, .int .i64 z.high.o]) (by simp [results, Tryz.results49, go_sem, hc9, hf9]) rfl ⟨by rw [hzz], set13_below HB.out (Nat.le_refl _)⟩
end Go.Proofs.YtppjbnnnppffaaaGreatDoor


/- A drawn region in a round of a range over a function is walked as everywhere; no condition beside: it defers nothing. -/
namespace Go.Proofs.YtppjbnnnppffaaaGreatDoor
set_option linter.unusedSimpArgs false
set_option linter.unusedVariables false
open Go.RowKit Go.Sort

theorem uponIn_round {l n : Nat} {P : Program} {o : Oper} {a : Act} {K : Act → World → Prop} {Q : Exit → Act → World → Prop} {r : Result Next} (h : o.upon P a K Q r) : o.uponIn (Fence.wide.inRound l) n P a K Q r := by
  cases r with
  | ok x w' =>
    cases x with
    | value v => exact h
    | skip => exact h
    | defer d => exact h
    | enter f args =>
      refine ⟨(fun e => by cases e), CallsIn.inRound l (callsIn_wide.2 ?_)⟩
      refine Calls.mono (show Calls P f args w' _ from h) fun e w'' he => ?_
      cases e <;> exact he
    | row row args =>
      refine ⟨(fun e => by cases e), fun c cs _ => ?_⟩
      obtain ⟨v, w'', r, s⟩ := (show Rows P row args w' _ from h) c cs
      exact ⟨v, w'', r, stepsIn_wide.2 s⟩
    | _ => exact (show False from h).elim
  | halt x w' => cases x <;> exact h
theorem operIn_round {l n : Nat} {P : Program} {o : Oper} {a : Act} {w : World} {K : Act → World → Prop} {Q : Exit → Act → World → Prop} (hd : ∀ c, o.op ≠ .defer c) (h : o.wp P a w K Q) : o.wpIn (Fence.wide.inRound l) n P a w K Q := by
  refine ⟨fun _ _ => trivial, ?_⟩
  show o.uponIn _ _ _ _ _ _ ((o.semAt (some l) a.eval).run P w)
  rw [Oper.semAt_some l _ o hd]
  exact uponIn_round h
def noDefer (ops : Array Oper) : Bool := ops.all fun o => match o.op with | .defer _ => false | _ => true
theorem noDefer_at {ops : Array Oper} (h : noDefer ops = true) {i : Nat} {o : Oper} (hi : ops[i]? = some o) : ∀ c, o.op ≠ .defer c := by
  intro c e
  unfold noDefer at h
  rw [Array.all_eq_true] at h
  obtain ⟨hlt, rfl⟩ := Array.getElem?_eq_some_iff.1 hi
  have := h i hlt
  rw [e] at this
  cases this
/-- A post that is met in the normal way alone. -/
def OnlyN (K : Act → World → Prop) : Exit → Act → World → Prop
  | .normal, a, w => K a w
  | _, _, _ => False
theorem OnlyN.imp {Q : Exit → Act → World → Prop} : ∀ (e : Exit) (a : Act) (w : World), OnlyN (Q .normal) e a w → Q e a w := fun e a w h => by
  cases e <;> first | exact h | exact (h : False).elim
theorem OnlyN.normal {K : Act → World → Prop} {a : Act} {w : World} (h : K a w) : OnlyN K .normal a w := h
theorem OnlyN.noOut {K : Act → World → Prop} : ¬ LetsOut (OnlyN K) := fun ⟨_, _, h⟩ => h
theorem wpAnyIn_round {l n : Nat} {P : Program} {md : Region.Mode} {ops : Array Oper} {Q : Exit → Act → World → Prop} (hq : ¬ LetsOut Q) (hd : noDefer ops = true) : ∀ (fuel : Nat) (listed : Array Bool) (a : Act) (w : World), wpAny P md ops Q fuel listed a w → wpAnyIn (Fence.wide.inRound l) n P md ops Q fuel listed a w := by
  intro fuel
  induction fuel with
  | zero => intro listed a w h; exact h
  | succ fuel ih =>
    intro listed a w h
    refine ⟨h.1, fun i hi => ?_⟩
    have h2 := h.2 i hi
    unfold wpOpIn
    unfold wpOp at h2
    cases ho : ops[i]? with
    | none => rw [ho] at h2; exact ih _ _ _ h2
    | some o =>
      rw [ho] at h2
      simp only at h2 ⊢
      split
      · rename_i hw
        rw [if_pos hw] at h2
        exact Oper.wpIn_mono (fun a w h => ih _ a w h) (operIn_round (noDefer_at hd ho) (h2.resolve_right fun h => hq h.2))
      · rename_i hw
        rw [if_neg hw] at h2
        exact ⟨fun _ _ => trivial, ih _ _ _ h2⟩
theorem region_round_held {S : World → Prop} {id l n : Nat} {P : Program} {ops : Array Oper} {Q : Exit → Act → World → Prop} {a : Act} {w : World} (hm : P.follows .mixedOrders = true) (hd : noDefer ops = true) (hS : S w.drew)
    (h : S w.drew → wpAnyH P .any ops (OnlyN (Q .normal)) S ops.size (Array.replicate ops.size false) a w.drew) : (Code.region id ops true).wpIn (Fence.wide.inRound l) n P Q a w :=
  Code.wpIn_mono OnlyN.imp (wpIn_region_any hm (wpAnyIn_round OnlyN.noOut hd _ _ _ _ (wpAny_of_held _ _ _ _ (h hS))))
end Go.Proofs.YtppjbnnnppffaaaGreatDoor


/- cue.Cues: walked. -/
namespace Go.Proofs.YtppjbnnnppffaaaGreatDoor
set_option linter.unusedSimpArgs false
set_option linter.unusedVariables false
open Go.RowKit Go.Sort Go.Shelf
attribute [local go_sem] Oper.semAt_some

theorem plays_dur {s : Sc} (v : ScV s) {p : Pa} (hp : p ∈ s.parts) {b : Ba} (hb : b ∈ s.bars) : ∀ n ∈ playsB s p b, durB n.start = true := by
  intro n hn
  obtain ⟨m, _, rfl, _, _, h4, _, _⟩ := played_note v hp hb hn
  rw [noteIn_eq] at h4
  simp only [Bool.and_eq_true] at h4
  exact h4.1.1.1.1.1.1.1.1
theorem plays_nodup {s : Sc} (v : ScV s) (p : Pa) (b : Ba) : ((playsB s p b).map No.id).Nodup := by
  have := wsL_nodup v p p b
  unfold wsL at this
  rw [List.map_map] at this
  exact this
theorem plays_len {s : Sc} (hf : ScFew s) (p : Pa) (b : Ba) : (playsB s p b).length ≤ 1000 := Nat.le_trans (inBar_len _ _) (Nat.le_trans (playedL_len s p) hf.notes)
/-- What the cue of a measure is, by the part that slices.MaxFunc finds. -/
theorem cueO_max {s : Sc} {p : Pa} {m : Nat} (hm : m < s.bars.length) {x : Pa} {l : List Pa} (e : s.parts = x :: l) :
    cueO s p m = if playsB s (maxK (busyC s s.bars[m]) x l l.length) s.bars[m] = [] then none else some ⟨m, (maxK (busyC s s.bars[m]) x l l.length).id, sortW ((playsB s (maxK (busyC s s.bars[m]) x l l.length) s.bars[m]).map (writtenW p s.bars[m]))⟩ := by
  unfold cueO
  rw [List.getElem?_eq_getElem hm]
  dsimp only
  rw [maxK_most e]
  dsimp only
  by_cases h : playsB s (maxK (busyC s s.bars[m]) x l l.length) s.bars[m] = []
  · rw [if_pos h, if_pos (by rw [h]; rfl)]
  · rw [if_neg h, if_neg (fun h2 => h (List.length_eq_zero_iff.1 h2))]
theorem says_step {s : Sc} {p : Pa} {af : Nat} (f : Nat → Option CuP) (pre : List (EnR s p af)) (x : EnR s p af) (l : List CuP) (h : [x.1].filterMap f = l) : ((pre ++ [x]).map Subtype.val).filterMap f = (pre.map Subtype.val).filterMap f ++ l := by
  rw [List.map_append, List.filterMap_append, ← h]; rfl
theorem field_pa (z : Pa) (W : World) : (Instr.field 59 (.agg #[.int .i64 z.id, .int .i64 z.section_, .int .i64 z.of, .int .i64 z.octave, .int .i64 z.desks, .int .i64 z.shift.x, .int .i64 z.shift.y, .int .i64 z.low.s, .int .i64 z.low.a, .int .i64 z.low.o, .int .i64 z.high.s, .int .i64 z.high.a, .int .i64 z.high.o]) 0).run Tryz.prog W = .ok (.int .i64 z.id) W := by kernel_rfl
theorem inB_4000 (a : Int) : inB a 1 4000 = (decide (1 ≤ a) && decide (a ≤ 4000)) := rfl
set_option maxRecDepth 100000 in
set_option maxHeartbeats 8000000 in
theorem CCues_any (s : Sc) (q : Sp) (part after : Int) (w : World) (hf : ScFew s) (hs : ScAt w s q) (hE : Env w) :
    Calls Tryz.prog 15 #[.agg #[.int .i64 s.version, .slice q.ab s.bars.length q.cb, .slice q.ap s.parts.length q.cp, .slice q.an s.notes.length q.cn], .int .i64 part, .int .i64 after] w (RetCuE (cuesR s part after).1 (cuesR s part after).2 w) := by
  obtain ⟨ab, cb, ap, cp, an, cn⟩ := q
  obtain ⟨x1, x2, hb⟩ := box2 (w := w) (A := .cells #[.int .i64 s.version, .slice (⟨ab, cb, ap, cp, an, cn⟩ : Sp).ab s.bars.length (⟨ab, cb, ap, cp, an, cn⟩ : Sp).cb, .slice (⟨ab, cb, ap, cp, an, cn⟩ : Sp).ap s.parts.length (⟨ab, cb, ap, cp, an, cn⟩ : Sp).cp, .slice (⟨ab, cb, ap, cp, an, cn⟩ : Sp).an s.notes.length (⟨ab, cb, ap, cp, an, cn⟩ : Sp).cn] 26) (B := .cells #[.int .i64 part] 3) (Below.refl _ _)
  have HX1 := Lib.hid x1; have HX2 := Lib.hid x2; have HB := Lib.hid hb; clear x1 x2 hb
  have HVl := Lib.hid (fun W (hb : Below w.heap.size w W) => SValid_any s (⟨ab, cb, ap, cp, an, cn⟩ : Sp) W hf (hs.below hb) (hE.below hb))
  have HS := Lib.hid hs; have HE := Lib.hid hE; have HF := Lib.hid hf
  clear hs hE hf
  dsimp only at *
  cases hv : validS s
  · rw [hv] at HVl
    rw [show cuesR s part after = ([], 1) by simp [cuesR, hv]]
    clear hv
    go_enter Tryz.func15, Tryz.ntmps15; go_upto_region 1 with (fail); generalize (w.alloc (.cells #[.int .i64 s.version, .slice (⟨ab, cb, ap, cp, an, cn⟩ : Sp).ab s.bars.length (⟨ab, cb, ap, cp, an, cn⟩ : Sp).cb, .slice (⟨ab, cb, ap, cp, an, cn⟩ : Sp).ap s.parts.length (⟨ab, cb, ap, cp, an, cn⟩ : Sp).cp, .slice (⟨ab, cb, ap, cp, an, cn⟩ : Sp).an s.notes.length (⟨ab, cb, ap, cp, an, cn⟩ : Sp).cn] 26)).alloc (.cells #[.int .i64 part] 3) = W at *; have hc1 := box_cells HX1.out; have hc2 := box_cells HX2.out
    go_wp2_with ((go_at_call 41; refine (HVl.out _ HB.out).mono ?_; rintro e w2 ⟨rfl, hb⟩; (try replace hb := drewB hb); replace HB := Lib.hid (HB.out.trans (hb.mono HB.out.size)); (try (replace HX1 := Lib.hid (blk_keep HX1.out hb); replace hc1 := box_cells HX1.out; replace hf1 := box_free HX1.out; replace hz1 := lt_blk HX1.out)); (try (replace HX2 := Lib.hid (blk_keep HX2.out hb); replace hc2 := box_cells HX2.out; replace hf2 := box_free HX2.out; replace hz2 := lt_blk HX2.out)); (try (replace HX3 := Lib.hid (blk_keep HX3.out hb); replace hc3 := box_cells HX3.out; replace hf3 := box_free HX3.out; replace hz3 := lt_blk HX3.out)); (try (replace HX4 := Lib.hid (blk_keep HX4.out hb); replace hc4 := box_cells HX4.out; replace hf4 := box_free HX4.out; replace hz4 := lt_blk HX4.out)); (try (replace HX10 := Lib.hid (blk_keep HX10.out hb); replace hc10 := box_cells HX10.out; replace hf10 := box_free HX10.out; replace hz10 := lt_blk HX10.out)); clear hb))
    go_ret2
    exact ⟨none, 0, [], rfl, SlOk.nil, ⟨SlAt.nil _ _ _, (fun m hm => by cases hm), (fun m hm => by cases hm)⟩, rfl, HB.out⟩
  rw [hv] at HVl
  by_cases ha1 : 1 ≤ after
  case neg =>
    rw [show cuesR s part after = ([], 1) by simp [cuesR, hv, inB_4000, ha1]]
    have hd1 : after < 1 := by omega
    clear hv ha1
    go_enter Tryz.func15, Tryz.ntmps15; go_upto_region 1 with (fail); generalize (w.alloc (.cells #[.int .i64 s.version, .slice (⟨ab, cb, ap, cp, an, cn⟩ : Sp).ab s.bars.length (⟨ab, cb, ap, cp, an, cn⟩ : Sp).cb, .slice (⟨ab, cb, ap, cp, an, cn⟩ : Sp).ap s.parts.length (⟨ab, cb, ap, cp, an, cn⟩ : Sp).cp, .slice (⟨ab, cb, ap, cp, an, cn⟩ : Sp).an s.notes.length (⟨ab, cb, ap, cp, an, cn⟩ : Sp).cn] 26)).alloc (.cells #[.int .i64 part] 3) = W at *; have hc1 := box_cells HX1.out; have hc2 := box_cells HX2.out
    go_wp2_with ((go_at_call 41; refine (HVl.out _ HB.out).mono ?_; rintro e w2 ⟨rfl, hb⟩; (try replace hb := drewB hb); replace HB := Lib.hid (HB.out.trans (hb.mono HB.out.size)); (try (replace HX1 := Lib.hid (blk_keep HX1.out hb); replace hc1 := box_cells HX1.out; replace hf1 := box_free HX1.out; replace hz1 := lt_blk HX1.out)); (try (replace HX2 := Lib.hid (blk_keep HX2.out hb); replace hc2 := box_cells HX2.out; replace hf2 := box_free HX2.out; replace hz2 := lt_blk HX2.out)); (try (replace HX3 := Lib.hid (blk_keep HX3.out hb); replace hc3 := box_cells HX3.out; replace hf3 := box_free HX3.out; replace hz3 := lt_blk HX3.out)); (try (replace HX4 := Lib.hid (blk_keep HX4.out hb); replace hc4 := box_cells HX4.out; replace hf4 := box_free HX4.out; replace hz4 := lt_blk HX4.out)); (try (replace HX10 := Lib.hid (blk_keep HX10.out hb); replace hc10 := box_cells HX10.out; replace hf10 := box_free HX10.out; replace hz10 := lt_blk HX10.out)); clear hb))
    go_ret2
    exact ⟨none, 0, [], rfl, SlOk.nil, ⟨SlAt.nil _ _ _, (fun m hm => by cases hm), (fun m hm => by cases hm)⟩, rfl, HB.out⟩
  have hd1 : ¬ after < 1 := by omega
  by_cases ha2 : after ≤ 4000
  case neg =>
    rw [show cuesR s part after = ([], 1) by simp [cuesR, hv, inB_4000, ha2]]
    have hd2 : 4000 < after := by omega
    clear hv ha1 ha2
    go_enter Tryz.func15, Tryz.ntmps15; go_upto_region 1 with (fail); generalize (w.alloc (.cells #[.int .i64 s.version, .slice (⟨ab, cb, ap, cp, an, cn⟩ : Sp).ab s.bars.length (⟨ab, cb, ap, cp, an, cn⟩ : Sp).cb, .slice (⟨ab, cb, ap, cp, an, cn⟩ : Sp).ap s.parts.length (⟨ab, cb, ap, cp, an, cn⟩ : Sp).cp, .slice (⟨ab, cb, ap, cp, an, cn⟩ : Sp).an s.notes.length (⟨ab, cb, ap, cp, an, cn⟩ : Sp).cn] 26)).alloc (.cells #[.int .i64 part] 3) = W at *; have hc1 := box_cells HX1.out; have hc2 := box_cells HX2.out
    go_wp2_with ((go_at_call 41; refine (HVl.out _ HB.out).mono ?_; rintro e w2 ⟨rfl, hb⟩; (try replace hb := drewB hb); replace HB := Lib.hid (HB.out.trans (hb.mono HB.out.size)); (try (replace HX1 := Lib.hid (blk_keep HX1.out hb); replace hc1 := box_cells HX1.out; replace hf1 := box_free HX1.out; replace hz1 := lt_blk HX1.out)); (try (replace HX2 := Lib.hid (blk_keep HX2.out hb); replace hc2 := box_cells HX2.out; replace hf2 := box_free HX2.out; replace hz2 := lt_blk HX2.out)); (try (replace HX3 := Lib.hid (blk_keep HX3.out hb); replace hc3 := box_cells HX3.out; replace hf3 := box_free HX3.out; replace hz3 := lt_blk HX3.out)); (try (replace HX4 := Lib.hid (blk_keep HX4.out hb); replace hc4 := box_cells HX4.out; replace hf4 := box_free HX4.out; replace hz4 := lt_blk HX4.out)); (try (replace HX10 := Lib.hid (blk_keep HX10.out hb); replace hc10 := box_cells HX10.out; replace hf10 := box_free HX10.out; replace hz10 := lt_blk HX10.out)); clear hb))
    go_ret2
    exact ⟨none, 0, [], rfl, SlOk.nil, ⟨SlAt.nil _ _ _, (fun m hm => by cases hm), (fun m hm => by cases hm)⟩, rfl, HB.out⟩
  have hd2 : ¬ 4000 < after := by omega
  have HIx := Lib.hid (fun W (hb : Below w.heap.size w W) (hx : W.heap[w.heap.size + 1]? = some (.cells #[.int .i64 part] 3)) => IndexP_any 43 #[.pointer (some ⟨w.heap.size + 1, 0, none⟩)] enters_cues1 W.heap.size (idP part) ap cp s.parts W (by have := HF.out.parts; omega) (fun d hd W' hb' => cuesId_any part d (w.heap.size + 1) W' ((hb'.block _ (lt_blk hx)).trans hx)) (Nat.le_refl _) (HS.out.parts.below hb))
  cases hp : partAt s.parts part with
  | none =>
    rw [show cuesR s part after = ([], 22) by simp [cuesR, hv, inB_4000, ha1, ha2, hp]]
    rw [part_none hp] at HIx
    clear hv ha1 ha2 hp
    go_enter Tryz.func15, Tryz.ntmps15; go_upto_region 1 with (fail); generalize (w.alloc (.cells #[.int .i64 s.version, .slice (⟨ab, cb, ap, cp, an, cn⟩ : Sp).ab s.bars.length (⟨ab, cb, ap, cp, an, cn⟩ : Sp).cb, .slice (⟨ab, cb, ap, cp, an, cn⟩ : Sp).ap s.parts.length (⟨ab, cb, ap, cp, an, cn⟩ : Sp).cp, .slice (⟨ab, cb, ap, cp, an, cn⟩ : Sp).an s.notes.length (⟨ab, cb, ap, cp, an, cn⟩ : Sp).cn] 26)).alloc (.cells #[.int .i64 part] 3) = W at *; have hc1 := box_cells HX1.out; have hc2 := box_cells HX2.out
    go_wp2_with (first | (go_at_call 41; refine (HVl.out _ HB.out).mono ?_; rintro e w2 ⟨rfl, hb⟩; (try replace hb := drewB hb); replace HB := Lib.hid (HB.out.trans (hb.mono HB.out.size)); (try (replace HX1 := Lib.hid (blk_keep HX1.out hb); replace hc1 := box_cells HX1.out; replace hf1 := box_free HX1.out; replace hz1 := lt_blk HX1.out)); (try (replace HX2 := Lib.hid (blk_keep HX2.out hb); replace hc2 := box_cells HX2.out; replace hf2 := box_free HX2.out; replace hz2 := lt_blk HX2.out)); (try (replace HX3 := Lib.hid (blk_keep HX3.out hb); replace hc3 := box_cells HX3.out; replace hf3 := box_free HX3.out; replace hz3 := lt_blk HX3.out)); (try (replace HX4 := Lib.hid (blk_keep HX4.out hb); replace hc4 := box_cells HX4.out; replace hf4 := box_free HX4.out; replace hz4 := lt_blk HX4.out)); (try (replace HX10 := Lib.hid (blk_keep HX10.out hb); replace hc10 := box_cells HX10.out; replace hf10 := box_free HX10.out; replace hz10 := lt_blk HX10.out)); clear hb) | (go_at_call 42; refine (HIx.out _ HB.out HX2.out).mono ?_; rintro e w3 ⟨rfl, hb⟩; (try replace hb := drewB hb); replace HB := Lib.hid (HB.out.trans (hb.mono HB.out.size)); (try (replace HX1 := Lib.hid (blk_keep HX1.out hb); replace hc1 := box_cells HX1.out; replace hf1 := box_free HX1.out; replace hz1 := lt_blk HX1.out)); (try (replace HX2 := Lib.hid (blk_keep HX2.out hb); replace hc2 := box_cells HX2.out; replace hf2 := box_free HX2.out; replace hz2 := lt_blk HX2.out)); (try (replace HX3 := Lib.hid (blk_keep HX3.out hb); replace hc3 := box_cells HX3.out; replace hf3 := box_free HX3.out; replace hz3 := lt_blk HX3.out)); (try (replace HX4 := Lib.hid (blk_keep HX4.out hb); replace hc4 := box_cells HX4.out; replace hf4 := box_free HX4.out; replace hz4 := lt_blk HX4.out)); (try (replace HX10 := Lib.hid (blk_keep HX10.out hb); replace hc10 := box_cells HX10.out; replace hf10 := box_free HX10.out; replace hz10 := lt_blk HX10.out)); clear hb))
    go_ret2
    exact ⟨none, 0, [], rfl, SlOk.nil, ⟨SlAt.nil _ _ _, (fun m hm => by cases hm), (fun m hm => by cases hm)⟩, rfl, HB.out.alloc HB.out.size _⟩
  | some p =>
    have HPs := Lib.hid hp
    obtain ⟨i, hi, e1, e2, e3⟩ := part_some hp
    have v := scV hv
    have hpm : p ∈ s.parts := e2 ▸ List.getElem_mem hi
    obtain ⟨af, rfl⟩ : ∃ af : Nat, after = af := ⟨after.toNat, by omega⟩
    rw [show cuesR s part (af : Int) = (cuesL s p af, 0) by simp [cuesR, hv, inB_4000, ha1, ha2, hp], cuesL_ent]
    rw [e1] at HIx
    obtain ⟨x0, l0, hxl⟩ := List.exists_cons_of_ne_nil (show s.parts ≠ [] from fun e => by rw [e] at hpm; cases hpm)
    have hff := HF.out
    have HPl := Lib.hid (fun W (hb : Below w.heap.size w W) => cplayed_any s (⟨ab, cb, ap, cp, an, cn⟩ : Sp) W hff hv (HS.out.below hb) (HE.out.below hb))
    have HWr := Lib.hid (fun (z : Pa) (hz : z ∈ s.parts) (b : Ba) (hb : b ∈ s.bars) (h0 : playsB s z b ≠ []) al cl W (hE : Env W) (hL : NoAt W al (playsB s z b)) => cwritten_any p b al cl (playsB s z b) W h0 (plays_len hff z b) (plays_dur v hz hb) (plays_nodup v z b) hL hE)
    have HMx := Lib.hid (fun (b : Ba) (mb bb r B : Nat) W (hP : PlaysAt W B r s s.parts) (hal : W.heap[mb]? = some (.cells #[.map (some r)] 87)) (hbb : W.heap[bb]? = some (.cells #[.int .i64 b.id, .int .i64 b.len.n, .int .i64 b.len.d, .int .i64 b.key] 82)) (hpa : PaAt W ap s.parts) =>
      show Calls Tryz.prog 49 #[.slice ap s.parts.length cp, .func (.func 46) #[] #[.pointer (some ⟨mb, 0, none⟩), .pointer (some ⟨bb, 0, none⟩)]] W (fun e w' => e = .returned (.agg #[.int .i64 (maxK (busyC s b) x0 l0 l0.length).id, .int .i64 (maxK (busyC s b) x0 l0 l0.length).section_, .int .i64 (maxK (busyC s b) x0 l0 l0.length).of, .int .i64 (maxK (busyC s b) x0 l0 l0.length).octave, .int .i64 (maxK (busyC s b) x0 l0 l0.length).desks, .int .i64 (maxK (busyC s b) x0 l0 l0.length).shift.x, .int .i64 (maxK (busyC s b) x0 l0 l0.length).shift.y, .int .i64 (maxK (busyC s b) x0 l0 l0.length).low.s, .int .i64 (maxK (busyC s b) x0 l0 l0.length).low.a, .int .i64 (maxK (busyC s b) x0 l0 l0.length).low.o, .int .i64 (maxK (busyC s b) x0 l0 l0.length).high.s, .int .i64 (maxK (busyC s b) x0 l0 l0.length).high.a, .int .i64 (maxK (busyC s b) x0 l0 l0.length).high.o]) ∧ RowKit.Below W.heap.size W w') from by
        have := MaxFunc_any 46 #[.pointer (some ⟨mb, 0, none⟩), .pointer (some ⟨bb, 0, none⟩)] enters_cues2 (busyC s b) ap cp x0 l0 W (by have := hff.parts; rw [hxl] at this; simp at this; omega) (fun x hx y hy W' hb' => ccues2_any s b x y B r mb bb W' (fun p => Nat.le_trans (playedL_len s p) hff.notes) (hxl ▸ hx) (hxl ▸ hy) (hP.below hb') (blk_keep hal hb') (blk_keep hbb hb')) (hxl ▸ hpa)
        rw [hxl]
        exact this)
    have HCu := Lib.hid (fun (m : Nat) (hm : m < s.bars.length) => cueO_max (p := p) hm hxl)
    have HMm := Lib.hid (fun (b : Ba) => show maxK (busyC s b) x0 l0 l0.length ∈ s.parts from hxl ▸ maxK_mem _ _ _ _)
    have hnb := hff.bars; have hnp := hff.parts
    have hln := Nat.le_trans (playedL_len s p) hff.notes
    have HPm := Lib.hid hpm
    have hd3 : ¬ ((i : Int) < 0) := by omega
    have hil : (i : Int) < (s.parts.length : Int) := by omega
    have HGi := Lib.hid (show s.parts[i] = p from e2)
    subst e3
    clear hv ha1 ha2 hp v hpm e1 e2 hff hxl HF
    refine (callsIn_wide (n := 8)).1 ?_
    refine callsIn_of_wp_marks Tryz.func15 rfl trivial ?_ rfl
    simp only [Tryz.ntmps15, List.size_toArray, List.length_cons, List.length_nil, Nat.reduceAdd, Nat.reduceSub, Array.replicate_succ, Array.replicate_zero, List.push_toArray, List.append_toArray, List.nil_append, List.cons_append]
    refine wpIn_wide.2 ?_
    go_upto_region 1 with (fail)
    generalize (w.alloc (.cells #[.int .i64 s.version, .slice (⟨ab, cb, ap, cp, an, cn⟩ : Sp).ab s.bars.length (⟨ab, cb, ap, cp, an, cn⟩ : Sp).cb, .slice (⟨ab, cb, ap, cp, an, cn⟩ : Sp).ap s.parts.length (⟨ab, cb, ap, cp, an, cn⟩ : Sp).cp, .slice (⟨ab, cb, ap, cp, an, cn⟩ : Sp).an s.notes.length (⟨ab, cb, ap, cp, an, cn⟩ : Sp).cn] 26)).alloc (.cells #[.int .i64 p.id] 3) = W at *
    have hc1 := box_cells HX1.out; have hc2 := box_cells HX2.out
    go_upto_region 3 with ((go_at_call 41; refine (HVl.out _ HB.out).mono ?_; rintro e w2 ⟨rfl, hb⟩; (try replace hb := drewB hb); replace HB := Lib.hid (HB.out.trans (hb.mono HB.out.size)); (try (replace HX1 := Lib.hid (blk_keep HX1.out hb); replace hc1 := box_cells HX1.out; replace hf1 := box_free HX1.out; replace hz1 := lt_blk HX1.out)); (try (replace HX2 := Lib.hid (blk_keep HX2.out hb); replace hc2 := box_cells HX2.out; replace hf2 := box_free HX2.out; replace hz2 := lt_blk HX2.out)); (try (replace HX3 := Lib.hid (blk_keep HX3.out hb); replace hc3 := box_cells HX3.out; replace hf3 := box_free HX3.out; replace hz3 := lt_blk HX3.out)); (try (replace HX4 := Lib.hid (blk_keep HX4.out hb); replace hc4 := box_cells HX4.out; replace hf4 := box_free HX4.out; replace hz4 := lt_blk HX4.out)); (try (replace HX10 := Lib.hid (blk_keep HX10.out hb); replace hc10 := box_cells HX10.out; replace hf10 := box_free HX10.out; replace hz10 := lt_blk HX10.out)); clear hb))
    go_upto_region 4 with (go_at_call 42; refine (HIx.out _ HB.out HX2.out).mono ?_; rintro e w3 ⟨rfl, hb⟩; (try replace hb := drewB hb); replace HB := Lib.hid (HB.out.trans (hb.mono HB.out.size)); (try (replace HX1 := Lib.hid (blk_keep HX1.out hb); replace hc1 := box_cells HX1.out; replace hf1 := box_free HX1.out; replace hz1 := lt_blk HX1.out)); (try (replace HX2 := Lib.hid (blk_keep HX2.out hb); replace hc2 := box_cells HX2.out; replace hf2 := box_free HX2.out; replace hz2 := lt_blk HX2.out)); (try (replace HX3 := Lib.hid (blk_keep HX3.out hb); replace hc3 := box_cells HX3.out; replace hf3 := box_free HX3.out; replace hz3 := lt_blk HX3.out)); (try (replace HX4 := Lib.hid (blk_keep HX4.out hb); replace hc4 := box_cells HX4.out; replace hf4 := box_free HX4.out; replace hz4 := lt_blk HX4.out)); (try (replace HX10 := Lib.hid (blk_keep HX10.out hb); replace hc10 := box_cells HX10.out; replace hf10 := box_free HX10.out; replace hz10 := lt_blk HX10.out)); clear hb)
    have HX3 := Lib.hid (heap_alloc_new w3 (.cells #[.int .i64 (i : Int)] 3))
    have hb := below_box (w := w3) (.cells #[.int .i64 (i : Int)] 3)
    clear HIx HVl
    (try replace hb := drewB hb); replace HB := Lib.hid (HB.out.trans (hb.mono HB.out.size)); (try (replace HX1 := Lib.hid (blk_keep HX1.out hb); replace hc1 := box_cells HX1.out; replace hf1 := box_free HX1.out; replace hz1 := lt_blk HX1.out)); (try (replace HX2 := Lib.hid (blk_keep HX2.out hb); replace hc2 := box_cells HX2.out; replace hf2 := box_free HX2.out; replace hz2 := lt_blk HX2.out)); (try (replace HX3 := Lib.hid (blk_keep HX3.out hb); replace hc3 := box_cells HX3.out; replace hf3 := box_free HX3.out; replace hz3 := lt_blk HX3.out)); (try (replace HX4 := Lib.hid (blk_keep HX4.out hb); replace hc4 := box_cells HX4.out; replace hf4 := box_free HX4.out; replace hz4 := lt_blk HX4.out)); (try (replace HX10 := Lib.hid (blk_keep HX10.out hb); replace hc10 := box_cells HX10.out; replace hf10 := box_free HX10.out; replace hz10 := lt_blk HX10.out)); clear hb
    generalize w3.alloc (.cells #[.int .i64 (i : Int)] 3) = W3 at *
    generalize w3.heap.size = kb at *
    have hc3 := box_cells HX3.out
    go_upto_region 6 with (fail)
    go_upto_region 7 with (go_at_call 44; refine (HPl.out _ HB.out).mono ?_; rintro e w5 ⟨r, rfl, hpl, hb⟩; have HPy := Lib.hid hpl; clear hpl; (try replace hb := drewB hb); replace HB := Lib.hid (HB.out.trans (hb.mono HB.out.size)); (try (replace HX1 := Lib.hid (blk_keep HX1.out hb); replace hc1 := box_cells HX1.out; replace hf1 := box_free HX1.out; replace hz1 := lt_blk HX1.out)); (try (replace HX2 := Lib.hid (blk_keep HX2.out hb); replace hc2 := box_cells HX2.out; replace hf2 := box_free HX2.out; replace hz2 := lt_blk HX2.out)); (try (replace HX3 := Lib.hid (blk_keep HX3.out hb); replace hc3 := box_cells HX3.out; replace hf3 := box_free HX3.out; replace hz3 := lt_blk HX3.out)); (try (replace HX4 := Lib.hid (blk_keep HX4.out hb); replace hc4 := box_cells HX4.out; replace hf4 := box_free HX4.out; replace hz4 := lt_blk HX4.out)); (try (replace HX10 := Lib.hid (blk_keep HX10.out hb); replace hc10 := box_cells HX10.out; replace hf10 := box_free HX10.out; replace hz10 := lt_blk HX10.out)); clear hb)
    have HX4 := Lib.hid (heap_alloc_new w5 (.cells #[.map (some r)] 87))
    have hb := below_box (w := w5) (.cells #[.map (some r)] 87)
    replace HPy := Lib.hid (HPy.out.below hb)
    clear HPl
    (try replace hb := drewB hb); replace HB := Lib.hid (HB.out.trans (hb.mono HB.out.size)); (try (replace HX1 := Lib.hid (blk_keep HX1.out hb); replace hc1 := box_cells HX1.out; replace hf1 := box_free HX1.out; replace hz1 := lt_blk HX1.out)); (try (replace HX2 := Lib.hid (blk_keep HX2.out hb); replace hc2 := box_cells HX2.out; replace hf2 := box_free HX2.out; replace hz2 := lt_blk HX2.out)); (try (replace HX3 := Lib.hid (blk_keep HX3.out hb); replace hc3 := box_cells HX3.out; replace hf3 := box_free HX3.out; replace hz3 := lt_blk HX3.out)); (try (replace HX4 := Lib.hid (blk_keep HX4.out hb); replace hc4 := box_cells HX4.out; replace hf4 := box_free HX4.out; replace hz4 := lt_blk HX4.out)); (try (replace HX10 := Lib.hid (blk_keep HX10.out hb); replace hc10 := box_cells HX10.out; replace hf10 := box_free HX10.out; replace hz10 := lt_blk HX10.out)); clear hb
    generalize w5.alloc (.cells #[.map (some r)] 87) = W5 at *
    generalize w5.heap.size = mb at *
    go_upto_region 8 with (fail)
    have HXo := Lib.hid (heap_alloc_new W5 (.cells #[.slice none 0 0] 32))
    have hb6 := below_box (w := W5) (.cells #[.slice none 0 0] 32)
    have HY1 := Lib.hid (blk_keep HX1.out hb6); have HY2 := Lib.hid (blk_keep HX2.out hb6); have HY4 := Lib.hid (blk_keep HX4.out hb6)
    have HB6 := Lib.hid hb6
    obtain ⟨rp, hba, hlook⟩ := HPy.out.look HPm.out
    have hlk := hlook (W5.alloc (.cells #[.slice none 0 0] 32)) (hb6.block _ HPy.out.lt)
    have HBa := Lib.hid hba
    have hrpl := hba.lt
    clear hb6 hba hlook hc1 hc2 hc3 hf1 hf2 hf3 hz1 hz2 hz3
    obtain ⟨ob, hob⟩ : ∃ ob, ob = W5.heap.size := ⟨_, rfl⟩
    rw [← hob] at HXo ⊢
    have HOb := Lib.hid hob
    clear hob
    generalize W5.alloc (.cells #[.slice none 0 0] 32) = W6 at *
    have hc1 := box_cells HY1.out; have hc2 := box_cells HY2.out; have hc4 := box_cells HY4.out
    go_wp2_with (go_at_call 45; refine (centries_any ab s.bars.length cb rp af W6).mono ?_; rintro e w7 ⟨rfl, hw7⟩; have HW7 := Lib.hid hw7; clear hw7)
    obtain ⟨kB, kM, kA, hb7⟩ := box3 (w := W6) (A := .cells #[.slice ab s.bars.length cb] 22) (B := .cells #[.map (some rp)] 92) (C := .cells #[.int .i64 (af : Int)] 3) (w' := w7) (by rw [← HW7.out]; exact Below.refl _ _)
    have hz7 : W6.heap.size + 3 ≤ w7.heap.size := by rw [HW7.out]; simp
    clear HW7 hlk
    have ko := blk_keep HXo.out hb7
    have hol : ob < W6.heap.size := lt_blk HXo.out
    have hb57 := HB6.out.trans (hb7.mono HB6.out.size)
    have hw5 := HB.out.size
    have hob1 : ob ≤ W5.heap.size := Nat.le_of_eq HOb.out
    have hob2 : W5.heap.size ≤ ob := Nat.le_of_eq HOb.out.symm
    have hfar := far_of (W0 := w) (W := w7) (n0 := w7.heap.size) (a := ob) (b := ob) HS.out.bars (HB.out.trans (hb57.mono HB.out.size)) (by have := hb57.size; omega) (by omega) (by omega)
    have HNr := Lib.hid (fun (W : World) (hW : Below w7.heap.size w7 W) => HBa.out.below (hb57.trans (hW.mono hb57.size)))
    clear hc1 hc2 hc4 HY1 HY2 HY4 hb7
    refine (wpIn_wide (n := 8)).1 ?_
    refine wpIn_rangeFunc_ownH (α := EnR s p af) rfl (by omega) (gf := 101) (lb := #[.pointer (some ⟨W6.heap.size, 0, none⟩), .pointer (some ⟨W6.heap.size + 1, 0, none⟩), .pointer (some ⟨W6.heap.size + 2, 0, none⟩)]) rfl trivial (enters_of Tryz.func101 (by kernel_rfl) rfl)
      (encs := encEn) (Kp := Kept2 w7.heap.size ob ob) (S := fun xs => xs.map Subtype.val = entL s p af s.bars.length) (Sp := fun _ => True) (N := s.bars.length) (w0 := w7) ?hseq Kept2.trans ?hKb (Below.refl _ _) (fun _ => rfl)
      (fun pre V => ∃ v cs, V.heap[ob]? = some (.cells #[v] 32) ∧ OwnR V w7.heap.size 29 3 v (cs.map Cu.cells) ∧ OwnCs V w7.heap.size cs ∧ Hid (cs.map Cu.says = (pre.map Subtype.val).filterMap fun i => cueO s p (i - 1)) ∧ cs.length ≤ pre.length ∧ Below W5.heap.size W5 V ∧ w7.heap.size ≤ V.heap.size)
      (fun _ _ _ => False) ?hI (fun _ _ _ _ _ hs _ _ => hs) ⟨_, [], ko, OwnR.nil _ _ _ _, (fun m hm => by cases hm), Lib.hid rfl, Nat.le_refl _, hb57, Nat.le_refl _⟩
      (fun x a' V => a' = { tmps := #[.agg #[.int .i64 s.version, .slice ab s.bars.length cb, .slice ap s.parts.length cp, .slice an s.notes.length cn], .int .i64 p.id, .int .i64 (af : Int), .pointer (some ⟨w.heap.size, 0, none⟩), .pointer (some ⟨w.heap.size + 1, 0, none⟩), undef, .slice none 0 0, .int .i64 0, .pointer (some ⟨kb, 0, none⟩), .pointer (some ⟨mb, 0, none⟩), .pointer (some ⟨ob, 0, none⟩), .int .i64 (x.1 : Int), undef, undef, undef, undef, .agg #[.int .i64 s.version, .slice ab s.bars.length cb, .slice ap s.parts.length cp, .slice an s.notes.length cn], .bool true, .bool false, .bool false, .int .i64 (af : Int), .bool (decide ((af : Int) < 1)), .bool (decide ((af : Int) < 1)), .bool (decide ((af : Int) < 1)), .int .i64 (af : Int), .bool (decide (4000 < (af : Int))), .bool (decide ((af : Int) < 1) || decide (4000 < (af : Int))), .pointer (some ⟨w.heap.size, 2, none⟩), .slice ap s.parts.length cp, .func (.func 43) #[] #[.pointer (some ⟨w.heap.size + 1, 0, none⟩)], .int .i64 (i : Int), .int .i64 (i : Int), .bool (decide ((i : Int) < 0)), .agg #[.int .i64 s.version, .slice ab s.bars.length cb, .slice ap s.parts.length cp, .slice an s.notes.length cn], .map (some r), .pointer (some ⟨w.heap.size, 1, none⟩), .slice ab s.bars.length cb, .map (some r), .int .i64 p.id, .map (some rp), .int .i64 (af : Int), .func (.func 101) #[] #[.pointer (some ⟨W6.heap.size, 0, none⟩), .pointer (some ⟨W6.heap.size + 1, 0, none⟩), .pointer (some ⟨W6.heap.size + 2, 0, none⟩)], .int .i64 (x.1 : Int), undef, undef, undef, undef, undef, undef, undef, undef, undef, undef, undef, undef, undef, undef, undef, undef, undef, undef, undef, undef, undef, undef, undef, undef, undef, undef, undef, undef, undef, undef, undef, undef, undef, undef, undef, undef, undef], defers := [] })
      ?hAx ?hassign ?hbody ?hdone ?hstop
    case hseq =>
      intro l0 J Jx V hW hJ _ hY h0
      exact entries1_in Fence.wide 7 trivial rfl (by omega) l0 W6.heap.size (W6.heap.size + 1) (W6.heap.size + 2) rp (r + 1) w7.heap.size ob ob af s p ab cb J Jx V hnb hln hW.size (blk_keep kB hW) (blk_keep kM hW) (blk_keep kA hW) ⟨by omega, by omega, by omega⟩ ⟨by omega, by omega, by omega⟩ ⟨by omega, by omega, by omega⟩ ⟨by omega, by omega, by omega⟩ (hfar.kept (Kept2.below hW (Nat.le_refl _))) (HNr.out V hW) hJ hY h0
    case hKb =>
      intro V l0 o o' hl0 hW _ _
      exact (Kept2.refl _ _ _ _).trans ⟨by simp, fun k hk _ _ => World.putObj_heap_other (by omega)⟩
    case hI =>
      rintro pre V V' row ⟨v, cs, j1, j2, j3, j4, j5, j6, j7⟩ hg hrow
      exact ⟨v, cs, blk_keptRow j1 hg hrow (by omega), j2.keptRow hg (fun r e => (hrow r e).2), fun m hm => (j3 m hm).keptRow hg (fun r e => (hrow r e).2), j4, j5, j6.grown hg j6.size (fun k e => by have := (hrow k e).1; omega), Nat.le_trans j7 hg.size⟩
    case hAx =>
      rintro x a' u V V' row h hg hrow
      exact h
    case hassign =>
      rintro l0 pre x V K hI0 hK
      gi_wp2
      refine hK _ _ ((KeepsOthers.refl _).from _) (Kept2.refl _ _ _ _) hI0 ?_
      rfl
    case hbody =>
      rintro lo pre x a' V hlo ⟨rr, hr0⟩ ⟨v, cs, j1, j2, j3, j4, j5, j6, j7⟩ rfl hlt
      obtain ⟨xi, hxi, hxe⟩ := x
      obtain ⟨_, hx1, _, _⟩ := entry_iff (by omega : 1 ≤ af) hxe
      have hmb : xi - 1 < s.bars.length := by omega
      have hsub : ((xi : Int) - 1) = ((xi - 1 : Nat) : Int) := by omega
      have hwm : IntKind.i64.wrap ((xi - 1 : Nat) : Int) = ((xi - 1 : Nat) : Int) := IntWalk.i64_in _ (by omega)
      have hml : ((xi - 1 : Nat) : Int) < (s.bars.length : Int) := by omega
      have HXi := Lib.hid (show [((⟨xi, hxi, hxe⟩ : EnR s p af).1)].filterMap (fun i => cueO s p (i - 1)) = (cueO s p (xi - 1)).toList from by cases h : cueO s p (xi - 1) <;> simp [h])
      generalize hxm : xi - 1 = m at *
      have J2 := Lib.hid j2; have J3 := Lib.hid j3; have JO0 := Lib.hid j1
      have hbwV := HB.out.trans (j6.mono HB.out.size)
      have HEV := Lib.hid (HE.out.below hbwV)
      have hc1 := box_cells (blk_keep HX1.out j6)
      obtain ⟨bbk, boff, hqb, _, d0, d1, d2, d3⟩ := (HS.out.bars.below hbwV).get m hmb
      have hqb2 : ab = some ⟨bbk, boff, none⟩ := hqb
      subst hqb2
      clear hqb
      have HCm := Lib.hid (HCu.out m hmb); have HbM := Lib.hid (List.getElem_mem hmb)
      generalize s.bars[m] = bar at *
      try dsimp only at hc1
      gi_upto_region 11 with (fail)
      have HBb := Lib.hid (heap_alloc_new V (.cells #[.int .i64 bar.id, .int .i64 bar.len.n, .int .i64 bar.len.d, .int .i64 bar.key] 82))
      have hbb := below_box (w := V) (.cells #[.int .i64 bar.id, .int .i64 bar.len.n, .int .i64 bar.len.d, .int .i64 bar.key] 82)
      have HBV := Lib.hid hbb
      clear hbb d0 d1 d2 d3 hc1
      obtain ⟨bb, hbbe⟩ : ∃ bb, bb = V.heap.size := ⟨_, rfl⟩
      rw [← hbbe] at HBb ⊢
      have hbb1 : bb ≤ V.heap.size := Nat.le_of_eq hbbe
      have hbb2 : V.heap.size ≤ bb := Nat.le_of_eq hbbe.symm
      clear hbbe
      generalize V.alloc (.cells #[.int .i64 bar.id, .int .i64 bar.len.n, .int .i64 bar.len.d, .int .i64 bar.key] 82) = V1 at *
      have HMb := Lib.hid (HMx.out bar mb bb r (r + 1) V1 (HPy.out.below (j6.trans (HBV.out.mono j6.size))) (blk_keep (blk_keep HX4.out j6) HBV.out) HBb.out (HS.out.parts.below (hbwV.trans (HBV.out.mono hbwV.size))))
      have HZm := Lib.hid (HMm.out bar)
      generalize maxK (busyC s bar) x0 l0 l0.length = z at *
      have hc1 := box_cells (blk_keep (blk_keep HX1.out j6) HBV.out)
      try dsimp only at hc1
      have hfd := field_pa z
      gi_upto_region 13 with (refine ⟨trivial, ?_⟩; gi_at_call 49; refine (CallsIn.inRound lo (callsIn_wide.2 HMb.out)).mono ?_; rintro e w12 ⟨rfl, hb⟩; have HB12 := Lib.hid hb; clear hb)
      clear hc1 hfd
      have hb512 := (j6.trans (HBV.out.mono j6.size)).trans (HB12.out.mono (Nat.le_trans j6.size HBV.out.size))
      have HBb12 := Lib.hid (blk_keep HBb.out HB12.out)
      have HV12 := Lib.hid (HBV.out.trans (HB12.out.mono HBV.out.size))
      obtain ⟨rz, hbz, hlz⟩ := (HPy.out.below hb512).look HZm.out
      obtain ⟨al, cl, hok, hnl, hlz2⟩ := hbz.look bar.id
      have hl1 := hlz w12 rfl; have hl2 := hlz2 w12 rfl
      rw [show barL (playedL s z) bar.id = playsB s z bar from rfl] at hl2 hnl
      have HNl := Lib.hid hnl
      clear hlz hlz2 hok hnl hbz
      have hc4 := box_cells (blk_keep HX4.out hb512); have hcb := box_cells HBb12.out
      by_cases hpe : playsB s z bar = []
      · have HCs := Lib.hid (show [((⟨xi, hxi, hxe⟩ : EnR s p af).1)].filterMap (fun i => cueO s p (i - 1)) = [] from by rw [HXi.out, HCm.out, if_pos hpe]; rfl)
        rw [hpe] at hl2
        simp only [List.length_nil] at hl2
        clear hpe
        gi_wp2
        exact ⟨⟨HV12.out.size, fun k o hk h0 ho => blk_keep h0 HV12.out⟩, Kept2.below HV12.out j7, v, blk_keep JO0.out HV12.out, cs, J2.out.below HV12.out, J3.out.below HV12.out, Lib.hid (by unfold List.unattach; rw [says_step _ pre _ _ HCs.out, ← j4.out, List.append_nil]), by simp; omega, hb512, by have := HV12.out.size; omega⟩
      · have HCs := Lib.hid (show [((⟨xi, hxi, hxe⟩ : EnR s p af).1)].filterMap (fun i => cueO s p (i - 1)) = [⟨(m : Int), z.id, sortW ((playsB s z bar).map (writtenW p bar))⟩] from by rw [HXi.out, HCm.out, if_neg hpe]; rfl)
        have hlp : (0 : Int) < (((playsB s z bar).length : Nat) : Int) := by have := List.length_pos_iff.2 hpe; omega
        have HWt := Lib.hid (fun W hE hL => HWr.out z HZm.out bar HbM.out hpe al cl W hE hL)
        have HGp := Lib.hid (fun W (hb : Below W5.heap.size W5 W) => (HS.out.parts.below (HB.out.trans (hb.mono HB.out.size))).get i hi)
        rw [HGi.out] at HGp
        dsimp only at HGp
        obtain ⟨pbk, poff, hqp, _⟩ := HGp.out W5 (Below.refl _ _)
        have hqp2 : ap = some ⟨pbk, poff, none⟩ := hqp
        subst hqp2
        clear hqp
        obtain ⟨WS, hWS⟩ : ∃ WS, WS = sortW ((playsB s z bar).map (writtenW p bar)) := ⟨_, rfl⟩
        rw [← hWS] at HCs HWt
        clear hWS hpe HCm HXi HMb
        generalize playsB s z bar = Lz at *
        gi_upto_region 15 with (fail)
        clear hl1 hl2 hc4 hcb
        refine region_round_held (S := fun w' => Below W5.heap.size W5 w' ∧ w'.heap[bb]? = some (.cells #[.int .i64 bar.id, .int .i64 bar.len.n, .int .i64 bar.len.d, .int .i64 bar.key] 82)) (by kernel_rfl) (by kernel_rfl) ⟨hb512.drew, HBb12.out⟩ (fun hHeld => ?_)
        (refine wpAnyH_take1 1 (oi := ?_) (v := ?_) ?_ (by kernel_rfl) (by kernel_rfl) (by kernel_rfl) (by assumption) ?_ ?_ ?_; rotate_left 2; (· simp only [List.getElem?_toArray, List.getElem?_cons_succ, List.getElem?_cons_zero]; try rfl); (· refine ⟨by kernel_rfl, ?_⟩; intro wq hSw; obtain ⟨y1, y2⟩ := hSw; have hx1 := box_cells (blk_keep HX1.out y1); have hx3 := box_cells (blk_keep HX3.out y1); have hcb := box_cells y2; obtain ⟨b', off', e', _, c0, c1, c2, c3, c4, c5, c6, c7, c8, c9, c10, c11, c12⟩ := HGp.out _ y1; cases e'; go_simp; first | done | with_reducible rfl); (· exact fun _ _ _ h => h); try simp only [Act.put, List.setIfInBounds_toArray, List.set_cons_zero, List.set_cons_succ])
        (refine wpAnyH_take1 2 (oi := ?_) (v := ?_) ?_ (by kernel_rfl) (by kernel_rfl) (by kernel_rfl) (by assumption) ?_ ?_ ?_; rotate_left 2; (· simp only [List.getElem?_toArray, List.getElem?_cons_succ, List.getElem?_cons_zero]; try rfl); (· refine ⟨by kernel_rfl, ?_⟩; intro wq hSw; obtain ⟨y1, y2⟩ := hSw; have hx1 := box_cells (blk_keep HX1.out y1); have hx3 := box_cells (blk_keep HX3.out y1); have hcb := box_cells y2; obtain ⟨b', off', e', _, c0, c1, c2, c3, c4, c5, c6, c7, c8, c9, c10, c11, c12⟩ := HGp.out _ y1; cases e'; go_simp; first | done | with_reducible rfl); (· exact fun _ _ _ h => h); try simp only [Act.put, List.setIfInBounds_toArray, List.set_cons_zero, List.set_cons_succ])
        (refine wpAnyH_take1 3 (oi := ?_) (v := ?_) ?_ (by kernel_rfl) (by kernel_rfl) (by kernel_rfl) (by assumption) ?_ ?_ ?_; rotate_left 2; (· simp only [List.getElem?_toArray, List.getElem?_cons_succ, List.getElem?_cons_zero]; try rfl); (· refine ⟨by kernel_rfl, ?_⟩; intro wq hSw; obtain ⟨y1, y2⟩ := hSw; have hx1 := box_cells (blk_keep HX1.out y1); have hx3 := box_cells (blk_keep HX3.out y1); have hcb := box_cells y2; obtain ⟨b', off', e', _, c0, c1, c2, c3, c4, c5, c6, c7, c8, c9, c10, c11, c12⟩ := HGp.out _ y1; cases e'; go_simp; first | done | with_reducible rfl); (· exact fun _ _ _ h => h); try simp only [Act.put, List.setIfInBounds_toArray, List.set_cons_zero, List.set_cons_succ])
        (refine wpAnyH_take1 4 (oi := ?_) (v := ?_) ?_ (by kernel_rfl) (by kernel_rfl) (by kernel_rfl) (by assumption) ?_ ?_ ?_; rotate_left 2; (· simp only [List.getElem?_toArray, List.getElem?_cons_succ, List.getElem?_cons_zero]; try rfl); (· refine ⟨by kernel_rfl, ?_⟩; intro wq hSw; obtain ⟨y1, y2⟩ := hSw; have hx1 := box_cells (blk_keep HX1.out y1); have hx3 := box_cells (blk_keep HX3.out y1); have hcb := box_cells y2; obtain ⟨b', off', e', _, c0, c1, c2, c3, c4, c5, c6, c7, c8, c9, c10, c11, c12⟩ := HGp.out _ y1; cases e'; go_simp; first | done | with_reducible rfl); (· exact fun _ _ _ h => h); try simp only [Act.put, List.setIfInBounds_toArray, List.set_cons_zero, List.set_cons_succ])
        (refine wpAnyH_take1 5 (oi := ?_) (v := ?_) ?_ (by kernel_rfl) (by kernel_rfl) (by kernel_rfl) (by assumption) ?_ ?_ ?_; rotate_left 2; (· simp only [List.getElem?_toArray, List.getElem?_cons_succ, List.getElem?_cons_zero]; try rfl); (· refine ⟨by kernel_rfl, ?_⟩; intro wq hSw; obtain ⟨y1, y2⟩ := hSw; have hx1 := box_cells (blk_keep HX1.out y1); have hx3 := box_cells (blk_keep HX3.out y1); have hcb := box_cells y2; obtain ⟨b', off', e', _, c0, c1, c2, c3, c4, c5, c6, c7, c8, c9, c10, c11, c12⟩ := HGp.out _ y1; cases e'; go_simp; first | done | with_reducible rfl); (· exact fun _ _ _ h => h); try simp only [Act.put, List.setIfInBounds_toArray, List.set_cons_zero, List.set_cons_succ])
        (refine wpAnyH_take1 6 (oi := ?_) (v := ?_) ?_ (by kernel_rfl) (by kernel_rfl) (by kernel_rfl) (by assumption) ?_ ?_ ?_; rotate_left 2; (· simp only [List.getElem?_toArray, List.getElem?_cons_succ, List.getElem?_cons_zero]; try rfl); (· refine ⟨by kernel_rfl, ?_⟩; intro wq hSw; obtain ⟨y1, y2⟩ := hSw; have hx1 := box_cells (blk_keep HX1.out y1); have hx3 := box_cells (blk_keep HX3.out y1); have hcb := box_cells y2; obtain ⟨b', off', e', _, c0, c1, c2, c3, c4, c5, c6, c7, c8, c9, c10, c11, c12⟩ := HGp.out _ y1; cases e'; go_simp; first | done | with_reducible rfl); (· exact fun _ _ _ h => h); try simp only [Act.put, List.setIfInBounds_toArray, List.set_cons_zero, List.set_cons_succ])
        (refine wpAnyH_take1 7 (oi := ?_) (v := ?_) ?_ (by kernel_rfl) (by kernel_rfl) (by kernel_rfl) (by assumption) ?_ ?_ ?_; rotate_left 2; (· simp only [List.getElem?_toArray, List.getElem?_cons_succ, List.getElem?_cons_zero]; try rfl); (· refine ⟨by kernel_rfl, ?_⟩; intro wq hSw; obtain ⟨y1, y2⟩ := hSw; have hx1 := box_cells (blk_keep HX1.out y1); have hx3 := box_cells (blk_keep HX3.out y1); have hcb := box_cells y2; obtain ⟨b', off', e', _, c0, c1, c2, c3, c4, c5, c6, c7, c8, c9, c10, c11, c12⟩ := HGp.out _ y1; cases e'; go_simp; first | done | with_reducible rfl); (· exact fun _ _ _ h => h); try simp only [Act.put, List.setIfInBounds_toArray, List.set_cons_zero, List.set_cons_succ])
        (refine wpAnyH_take1 8 (oi := ?_) (v := ?_) ?_ (by kernel_rfl) (by kernel_rfl) (by kernel_rfl) (by assumption) ?_ ?_ ?_; rotate_left 2; (· simp only [List.getElem?_toArray, List.getElem?_cons_succ, List.getElem?_cons_zero]; try rfl); (· refine ⟨by kernel_rfl, ?_⟩; intro wq hSw; obtain ⟨y1, y2⟩ := hSw; have hx1 := box_cells (blk_keep HX1.out y1); have hx3 := box_cells (blk_keep HX3.out y1); have hcb := box_cells y2; obtain ⟨b', off', e', _, c0, c1, c2, c3, c4, c5, c6, c7, c8, c9, c10, c11, c12⟩ := HGp.out _ y1; cases e'; go_simp; first | done | with_reducible rfl); (· exact fun _ _ _ h => h); try simp only [Act.put, List.setIfInBounds_toArray, List.set_cons_zero, List.set_cons_succ])
        (refine wpAnyH_take1 9 (oi := ?_) (v := ?_) ?_ (by kernel_rfl) (by kernel_rfl) (by kernel_rfl) (by assumption) ?_ ?_ ?_; rotate_left 2; (· simp only [List.getElem?_toArray, List.getElem?_cons_succ, List.getElem?_cons_zero]; try rfl); (· refine ⟨by kernel_rfl, ?_⟩; intro wq hSw; obtain ⟨y1, y2⟩ := hSw; have hx1 := box_cells (blk_keep HX1.out y1); have hx3 := box_cells (blk_keep HX3.out y1); have hcb := box_cells y2; obtain ⟨b', off', e', _, c0, c1, c2, c3, c4, c5, c6, c7, c8, c9, c10, c11, c12⟩ := HGp.out _ y1; cases e'; go_simp; first | done | with_reducible rfl); (· exact fun _ _ _ h => h); try simp only [Act.put, List.setIfInBounds_toArray, List.set_cons_zero, List.set_cons_succ])
        (refine wpAnyH_take1 10 (oi := ?_) (v := ?_) ?_ (by kernel_rfl) (by kernel_rfl) (by kernel_rfl) (by assumption) ?_ ?_ ?_; rotate_left 2; (· simp only [List.getElem?_toArray, List.getElem?_cons_succ, List.getElem?_cons_zero]; try rfl); (· refine ⟨by kernel_rfl, ?_⟩; intro wq hSw; obtain ⟨y1, y2⟩ := hSw; have hx1 := box_cells (blk_keep HX1.out y1); have hx3 := box_cells (blk_keep HX3.out y1); have hcb := box_cells y2; obtain ⟨b', off', e', _, c0, c1, c2, c3, c4, c5, c6, c7, c8, c9, c10, c11, c12⟩ := HGp.out _ y1; cases e'; go_simp; first | done | with_reducible rfl); (· exact fun _ _ _ h => h); try simp only [Act.put, List.setIfInBounds_toArray, List.set_cons_zero, List.set_cons_succ])
        have HBVd := Lib.hid (HV12.out.drew)
        have HBbd := Lib.hid (show w12.drew.heap[bb]? = _ from HBb12.out)
        have J2d := Lib.hid (J2.out.below HBVd.out); have J3d := Lib.hid (J3.out.below HBVd.out); have JO := Lib.hid (blk_keep JO0.out HBVd.out)
        have HEd := Lib.hid (HEV.out.below HBVd.out); have HNd := Lib.hid (show NoAt w12.drew al Lz from SlAt.below HNl.out (Below.refl _ _).drew)
        have J2V := J2
        have hw7d : w7.heap.size ≤ w12.drew.heap.size := Nat.le_trans j7 HBVd.out.size
        have hw5d : W5.heap.size ≤ w12.drew.heap.size := by have := hHeld.1.size; exact this
        generalize w12.drew = wd at *
        have HWc := Lib.hid (HWt.out wd HEd.out HNd.out)
        have hmo := box_cells JO.out 0
        clear HWt HNl HNd HEd HV12 HBb12 HB12 HBV HBb hb512
        (refine wpAnyH_two (i := 0) (j := 11) (o := ?_) (o' := ?_) (by kernel_rfl) ?_ ?_ (fun K hK => ?_) (fun K hK => ?_); rotate_left 2; (· simp only [List.getElem?_toArray, List.getElem?_cons_succ, List.getElem?_cons_zero]; try rfl); (· simp only [List.getElem?_toArray, List.getElem?_cons_succ, List.getElem?_cons_zero]; try rfl))
        · go_simp
          refine hK.out _ _ hHeld (fun hHeld2 => ?_)
          clear hK K
          (try simp only [Act.put, List.setIfInBounds_toArray, List.set_cons_zero, List.set_cons_succ])
          (refine wpAnyH_call1 (i := 11) (o := ?_) (by kernel_rfl) ?_ (fun K hK => ?_); rotate_left 1; (· simp only [List.getElem?_toArray, List.getElem?_cons_succ, List.getElem?_cons_zero]; try rfl); go_simp)
          refine HWc.out.mono ?_; rintro e w15 ⟨na, nc, rfl, how, hb15⟩; have HOw := Lib.hid how; have HB15 := Lib.hid hb15; clear how hb15; go_simp; refine hK.out _ _ ⟨hHeld2.1.trans (HB15.out.mono hw5d), blk_keep hHeld2.2 HB15.out⟩ (fun hHeld3 => ?_); clear hK K; (try simp only [Act.put, List.setIfInBounds_toArray, List.set_cons_zero, List.set_cons_succ])
          (refine wpAnyH_take1 12 (oi := ?_) (v := ?_) ?_ (by kernel_rfl) (by kernel_rfl) (by kernel_rfl) (by assumption) ?_ ?_ ?_; rotate_left 2; (· simp only [List.getElem?_toArray, List.getElem?_cons_succ, List.getElem?_cons_zero]; try rfl); (· refine ⟨by kernel_rfl, ?_⟩; intro wq hSw; skip; go_simp; first | done | with_reducible rfl); (· exact fun _ _ _ h => h); try simp only [Act.put, List.setIfInBounds_toArray, List.set_cons_zero, List.set_cons_succ])
          (refine wpAnyH_call1 (i := 13) (o := ?_) (by kernel_rfl) ?_ (fun K hK => ?_); rotate_left 1; (· simp only [List.getElem?_toArray, List.getElem?_cons_succ, List.getElem?_cons_zero]; try rfl); go_simp)
          refine hK.out _ _ ⟨hHeld3.1.trans ((below_box _).mono hHeld3.1.size), up_alloc hHeld3.2 _⟩ (fun hHeld4 => ?_)
          clear hK K
          (try simp only [Act.put, List.setIfInBounds_toArray, List.set_cons_zero, List.set_cons_succ]); have hsz15 := HB15.out.size; have hs7 := Nat.le_trans hw7d hsz15; (refine wpAnyH_call1 (i := 14) (o := ?_) (by kernel_rfl) ?_ (fun K hK => ?_); rotate_left 1; (· simp only [List.getElem?_toArray, List.getElem?_cons_succ, List.getElem?_cons_zero]; try rfl)); refine step_of rfl (oper_appR eltCu (.tmp 64) (.tmp 77) rfl w7.heap.size v cs rfl ((J2d.out.below HB15.out).below (below_box _)) _ _ _ [(⟨(m : Int), z.id, na, nc, WS⟩ : Cu)] rfl rfl (fun e => by cases e) (eltCu.new _ (⟨(m : Int), z.id, na, nc, WS⟩ : Cu) _ _ rfl) (by simp; omega) (by unfold maxLen; simp; omega) (by simp; omega) ?_); intro v2 w2 ho2 hg2; obtain ⟨a9, c9, e9, _, _⟩ := ho2.slAt; rw [show ((cs ++ [(⟨(m : Int), z.id, na, nc, WS⟩ : Cu)]).map Cu.cells).length = cs.length + 1 by simp] at e9; subst e9; have hlo := lt_blk JO.out; have hbd := lt_blk HBbd.out; have hko2 := (hg2.block ob (by simp; omega) (J2d.out.neBlk (by omega))).trans (up_alloc (blk_keep JO.out HB15.out) (.cells #[.int .i64 (m : Int), .int .i64 z.id, .slice na WS.length nc] 29)); have hkb2 := (hg2.block bb (by simp; omega) (fun e => by have := (J2V.out.lt _ e.symm).2; omega)).trans (up_alloc (blk_keep HBbd.out HB15.out) (.cells #[.int .i64 (m : Int), .int .i64 z.id, .slice na WS.length nc] 29)); have hbX := (HBVd.out.trans (HB15.out.mono HBVd.out.size)).trans ((below_box (.cells #[.int .i64 (m : Int), .int .i64 z.id, .slice na WS.length nc] 29)).mono (Nat.le_trans HBVd.out.size hsz15)); have hb52 := (j6.trans (hbX.mono j6.size)).grown hg2 (by simp; omega) (fun k e => by have := (J2V.out.lt k e).1; omega); refine hK.out _ _ ⟨hb52, hkb2⟩ (fun hHeld6 => ?_); clear hK K; (try simp only [Act.put, List.setIfInBounds_toArray, List.set_cons_zero, List.set_cons_succ]); have hcm := box_cells hko2; have hfm := box_free hko2; have hzm := lt_blk hko2; have HO2 := Lib.hid ho2; have HG2 := Lib.hid hg2; have HKO := Lib.hid hko2; have HBX := Lib.hid hbX; clear ho2 hg2 hko2 hkb2 hbX; (refine wpAnyH_call1 (i := 15) (o := ?_) (by kernel_rfl) ?_ (fun K hK => ?_); rotate_left 1; (· simp only [List.getElem?_toArray, List.getElem?_cons_succ, List.getElem?_cons_zero]; try rfl); go_simp); refine hK.out _ _ ⟨hb52.setCell (p := ⟨ob, 0, none⟩) (by show W5.heap.size ≤ ob; omega) _, set1_far hHeld6.2 (by omega) _⟩ (fun hHeld7 => ?_); clear hK K; refine wpAnyH_done (by kernel_rfl) ?_ _; refine OnlyN.normal ?_; gi_wp2; have hz5 := HG2.out.size; have hzX := HBX.out.size; simp only [World.size_alloc] at hz5 hzX; have hsame : ∀ k, k < V.heap.size → k ≠ ob → some k ≠ v.ownBlock → (w2.setCell ⟨ob, 0, none⟩ (.slice a9 (cs.length + 1) c9)).heap[k]? = V.heap[k]? := (fun k h1 h2 h3 => (Below.heap_setCell _ _ _ k h2).trans ((HG2.out.block k (by simp; omega) h3).trans (HBX.out.block k h1))); refine ⟨⟨by simp; omega, fun k o hk h0 ho => (hsame k (lt_blk h0) (by omega) (fun e => by obtain ⟨cur, hc⟩ := J2V.out.isCells e.symm; rw [h0] at hc; cases hc; cases ho)).trans h0⟩, ⟨by simp; omega, fun k hk ha hb => hsame k (by omega) ha (J2V.out.neBlk hk)⟩, _, heap_setCell_same _ _ _ _ _ _ HKO.out, cs ++ [(⟨(m : Int), z.id, na, nc, WS⟩ : Cu)], by simpa using HO2.out.setOther (by omega) _, ?_, ?_, by simp; omega, hb52.setCell (p := ⟨ob, 0, none⟩) (by show W5.heap.size ≤ ob; omega) _, by simp; omega⟩; (· exact fun y hy => ((((J3d.out.below HB15.out).snoc (m := (⟨(m : Int), z.id, na, nc, WS⟩ : Cu)) (HOw.out.mono hw7d)).below (below_box (.cells #[.int .i64 (m : Int), .int .i64 z.id, .slice na WS.length nc] 29))).kept ((J2d.out.below HB15.out).below (below_box (.cells #[.int .i64 (m : Int), .int .i64 z.id, .slice na WS.length nc] 29))) HG2.out y hy).setOther (by omega) _); (· exact Lib.hid (by unfold List.unattach; rw [says_step _ pre _ _ HCs.out, ← j4.out, List.map_append]; rfl))
        · go_simp
          refine HWc.out.mono ?_; rintro e w15 ⟨na, nc, rfl, how, hb15⟩; have HOw := Lib.hid how; have HB15 := Lib.hid hb15; clear how hb15; go_simp; refine hK.out _ _ ⟨hHeld.1.trans (HB15.out.mono hw5d), blk_keep hHeld.2 HB15.out⟩ (fun hHeld2 => ?_); clear hK K; (try simp only [Act.put, List.setIfInBounds_toArray, List.set_cons_zero, List.set_cons_succ])
          have hmo2 := keepE hmo HB15.out
          (refine wpAnyH_take1 12 (oi := ?_) (v := ?_) ?_ (by kernel_rfl) (by kernel_rfl) (by kernel_rfl) (by assumption) ?_ ?_ ?_; rotate_left 2; (· simp only [List.getElem?_toArray, List.getElem?_cons_succ, List.getElem?_cons_zero]; try rfl); (· refine ⟨by kernel_rfl, ?_⟩; intro wq hSw; skip; go_simp; first | done | with_reducible rfl); (· exact fun _ _ _ h => h); try simp only [Act.put, List.setIfInBounds_toArray, List.set_cons_zero, List.set_cons_succ])
          (refine wpAnyH_two (i := 0) (j := 13) (o := ?_) (o' := ?_) (by kernel_rfl) ?_ ?_ (fun K hK => ?_) (fun K hK => ?_); rotate_left 2; (· simp only [List.getElem?_toArray, List.getElem?_cons_succ, List.getElem?_cons_zero]; try rfl); (· simp only [List.getElem?_toArray, List.getElem?_cons_succ, List.getElem?_cons_zero]; try rfl))
          · go_simp
            refine hK.out _ _ hHeld2 (fun hHeld3 => ?_)
            clear hK K
            (try simp only [Act.put, List.setIfInBounds_toArray, List.set_cons_zero, List.set_cons_succ])
            (refine wpAnyH_call1 (i := 13) (o := ?_) (by kernel_rfl) ?_ (fun K hK => ?_); rotate_left 1; (· simp only [List.getElem?_toArray, List.getElem?_cons_succ, List.getElem?_cons_zero]; try rfl); go_simp)
            refine hK.out _ _ ⟨hHeld3.1.trans ((below_box _).mono hHeld3.1.size), up_alloc hHeld3.2 _⟩ (fun hHeld4 => ?_)
            clear hK K
            (try simp only [Act.put, List.setIfInBounds_toArray, List.set_cons_zero, List.set_cons_succ]); have hsz15 := HB15.out.size; have hs7 := Nat.le_trans hw7d hsz15; (refine wpAnyH_call1 (i := 14) (o := ?_) (by kernel_rfl) ?_ (fun K hK => ?_); rotate_left 1; (· simp only [List.getElem?_toArray, List.getElem?_cons_succ, List.getElem?_cons_zero]; try rfl)); refine step_of rfl (oper_appR eltCu (.tmp 64) (.tmp 77) rfl w7.heap.size v cs rfl ((J2d.out.below HB15.out).below (below_box _)) _ _ _ [(⟨(m : Int), z.id, na, nc, WS⟩ : Cu)] rfl rfl (fun e => by cases e) (eltCu.new _ (⟨(m : Int), z.id, na, nc, WS⟩ : Cu) _ _ rfl) (by simp; omega) (by unfold maxLen; simp; omega) (by simp; omega) ?_); intro v2 w2 ho2 hg2; obtain ⟨a9, c9, e9, _, _⟩ := ho2.slAt; rw [show ((cs ++ [(⟨(m : Int), z.id, na, nc, WS⟩ : Cu)]).map Cu.cells).length = cs.length + 1 by simp] at e9; subst e9; have hlo := lt_blk JO.out; have hbd := lt_blk HBbd.out; have hko2 := (hg2.block ob (by simp; omega) (J2d.out.neBlk (by omega))).trans (up_alloc (blk_keep JO.out HB15.out) (.cells #[.int .i64 (m : Int), .int .i64 z.id, .slice na WS.length nc] 29)); have hkb2 := (hg2.block bb (by simp; omega) (fun e => by have := (J2V.out.lt _ e.symm).2; omega)).trans (up_alloc (blk_keep HBbd.out HB15.out) (.cells #[.int .i64 (m : Int), .int .i64 z.id, .slice na WS.length nc] 29)); have hbX := (HBVd.out.trans (HB15.out.mono HBVd.out.size)).trans ((below_box (.cells #[.int .i64 (m : Int), .int .i64 z.id, .slice na WS.length nc] 29)).mono (Nat.le_trans HBVd.out.size hsz15)); have hb52 := (j6.trans (hbX.mono j6.size)).grown hg2 (by simp; omega) (fun k e => by have := (J2V.out.lt k e).1; omega); refine hK.out _ _ ⟨hb52, hkb2⟩ (fun hHeld6 => ?_); clear hK K; (try simp only [Act.put, List.setIfInBounds_toArray, List.set_cons_zero, List.set_cons_succ]); have hcm := box_cells hko2; have hfm := box_free hko2; have hzm := lt_blk hko2; have HO2 := Lib.hid ho2; have HG2 := Lib.hid hg2; have HKO := Lib.hid hko2; have HBX := Lib.hid hbX; clear ho2 hg2 hko2 hkb2 hbX; (refine wpAnyH_call1 (i := 15) (o := ?_) (by kernel_rfl) ?_ (fun K hK => ?_); rotate_left 1; (· simp only [List.getElem?_toArray, List.getElem?_cons_succ, List.getElem?_cons_zero]; try rfl); go_simp); refine hK.out _ _ ⟨hb52.setCell (p := ⟨ob, 0, none⟩) (by show W5.heap.size ≤ ob; omega) _, set1_far hHeld6.2 (by omega) _⟩ (fun hHeld7 => ?_); clear hK K; refine wpAnyH_done (by kernel_rfl) ?_ _; refine OnlyN.normal ?_; gi_wp2; have hz5 := HG2.out.size; have hzX := HBX.out.size; simp only [World.size_alloc] at hz5 hzX; have hsame : ∀ k, k < V.heap.size → k ≠ ob → some k ≠ v.ownBlock → (w2.setCell ⟨ob, 0, none⟩ (.slice a9 (cs.length + 1) c9)).heap[k]? = V.heap[k]? := (fun k h1 h2 h3 => (Below.heap_setCell _ _ _ k h2).trans ((HG2.out.block k (by simp; omega) h3).trans (HBX.out.block k h1))); refine ⟨⟨by simp; omega, fun k o hk h0 ho => (hsame k (lt_blk h0) (by omega) (fun e => by obtain ⟨cur, hc⟩ := J2V.out.isCells e.symm; rw [h0] at hc; cases hc; cases ho)).trans h0⟩, ⟨by simp; omega, fun k hk ha hb => hsame k (by omega) ha (J2V.out.neBlk hk)⟩, _, heap_setCell_same _ _ _ _ _ _ HKO.out, cs ++ [(⟨(m : Int), z.id, na, nc, WS⟩ : Cu)], by simpa using HO2.out.setOther (by omega) _, ?_, ?_, by simp; omega, hb52.setCell (p := ⟨ob, 0, none⟩) (by show W5.heap.size ≤ ob; omega) _, by simp; omega⟩; (· exact fun y hy => ((((J3d.out.below HB15.out).snoc (m := (⟨(m : Int), z.id, na, nc, WS⟩ : Cu)) (HOw.out.mono hw7d)).below (below_box (.cells #[.int .i64 (m : Int), .int .i64 z.id, .slice na WS.length nc] 29))).kept ((J2d.out.below HB15.out).below (below_box (.cells #[.int .i64 (m : Int), .int .i64 z.id, .slice na WS.length nc] 29))) HG2.out y hy).setOther (by omega) _); (· exact Lib.hid (by unfold List.unattach; rw [says_step _ pre _ _ HCs.out, ← j4.out, List.map_append]; rfl))
          · go_simp
            refine hK.out _ _ ⟨hHeld2.1.trans ((below_box _).mono hHeld2.1.size), up_alloc hHeld2.2 _⟩ (fun hHeld3 => ?_)
            clear hK K
            (try simp only [Act.put, List.setIfInBounds_toArray, List.set_cons_zero, List.set_cons_succ])
            have hmo3 := keepE hmo2 (below_box (.cells #[.int .i64 (m : Int), .int .i64 z.id, .slice na WS.length nc] 29))
            (refine wpAnyH_call1 (i := 0) (o := ?_) (by kernel_rfl) ?_ (fun K hK => ?_); rotate_left 1; (· simp only [List.getElem?_toArray, List.getElem?_cons_succ, List.getElem?_cons_zero]; try rfl); go_simp)
            refine hK.out _ _ hHeld3 (fun hHeld4 => ?_)
            clear hK K hmo3
            (try simp only [Act.put, List.setIfInBounds_toArray, List.set_cons_zero, List.set_cons_succ]); have hsz15 := HB15.out.size; have hs7 := Nat.le_trans hw7d hsz15; (refine wpAnyH_call1 (i := 14) (o := ?_) (by kernel_rfl) ?_ (fun K hK => ?_); rotate_left 1; (· simp only [List.getElem?_toArray, List.getElem?_cons_succ, List.getElem?_cons_zero]; try rfl)); refine step_of rfl (oper_appR eltCu (.tmp 64) (.tmp 77) rfl w7.heap.size v cs rfl ((J2d.out.below HB15.out).below (below_box _)) _ _ _ [(⟨(m : Int), z.id, na, nc, WS⟩ : Cu)] rfl rfl (fun e => by cases e) (eltCu.new _ (⟨(m : Int), z.id, na, nc, WS⟩ : Cu) _ _ rfl) (by simp; omega) (by unfold maxLen; simp; omega) (by simp; omega) ?_); intro v2 w2 ho2 hg2; obtain ⟨a9, c9, e9, _, _⟩ := ho2.slAt; rw [show ((cs ++ [(⟨(m : Int), z.id, na, nc, WS⟩ : Cu)]).map Cu.cells).length = cs.length + 1 by simp] at e9; subst e9; have hlo := lt_blk JO.out; have hbd := lt_blk HBbd.out; have hko2 := (hg2.block ob (by simp; omega) (J2d.out.neBlk (by omega))).trans (up_alloc (blk_keep JO.out HB15.out) (.cells #[.int .i64 (m : Int), .int .i64 z.id, .slice na WS.length nc] 29)); have hkb2 := (hg2.block bb (by simp; omega) (fun e => by have := (J2V.out.lt _ e.symm).2; omega)).trans (up_alloc (blk_keep HBbd.out HB15.out) (.cells #[.int .i64 (m : Int), .int .i64 z.id, .slice na WS.length nc] 29)); have hbX := (HBVd.out.trans (HB15.out.mono HBVd.out.size)).trans ((below_box (.cells #[.int .i64 (m : Int), .int .i64 z.id, .slice na WS.length nc] 29)).mono (Nat.le_trans HBVd.out.size hsz15)); have hb52 := (j6.trans (hbX.mono j6.size)).grown hg2 (by simp; omega) (fun k e => by have := (J2V.out.lt k e).1; omega); refine hK.out _ _ ⟨hb52, hkb2⟩ (fun hHeld6 => ?_); clear hK K; (try simp only [Act.put, List.setIfInBounds_toArray, List.set_cons_zero, List.set_cons_succ]); have hcm := box_cells hko2; have hfm := box_free hko2; have hzm := lt_blk hko2; have HO2 := Lib.hid ho2; have HG2 := Lib.hid hg2; have HKO := Lib.hid hko2; have HBX := Lib.hid hbX; clear ho2 hg2 hko2 hkb2 hbX; (refine wpAnyH_call1 (i := 15) (o := ?_) (by kernel_rfl) ?_ (fun K hK => ?_); rotate_left 1; (· simp only [List.getElem?_toArray, List.getElem?_cons_succ, List.getElem?_cons_zero]; try rfl); go_simp); refine hK.out _ _ ⟨hb52.setCell (p := ⟨ob, 0, none⟩) (by show W5.heap.size ≤ ob; omega) _, set1_far hHeld6.2 (by omega) _⟩ (fun hHeld7 => ?_); clear hK K; refine wpAnyH_done (by kernel_rfl) ?_ _; refine OnlyN.normal ?_; gi_wp2; have hz5 := HG2.out.size; have hzX := HBX.out.size; simp only [World.size_alloc] at hz5 hzX; have hsame : ∀ k, k < V.heap.size → k ≠ ob → some k ≠ v.ownBlock → (w2.setCell ⟨ob, 0, none⟩ (.slice a9 (cs.length + 1) c9)).heap[k]? = V.heap[k]? := (fun k h1 h2 h3 => (Below.heap_setCell _ _ _ k h2).trans ((HG2.out.block k (by simp; omega) h3).trans (HBX.out.block k h1))); refine ⟨⟨by simp; omega, fun k o hk h0 ho => (hsame k (lt_blk h0) (by omega) (fun e => by obtain ⟨cur, hc⟩ := J2V.out.isCells e.symm; rw [h0] at hc; cases hc; cases ho)).trans h0⟩, ⟨by simp; omega, fun k hk ha hb => hsame k (by omega) ha (J2V.out.neBlk hk)⟩, _, heap_setCell_same _ _ _ _ _ _ HKO.out, cs ++ [(⟨(m : Int), z.id, na, nc, WS⟩ : Cu)], by simpa using HO2.out.setOther (by omega) _, ?_, ?_, by simp; omega, hb52.setCell (p := ⟨ob, 0, none⟩) (by show W5.heap.size ≤ ob; omega) _, by simp; omega⟩; (· exact fun y hy => ((((J3d.out.below HB15.out).snoc (m := (⟨(m : Int), z.id, na, nc, WS⟩ : Cu)) (HOw.out.mono hw7d)).below (below_box (.cells #[.int .i64 (m : Int), .int .i64 z.id, .slice na WS.length nc] 29))).kept ((J2d.out.below HB15.out).below (below_box (.cells #[.int .i64 (m : Int), .int .i64 z.id, .slice na WS.length nc] 29))) HG2.out y hy).setOther (by omega) _); (· exact Lib.hid (by unfold List.unattach; rw [says_step _ pre _ _ HCs.out, ← j4.out, List.map_append]; rfl))
    case hdone =>
      rintro D xs V hD hxs ⟨v, cs, j1, j2, j3, j4, j5, j6, j7⟩ hK
      have co := box_cells j1
      obtain ⟨a9, c9, rfl, hok9, hcu9⟩ := j3.cuAt j2
      have HQ := Lib.hid (And.intro hok9 hcu9)
      gi_wp2
      go_wp2
      refine ⟨by simp, .inl ⟨_, _, rfl, run_takeDeferred hK, ?_⟩⟩
      refine ⟨_, results_tmp2 rfl _ _ _, ?_⟩
      have hg := grownBy_putObj' V D (.deferred none)
      have hr : ∀ r, some D = some r → ∃ o : Obj, V.heap[r]? = some o ∧ o.isCells = false := fun r e => by cases e; exact ⟨_, hK, rfl⟩
      have hbf := (HB.out.trans (j6.mono HB.out.size)).grown hg (Nat.le_trans HB.out.size j6.size) (fun k e => by cases e; omega)
      exact ⟨a9, c9, cs, by simp, HQ.out.1, ⟨HQ.out.2.at_.keptRow hg hr, fun m hm => SlAt.keptRow (HQ.out.2.notes m hm) hg hr, HQ.out.2.ok⟩, by rw [j4.out, hxs], hbf⟩
    case hstop =>
      rintro D c pre W _ _ h _
      exact h.elim
end Go.Proofs.YtppjbnnnppffaaaGreatDoor


/- cue.Shows's predicate; slices.ContainsFunc over cues: walked. -/
namespace Go.Proofs.YtppjbnnnppffaaaGreatDoor
set_option linter.unusedSimpArgs false
set_option linter.unusedVariables false
open Go.RowKit Go.Sort Go.Shelf

def CuV (c : Cu) : Value := .agg #[.int .i64 c.measure, .int .i64 c.part, .slice c.na c.notes.length c.ncap]
set_option maxRecDepth 100000 in
set_option maxHeartbeats 4000000 in
theorem IndexC_any (g : Nat) (caps : Array Value) (eg : ∀ args w, (callFunc g args).run Tryz.prog w = .ok (.enter g args) w) (B : Nat) (p : Cu → Bool) (a : Option Addr) (cap : Nat) (ds : List Cu) (w : World) (hl : ds.length ≤ 100000) (hp : PredO CuV g caps p ds B w) (hB : B ≤ w.heap.size) (hm : CuAt w a ds) :
    Calls Tryz.prog 112 #[.slice a ds.length cap, .func (.func g) #[] caps] w fun e w' => e = .returned (.int .i64 (idxO p ds)) ∧ RowKit.Below w.heap.size w w' := by
  have HM := Lib.hid hm; have HP := Lib.hid hp
  clear hm hp
  go_enter Tryz.func112, Tryz.ntmps112
  go_wp2
  go_loopw [8] (fun i wr => ∃ k : Nat, k ≤ ds.length ∧ i = .int .i64 k ∧ (∀ j (hj : j < ds.length), j < k → p ds[j] = false) ∧ RowKit.Below w.heap.size w wr) (fun i _ => ds.length - (intOf i).toNat)
  case atStart => exact ⟨0, Nat.zero_le _, rfl, fun j hj h => by omega, RowKit.Below.refl _ _⟩
  case round =>
    obtain ⟨k, hk, rfl, hall, hb⟩ := hrel
    have HA := Lib.hid hall; have HB := Lib.hid hb
    clear hall hb
    by_cases hlt : k < ds.length
    · obtain ⟨b, off, rfl, _, e0, e1, e2⟩ := HM.out.get k hlt
      have g0 := keepE e0 HB.out; have g1 := keepE e1 HB.out; have g2 := keepE e2 HB.out
      clear e0 e1 e2
      have HPk := Lib.hid (HP.out ds[k] (List.getElem_mem _) wr (HB.out.mono hB))
      have HT := Lib.hid (fun h : p ds[k] = true => idxO_hit hlt h HA.out)
      have HF := Lib.hid (fun h : p ds[k] = false => (fun j (hj : j < ds.length) (hjk : j < k + 1) => if e : j = k then by subst e; exact h else HA.out j hj (by omega) : ∀ j (hj : j < ds.length), j < k + 1 → p ds[j] = false))
      generalize ds[k] = d at *
      have hcall := HPk.out
      unfold CuV at hcall
      cases hpd : p d
      · rw [hpd] at hcall
        go_wp2_with (go_at_fn g; refine hcall.mono ?_; rintro e w' ⟨rfl, hb'⟩; replace HB := Lib.hid (HB.out.trans (hb'.mono HB.out.size)))
        go_roundw
        case rel => exact ⟨k + 1, by omega, by go_num, HF.out hpd, HB.out⟩
        case measure => simp [intOf]; omega
      · rw [hpd] at hcall
        have HT2 := Lib.hid (HT.out hpd)
        go_wp2_with (go_at_fn g; refine hcall.mono ?_; rintro e w' ⟨rfl, hb'⟩; replace HB := Lib.hid (HB.out.trans (hb'.mono HB.out.size)))
        go_ret
        exact ⟨ret_int HT2.out.symm, HB.out⟩
    · have HT2 := Lib.hid (idxO_miss fun j hj => HA.out j hj (by omega))
      go_wp2
      go_ret
      exact ⟨ret_int HT2.out.symm, HB.out⟩
set_option maxHeartbeats 1000000 in
theorem ContainsC_any (g : Nat) (caps : Array Value) (eg : ∀ args w, (callFunc g args).run Tryz.prog w = .ok (.enter g args) w) (B : Nat) (p : Cu → Bool) (a : Option Addr) (cap : Nat) (ds : List Cu) (w : World) (hl : ds.length ≤ 100000) (hp : PredO CuV g caps p ds B w) (hB : B ≤ w.heap.size) (hm : CuAt w a ds) :
    Calls Tryz.prog 57 #[.slice a ds.length cap, .func (.func g) #[] caps] w fun e w' => e = .returned (.bool (ds.any p)) ∧ RowKit.Below w.heap.size w w' := by
  have HI := Lib.hid (IndexC_any g caps eg B p a cap ds w hl hp hB hm)
  have HD := Lib.hid (idxO_any p ds)
  clear hm hp
  generalize idxO p ds = I at *
  go_enter Tryz.func57, Tryz.ntmps57
  go_wp2_with (fail)
  refine HI.out.mono ?_
  rintro e w2 ⟨rfl, hb⟩
  have HB := Lib.hid hb
  go_wp2
  go_ret
  exact ⟨ret_bool HD.out, HB.out⟩
theorem enters_shows1 : ∀ args w, (callFunc 55 args).run Tryz.prog w = .ok (.enter 55 args) w := enters_of Tryz.func55 (by kernel_rfl) rfl
set_option maxRecDepth 100000 in
set_option maxHeartbeats 4000000 in
theorem cshows1_any (x y : Cu) (yb : Nat) (w : World) (hl : x.notes.length ≤ 100000) (hl' : y.notes.length ≤ 100000) (hx : WrAt w x.na x.notes) (hy : WrAt w y.na y.notes) (hyb : w.heap[yb]? = some (.cells #[.int .i64 y.measure, .int .i64 y.part, .slice y.na y.notes.length y.ncap] 29)) :
    Calls Tryz.prog 55 #[.agg #[.int .i64 x.measure, .int .i64 x.part, .slice x.na x.notes.length x.ncap], .pointer (some ⟨yb, 0, none⟩)] w fun e w' => e = .returned (.bool (decide (x.says = y.says))) ∧ Below w.heap.size w w' := by
  have HX1 := Lib.hid (heap_alloc_new w (.cells #[.int .i64 x.measure, .int .i64 x.part, .slice x.na x.notes.length x.ncap] 29))
  have HX2 := Lib.hid (up_alloc hyb (.cells #[.int .i64 x.measure, .int .i64 x.part, .slice x.na x.notes.length x.ncap] 29))
  have HB := Lib.hid ((Below.refl w.heap.size w).alloc (Nat.le_refl _) (.cells #[.int .i64 x.measure, .int .i64 x.part, .slice x.na x.notes.length x.ncap] 29))
  have HS := Lib.hid (fun W (hb : Below w.heap.size w W) => EqualW_any x.na y.na x.ncap y.ncap x.notes y.notes W hl hl' (hx.below hb) (hy.below hb))
  have HR := Lib.hid (says_iff x y)
  clear hx hy hyb
  generalize decide (x.says = y.says) = R at *
  generalize decide (x.notes = y.notes) = D at *
  go_enter Tryz.func55, Tryz.ntmps55
  go_upto_region 1 with (fail)
  generalize w.alloc (.cells #[.int .i64 x.measure, .int .i64 x.part, .slice x.na x.notes.length x.ncap] 29) = W at *
  have hc1 := box_cells HX1.out; have hc2 := box_cells HX2.out
  cases h1 : x.measure == y.measure
  · have h1' : decide (x.measure = y.measure) = false := by simpa using h1
    rw [h1'] at HR
    clear h1'
    go_wp2
    go_ret
    exact ⟨ret_bool HR.out.symm, HB.out⟩
  have h1' : decide (x.measure = y.measure) = true := by simpa using h1
  rw [h1'] at HR
  clear h1'
  cases h2 : x.part == y.part
  · have h2' : decide (x.part = y.part) = false := by simpa using h2
    rw [h2'] at HR
    clear h2'
    go_wp2
    go_ret
    exact ⟨ret_bool HR.out.symm, HB.out⟩
  have h2' : decide (x.part = y.part) = true := by simpa using h2
  rw [h2'] at HR
  clear h2'
  go_wp2_with (go_at_call 56; refine (HS.out _ HB.out).mono ?_; rintro e w2 ⟨rfl, hb⟩; (try replace hb := drewB hb); replace HB := Lib.hid (HB.out.trans (hb.mono HB.out.size)); (try (replace HX1 := Lib.hid (blk_keep HX1.out hb); replace hc1 := box_cells HX1.out; replace hf1 := box_free HX1.out; replace hz1 := lt_blk HX1.out)); (try (replace HX2 := Lib.hid (blk_keep HX2.out hb); replace hc2 := box_cells HX2.out; replace hf2 := box_free HX2.out; replace hz2 := lt_blk HX2.out)); (try (replace HX10 := Lib.hid (blk_keep HX10.out hb); replace hc10 := box_cells HX10.out; replace hf10 := box_free HX10.out; replace hz10 := lt_blk HX10.out)); clear hb)
  go_ret
  exact ⟨ret_bool (by rw [HR.out]; simp), HB.out⟩
end Go.Proofs.YtppjbnnnppffaaaGreatDoor


/- cue.Shows: walked. -/
namespace Go.Proofs.YtppjbnnnppffaaaGreatDoor
set_option linter.unusedSimpArgs false
set_option linter.unusedVariables false
open Go.RowKit Go.Sort Go.Shelf

set_option maxRecDepth 100000 in
set_option maxHeartbeats 4000000 in
theorem CShows_any (s : Sc) (q : Sp) (part : Int) (c : Cu) (w : World) (hf : ScFew s) (hs : ScAt w s q) (hE : Env w) (hc : c.notes.length ≤ 100000) (hw : WrAt w c.na c.notes) :
    Calls Tryz.prog 18 #[.agg #[.int .i64 s.version, .slice q.ab s.bars.length q.cb, .slice q.ap s.parts.length q.cp, .slice q.an s.notes.length q.cn], .int .i64 part, .agg #[.int .i64 c.measure, .int .i64 c.part, .slice c.na c.notes.length c.ncap]] w fun e w' => e = .returned (.tuple #[.bool (showsR s part c.says).1, .int .i64 (showsR s part c.says).2]) ∧ Below w.heap.size w w' := by
  obtain ⟨ab, cb, ap, cp, an, cn⟩ := q
  obtain ⟨x1, x2, hb⟩ := box2 (w := w) (A := .cells #[.int .i64 s.version, .slice (⟨ab, cb, ap, cp, an, cn⟩ : Sp).ab s.bars.length (⟨ab, cb, ap, cp, an, cn⟩ : Sp).cb, .slice (⟨ab, cb, ap, cp, an, cn⟩ : Sp).ap s.parts.length (⟨ab, cb, ap, cp, an, cn⟩ : Sp).cp, .slice (⟨ab, cb, ap, cp, an, cn⟩ : Sp).an s.notes.length (⟨ab, cb, ap, cp, an, cn⟩ : Sp).cn] 26) (B := .cells #[.int .i64 c.measure, .int .i64 c.part, .slice c.na c.notes.length c.ncap] 29) (Below.refl _ _)
  have HX1 := Lib.hid x1; have HX2 := Lib.hid x2; have HB := Lib.hid hb; clear x1 x2 hb
  have HC := Lib.hid (fun W (hb : Below w.heap.size w W) => CCues_any s (⟨ab, cb, ap, cp, an, cn⟩ : Sp) part 1 W hf (hs.below hb) (hE.below hb))
  have HFe := Lib.hid (fun (cs : List Cu) e => cuesR_few hf (part := part) (after := 1) (cs := cs) e)
  have HW := Lib.hid hw
  have HR := Lib.hid (show showsR s part c.says = (decide ((cuesR s part 1).2 = 0) && (cuesR s part 1).1.any fun x => decide (x = c.says), (cuesR s part 1).2) from rfl)
  clear hf hs hw hE
  dsimp only at *
  generalize cuesR s part 1 = R at *
  obtain ⟨l, er⟩ := R
  generalize showsR s part c.says = T at *
  obtain ⟨T1, T2⟩ := T
  dsimp only at *
  by_cases her : er = 0
  case neg =>
    have hd : (er == 0) = false := by simpa using her
    have HT := Lib.hid (show T1 = false ∧ T2 = er from by have := HR.out; simp [her] at this; exact this)
    clear her HR
    go_enter Tryz.func18, Tryz.ntmps18
    go_upto_region 1 with (fail)
    generalize (w.alloc (.cells #[.int .i64 s.version, .slice (⟨ab, cb, ap, cp, an, cn⟩ : Sp).ab s.bars.length (⟨ab, cb, ap, cp, an, cn⟩ : Sp).cb, .slice (⟨ab, cb, ap, cp, an, cn⟩ : Sp).ap s.parts.length (⟨ab, cb, ap, cp, an, cn⟩ : Sp).cp, .slice (⟨ab, cb, ap, cp, an, cn⟩ : Sp).an s.notes.length (⟨ab, cb, ap, cp, an, cn⟩ : Sp).cn] 26)).alloc (.cells #[.int .i64 c.measure, .int .i64 c.part, .slice c.na c.notes.length c.ncap] 29) = W at *
    have hc1 := box_cells HX1.out; have hc2 := box_cells HX2.out
    go_wp2_with (go_at_call 15; refine (HC.out _ HB.out).mono ?_; rintro e w2 ⟨a2, c2, cs, rfl, hok, hcu, hsy, hb⟩; clear hok hcu hsy; (try replace hb := drewB hb); replace HB := Lib.hid (HB.out.trans (hb.mono HB.out.size)); (try (replace HX1 := Lib.hid (blk_keep HX1.out hb); replace hc1 := box_cells HX1.out; replace hf1 := box_free HX1.out; replace hz1 := lt_blk HX1.out)); (try (replace HX2 := Lib.hid (blk_keep HX2.out hb); replace hc2 := box_cells HX2.out; replace hf2 := box_free HX2.out; replace hz2 := lt_blk HX2.out)); (try (replace HX10 := Lib.hid (blk_keep HX10.out hb); replace hc10 := box_cells HX10.out; replace hf10 := box_free HX10.out; replace hz10 := lt_blk HX10.out)); clear hb)
    go_ret2
    refine ⟨?_, HB.out⟩
    rw [HT.out.1, HT.out.2]; rfl
  subst her
  have HT := Lib.hid (show T1 = (l.any fun x => decide (x = c.says)) ∧ T2 = 0 from by have := HR.out; simpa using this)
  clear HR
  go_enter Tryz.func18, Tryz.ntmps18
  go_upto_region 1 with (fail)
  generalize (w.alloc (.cells #[.int .i64 s.version, .slice (⟨ab, cb, ap, cp, an, cn⟩ : Sp).ab s.bars.length (⟨ab, cb, ap, cp, an, cn⟩ : Sp).cb, .slice (⟨ab, cb, ap, cp, an, cn⟩ : Sp).ap s.parts.length (⟨ab, cb, ap, cp, an, cn⟩ : Sp).cp, .slice (⟨ab, cb, ap, cp, an, cn⟩ : Sp).an s.notes.length (⟨ab, cb, ap, cp, an, cn⟩ : Sp).cn] 26)).alloc (.cells #[.int .i64 c.measure, .int .i64 c.part, .slice c.na c.notes.length c.ncap] 29) = W at *
  have hc1 := box_cells HX1.out; have hc2 := box_cells HX2.out
  go_upto_region 2 with (go_at_call 15; refine (HC.out _ HB.out).mono ?_; rintro e w2 ⟨a2, c2, cs, rfl, hok, hcu, hsy, hb⟩; have HCu := Lib.hid hcu; have HSy := Lib.hid hsy; clear hok hcu hsy; (try replace hb := drewB hb); replace HB := Lib.hid (HB.out.trans (hb.mono HB.out.size)); (try (replace HX1 := Lib.hid (blk_keep HX1.out hb); replace hc1 := box_cells HX1.out; replace hf1 := box_free HX1.out; replace hz1 := lt_blk HX1.out)); (try (replace HX2 := Lib.hid (blk_keep HX2.out hb); replace hc2 := box_cells HX2.out; replace hf2 := box_free HX2.out; replace hz2 := lt_blk HX2.out)); (try (replace HX10 := Lib.hid (blk_keep HX10.out hb); replace hc10 := box_cells HX10.out; replace hf10 := box_free HX10.out; replace hz10 := lt_blk HX10.out)); clear hb)
  have HHs := Lib.hid (show Calls Tryz.prog 57 #[.slice a2 cs.length c2, .func (.func 55) #[] #[.pointer (some ⟨w.heap.size + 1, 0, none⟩)]] w2 (fun e w' => e = .returned (.bool T1) ∧ Below w2.heap.size w2 w') from by
    obtain ⟨h1, h2⟩ := HFe.out cs HSy.out
    have := ContainsC_any 55 #[.pointer (some ⟨w.heap.size + 1, 0, none⟩)] enters_shows1 w2.heap.size (fun x => decide (x.says = c.says)) a2 c2 cs w2 (by omega) (fun d hd W hb => cshows1_any d c (w.heap.size + 1) W (by have := h2 d hd; omega) hc ((HCu.out.below hb).notes d hd) ((HW.out.below HB.out).below hb) (blk_keep HX2.out hb)) (Nat.le_refl _) HCu.out
    rw [show T1 = (cs.any fun y => decide (y.says = c.says)) by rw [HT.out.1, ← HSy.out, List.any_map]; rfl]
    exact this)
  go_wp2_with (go_at_call 57; refine HHs.out.mono ?_; rintro e w3 ⟨rfl, hb⟩; (try replace hb := drewB hb); replace HB := Lib.hid (HB.out.trans (hb.mono HB.out.size)); (try (replace HX1 := Lib.hid (blk_keep HX1.out hb); replace hc1 := box_cells HX1.out; replace hf1 := box_free HX1.out; replace hz1 := lt_blk HX1.out)); (try (replace HX2 := Lib.hid (blk_keep HX2.out hb); replace hc2 := box_cells HX2.out; replace hf2 := box_free HX2.out; replace hz2 := lt_blk HX2.out)); (try (replace HX10 := Lib.hid (blk_keep HX10.out hb); replace hc10 := box_cells HX10.out; replace hf10 := box_free HX10.out; replace hz10 := lt_blk HX10.out)); clear hb)
  go_ret2
  refine ⟨?_, HB.out⟩
  rw [HT.out.2]; rfl
end Go.Proofs.YtppjbnnnppffaaaGreatDoor
