
/- Slices that a call makes for itself: rows of cells that it owns, and one law for append onto them; no condition beside the bounds named in each. -/
import Derived.Test.YtfppijjjaleiaaaDoorLib
import Derived.Laws.AppendOwnNone
import Derived.Maps.AppendAt
namespace Go.Proofs.YtfppijjjaleiaaaDoor
set_option linter.unusedSimpArgs false
set_option linter.unusedVariables false
open Go.RowKit Go.Sort

theorem flat_get (rows : List (List Value)) (sz : Nat) (h : ∀ r ∈ rows, r.length = sz) (i j : Nat) (r : List Value) (v : Value) (hr : rows[i]? = some r) (hv : r[j]? = some v) : rows.flatten[i * sz + j]? = some v := by
  induction rows generalizing i with
  | nil => simp at hr
  | cons x rows ih =>
    have hx := h x (by simp)
    cases i with
    | zero =>
      simp at hr; subst hr
      rw [List.flatten_cons, Nat.zero_mul, Nat.zero_add, List.getElem?_append_left (List.getElem?_eq_some_iff.1 hv).1]; exact hv
    | succ i =>
      have hr' : rows[i]? = some r := by simpa using hr
      rw [List.flatten_cons, List.getElem?_append_right (by rw [hx, Nat.succ_mul]; omega), hx, show (i + 1) * sz + j - sz = i * sz + j by rw [Nat.succ_mul]; omega]
      exact ih (fun r hm => h r (by simp [hm])) i hr'

theorem flat_inv (rows : List (List Value)) (sz : Nat) (h : ∀ r ∈ rows, r.length = sz) (k : Nat) (u : Value) (hk : rows.flatten[k]? = some u) : ∃ i j r, rows[i]? = some r ∧ r[j]? = some u ∧ k = i * sz + j := by
  induction rows generalizing k with
  | nil => simp at hk
  | cons x rows ih =>
    have hx := h x (by simp)
    rw [List.flatten_cons] at hk
    by_cases hlt : k < x.length
    · rw [List.getElem?_append_left hlt] at hk
      exact ⟨0, k, x, by simp, hk, by omega⟩
    · rw [List.getElem?_append_right (by omega)] at hk
      obtain ⟨i, j, r, h1, h2, h3⟩ := ih (fun r hm => h r (by simp [hm])) _ hk
      exact ⟨i + 1, j, r, by simpa using h1, h2, by rw [Nat.succ_mul]; omega⟩

theorem flat_len (rows : List (List Value)) (sz : Nat) (h : ∀ r ∈ rows, r.length = sz) : rows.flatten.length = rows.length * sz := by
  induction rows with
  | nil => simp
  | cons x rows ih => rw [List.flatten_cons, List.length_append, ih (fun r hm => h r (by simp [hm])), h x (by simp), List.length_cons, Nat.succ_mul]; omega

/-- The value v is a slice of the call's own (blocks from B on), of these rows. -/
structure OwnR (w : World) (B : Nat) (E : TypeId) (sz : Nat) (v : Value) (rows : List (List Value)) : Prop where
  wide : ∀ r ∈ rows, r.length = sz
  own : w.ownsRow B E sz v rows.length rows.flatten

theorem OwnR.nil (w : World) (B : Nat) (E : TypeId) (sz : Nat) : OwnR w B E sz (.slice none 0 0) [] := ⟨by simp, World.ownsRow_nil w B E sz⟩

theorem ownsRow_below {w w' : World} {B n : Nat} {E : TypeId} {sz : Nat} {v : Value} {xs : List Value} (h : w.ownsRow B E sz v n xs) (hb : Below w.heap.size w w') : w'.ownsRow B E sz v n xs := by
  obtain ⟨h1, h2⟩ := h
  refine ⟨h1, ?_⟩
  rcases h2 with h2 | ⟨g, cap, cur, e, hg, hc, h3⟩
  · exact .inl h2
  · exact .inr ⟨g, cap, cur, e, hg, (hb.block g (Array.getElem?_eq_some_iff.1 hc).1).trans hc, h3⟩
theorem OwnR.below {w w' : World} {B : Nat} {E : TypeId} {sz : Nat} {v : Value} {rows : List (List Value)} (h : OwnR w B E sz v rows) (hb : Below w.heap.size w w') : OwnR w' B E sz v rows := ⟨h.wide, ownsRow_below h.own hb⟩
theorem OwnR.kept {w w' : World} {B : Nat} {E : TypeId} {sz : Nat} {v : Value} {rows : List (List Value)} {row : Option Nat} (h : OwnR w B E sz v rows) (hg : w.grownBy w' row) (hne : v.ownBlock = none ∨ v.ownBlock ≠ row) : OwnR w' B E sz v rows := ⟨h.wide, h.own.kept hg hne⟩
theorem OwnR.lt {w : World} {B : Nat} {E : TypeId} {sz : Nat} {v : Value} {rows : List (List Value)} (h : OwnR w B E sz v rows) : ∀ k, v.ownBlock = some k → B ≤ k ∧ k < w.heap.size := h.own.lt

/-- What is owned lies in memory as a slice. -/
theorem OwnR.slAt {w : World} {B : Nat} {E : TypeId} {sz : Nat} {v : Value} {rows : List (List Value)} (h : OwnR w B E sz v rows) :
    ∃ a cap, v = .slice a rows.length cap ∧ SlOk a rows.length cap ∧ SlAt w a sz rows := by
  obtain ⟨hw, hl, h2⟩ := h
  rcases h2 with ⟨rfl, hn⟩ | ⟨g, cap, cur, rfl, hB, hc, hle, _, hsz, htk⟩
  · obtain rfl : rows = [] := List.length_eq_zero_iff.1 hn
    exact ⟨none, 0, rfl, SlOk.nil, SlAt.nil _ _ _⟩
  · refine ⟨_, cap, rfl, ⟨hle, (fun e => by cases e), (fun ad e => by cases e; rfl)⟩, fun i r hr => ⟨g, 0, rfl, (Array.getElem?_eq_some_iff.1 hc).1, hw r (List.mem_of_getElem? hr), fun j u hu => ?_⟩⟩
    have hf := flat_get rows sz hw i j r u hr hu
    rw [← htk, List.getElem?_take] at hf
    split at hf
    · rw [World.cell?, hc, Nat.zero_add]
      simpa using hf
    · cases hf

theorem SlAt.flat {w : World} {sz : Nat} {rows : List (List Value)} {b off : Nat} (h : SlAt w (some ⟨b, off, none⟩) sz rows) : ∀ j u, rows.flatten[j]? = some u → w.cell? ((⟨b, off, none⟩ : Addr).add j) = some u := by
  intro k u hk
  have hw : ∀ r ∈ rows, r.length = sz := fun r hr => by
    obtain ⟨i, hi⟩ := List.getElem?_of_mem hr
    obtain ⟨_, _, _, _, hl, _⟩ := h i r hi
    exact hl
  obtain ⟨i, j, r, h1, h2, h3⟩ := flat_inv rows sz hw k u hk
  obtain ⟨b', off', e, _, _, hc⟩ := h i r h1
  cases e
  have := hc j u h2
  subst h3
  unfold Addr.add
  split
  · rename_i h0
    have e : off + i * sz + j = off := by omega
    rw [e] at this; exact this
  · rw [show off + (i * sz + j) = off + i * sz + j by omega]; exact this

theorem oneCell_flat {rows : List (List Value)} (h : ∀ r ∈ rows, ∀ u ∈ r, u.oneCell' = true) : ∀ u ∈ rows.flatten, u.oneCell' = true := fun u hu => by
  obtain ⟨r, hr, hur⟩ := List.mem_flatten.1 hu
  exact h r hr u hur

/-- append onto a slice of the call's own, from whatever slice lies in memory. -/
theorem wpList_appendR {P : Program} {w : World} {ops : Array Oper} {rest : List Oper} {o : Oper} {a : Act} {Q : Exit → Act → World → Prop} (hgd : o.guard = none) (s x : Operand) (t : TypeId)
    (ho : o.op = .call { callee := .builtin .append, args := #[s, x], argTypes := #[t, t] })
    (B : Nat) (E : TypeId) (z : Value) (sz bytes : Nat) (ht : P.underlying t = some (.slice E)) (hinfo : (P.info? E).map (fun i => (i.zero, i.size, i.bytes)) = some (some z, sz, bytes))
    (hzs : z.cells.size = sz) (hsz : 0 < sz)
    (v : Value) (rows : List (List Value)) (hs : a.eval s = v) (hown : OwnR w B E sz v rows)
    (ad : Option Addr) (m c : Nat) (news : List (List Value)) (hx : a.eval x = .slice ad m c) (hm : m = news.length) (hc0 : ad = none → c = 0) (hnews : SlAt w ad sz news) (h1 : ∀ r ∈ news, ∀ u ∈ r, u.oneCell' = true)
    (hlen : rows.length + news.length ≤ 1048576) (hbytes : bytes ≤ 1048576) (hbase : B ≤ w.heap.size)
    (h : ∀ v' w', OwnR w' B E sz v' (rows ++ news) → w.grownBy w' v.ownBlock → wpList P ops Q rest (a.put o.dst v') w') : wpList P ops Q (o :: rest) a w := by
  obtain ⟨i, hi, hz0, hz1, hz2⟩ := info_parts hinfo
  have hw : ∀ r ∈ news, r.length = sz := fun r hr => by
    obtain ⟨k, hk⟩ := List.getElem?_of_mem hr
    obtain ⟨_, _, _, _, hl, _⟩ := hnews k r hk
    exact hl
  have hww : ∀ r ∈ rows ++ news, r.length = sz := fun r hr => by
    rcases List.mem_append.1 hr with hr | hr
    · exact hown.wide r hr
    · exact hw r hr
  subst hm
  cases ad with
  | none =>
    have hn : news = [] := by
      cases news with
      | nil => rfl
      | cons r news => obtain ⟨_, _, e, _⟩ := hnews 0 r rfl; cases e
    subst hn
    obtain rfl := hc0 rfl
    refine wpList_append_own_none hgd s x t ho B E i sz ht hi v rows.length rows.flatten hs hown.own hx (h v w (by rw [List.append_nil]; exact hown) (World.grownBy.refl w _))
  | some ad =>
    have hcell : ∀ j u, news.flatten[j]? = some u → w.cell? (ad.add j) = some u := by
      intro j u hj
      obtain ⟨i', j', r, g1, _, _⟩ := flat_inv news sz hw j u hj
      obtain ⟨b, off, e, _⟩ := hnews i' r g1
      cases e
      exact hnews.flat j u hj
    refine wpList_append_own w hgd s x t ho B E i z sz bytes ht hi hz0 hz1 hz2 hzs hsz v rows.length rows.flatten hs hown.own ad news.length c news.flatten hx (flat_len news sz hw) hcell (oneCell_flat h1) (by unfold maxLen; omega)
      (Nat.le_trans (Nat.mul_le_mul hlen hbytes) (by decide)) hbase fun v' w' ho' hg _ => h v' w' ⟨hww, by rw [List.length_append, List.flatten_append]; exact ho'⟩ hg

/-- A new block of some rows (what a literal of a slice lays). -/
theorem SlAt.new (w : World) (cs : List Value) (E : TypeId) (sz : Nat) (rows : List (List Value)) (hw : ∀ r ∈ rows, r.length = sz) (hf : rows.flatten = cs) : SlAt (w.alloc (.cells cs.toArray E)) (some ⟨w.heap.size, 0, none⟩) sz rows := fun i r hr =>
  ⟨w.heap.size, 0, rfl, by simp, hw r (List.mem_of_getElem? hr), fun j u hu => by
    have := flat_get rows sz hw i j r u hr hu
    have hn := heap_alloc_new w (.cells cs.toArray E)
    simp only [World.cell?, hn, Nat.zero_add]
    rw [← hf]
    simpa using this⟩

/-- What a call says that hands back a slice which nobody else changes. -/
def RetSl (sz : Nat) (rows : List (List Value)) (w : World) (e : Ending) (w' : World) : Prop :=
  ∃ a cap, e = .returned (.slice a rows.length cap) ∧ SlOk a rows.length cap ∧ SlAt w' a sz rows ∧ Below w.heap.size w w'

/-- The same with an error number beside. -/
def RetSlI (sz : Nat) (rows : List (List Value)) (err : Int) (w : World) (e : Ending) (w' : World) : Prop :=
  ∃ a cap, e = .returned (.tuple #[.slice a rows.length cap, .int .i64 err]) ∧ SlOk a rows.length cap ∧ SlAt w' a sz rows ∧ Below w.heap.size w w'
theorem RetSlI.none {sz : Nat} {err : Int} {w w' : World} (hb : Below w.heap.size w w') : RetSlI sz [] err w (.returned (.tuple #[.slice none 0 0, .int .i64 err])) w' := ⟨_, _, rfl, SlOk.nil, SlAt.nil _ _ _, hb⟩

/-- What append wants to know of an element type: T the slice's type, E the element's, f the cells of an element. -/
structure Elt (P : Program) (T E : TypeId) (sz bytes : Nat) {α : Type} (f : α → List Value) : Prop where
  ty : P.underlying T = some (.slice E)
  info : ∃ z, (P.info? E).map (fun i => (i.zero, i.size, i.bytes)) = some (some z, sz, bytes) ∧ z.cells.size = sz
  pos : 0 < sz
  small : bytes ≤ 1048576
  len : ∀ x, (f x).length = sz
  one : ∀ x, ∀ u ∈ f x, u.oneCell' = true

/-- append, said of elements: l is what the call has collected, news what is appended. -/
theorem appE {P : Program} {w : World} {ops : Array Oper} {rest : List Oper} {o : Oper} {a : Act} {Q : Exit → Act → World → Prop} {T E : TypeId} {sz bytes : Nat} {α : Type} {f : α → List Value} (he : Elt P T E sz bytes f)
    (hgd : o.guard = none) (s x : Operand) (ho : o.op = .call { callee := .builtin .append, args := #[s, x], argTypes := #[T, T] })
    (B : Nat) (v : Value) (l : List α) (hs : a.eval s = v) (hown : OwnR w B E sz v (l.map f))
    (ad : Option Addr) (m c : Nat) (news : List α) (hx : a.eval x = .slice ad m c) (hm : m = news.length) (hc0 : ad = none → c = 0) (hnews : SlAt w ad sz (news.map f))
    (hlen : l.length + news.length ≤ 1048576) (hbase : B ≤ w.heap.size)
    (h : ∀ v' w', OwnR w' B E sz v' ((l ++ news).map f) → w.grownBy w' v.ownBlock → wpList P ops Q rest (a.put o.dst v') w') : wpList P ops Q (o :: rest) a w := by
  obtain ⟨z, hi, hz⟩ := he.info
  exact wpList_appendR hgd s x T ho B E z sz bytes he.ty hi hz he.pos v (l.map f) hs hown ad m c (news.map f) hx (by rw [List.length_map]; exact hm) hc0 hnews
    (fun r hr u hu => by obtain ⟨y, _, rfl⟩ := List.mem_map.1 hr; exact he.one y u hu) (by rw [List.length_map, List.length_map]; exact hlen) he.small hbase
    (fun v' w' h1 h2 => h v' w' (by rw [List.map_append]; exact h1) h2)

theorem Elt.new {P : Program} {T E : TypeId} {sz bytes : Nat} {α : Type} {f : α → List Value} (he : Elt P T E sz bytes f) (w : World) (x : α) (cs : List Value) (E' : TypeId) (hc : cs = f x) : SlAt (w.alloc (.cells cs.toArray E')) (some ⟨w.heap.size, 0, none⟩) sz ([x].map f) := by
  subst hc
  exact SlAt.new w (f x) E' sz _ (by simp [he.len]) (by simp)

theorem below_grown {w0 w w' : World} {v : Value} {E : TypeId} {sz : Nat} {rows : List (List Value)} {B : Nat} (hb : Below B w0 w) (ho : OwnR w B E sz v rows) (hB : B ≤ w.heap.size) (hg : w.grownBy w' v.ownBlock) : Below B w0 w' :=
  hb.grown hg hB fun k hk => (ho.lt k hk).1

/-- A slice of integers. -/
def inRow (n : Int) : List Value := [.int .i64 n]
def InAt (w : World) (a : Option Addr) (l : List Int) : Prop := SlAt w a 1 (l.map inRow)
theorem InAt.get {w : World} {a : Option Addr} {l : List Int} (h : InAt w a l) (i : Nat) (hi : i < l.length) : ∃ b off, a = some ⟨b, off, none⟩ ∧ w.cell? ⟨b, off + i, none⟩ = some (.int .i64 l[i]) := by
  obtain ⟨b, off, e, _, _, hc⟩ := h i (inRow l[i]) (by simp [List.getElem?_eq_getElem hi])
  have := hc 0 _ rfl
  rw [Nat.mul_one, Nat.add_zero] at this
  exact ⟨b, off, e, this⟩
theorem InAt.below {w w' : World} {a : Option Addr} {l : List Int} (h : InAt w a l) (hb : Below w.heap.size w w') : InAt w' a l := SlAt.below h hb
theorem InAt.take' {w : World} {a : Option Addr} {l : List Int} (h : InAt w a l) (k : Nat) : InAt w a (l.take k) := by
  unfold InAt at *; rw [List.map_take]; exact h.take k
theorem SlAt.drop {w : World} {b off : Nat} {sz : Nat} {rows : List (List Value)} (h : SlAt w (some ⟨b, off, none⟩) sz rows) (k : Nat) : SlAt w (some ⟨b, off + k * sz, none⟩) sz (rows.drop k) := fun i r hr => by
  rw [List.getElem?_drop] at hr
  obtain ⟨b', o', e, h1, h2, h3⟩ := h _ r hr
  cases e
  exact ⟨b, off + k * sz, rfl, h1, h2, fun j v hv => by rw [show off + k * sz + i * sz + j = off + (k + i) * sz + j by rw [Nat.add_mul]; omega]; exact h3 j v hv⟩
theorem InAt.drop' {w : World} {b off : Nat} {l : List Int} (h : InAt w (some ⟨b, off, none⟩) l) (k : Nat) : InAt w (some ⟨b, off + k, none⟩) (l.drop k) := by
  have := SlAt.drop h k
  rw [Nat.mul_one] at this
  unfold InAt at *; rw [List.map_drop]; exact this
theorem OwnR.retSlI {w w' : World} {B : Nat} {E : TypeId} {sz : Nat} {v : Value} {rows rows' : List (List Value)} {err : Int} (h : OwnR w' B E sz v rows) (e : rows = rows') (hb : Below w.heap.size w w') : RetSlI sz rows' err w (.returned (.tuple #[v, .int .i64 err])) w' := by
  subst e
  obtain ⟨a, cap, rfl, h1, h2⟩ := h.slAt
  exact ⟨a, cap, rfl, h1, h2, hb⟩
theorem OwnR.retSl {w w' : World} {B : Nat} {E : TypeId} {sz : Nat} {v : Value} {rows rows' : List (List Value)} (h : OwnR w' B E sz v rows) (e : rows = rows') (hb : Below w.heap.size w w') : RetSl sz rows' w (.returned v) w' := by
  subst e
  obtain ⟨a, cap, rfl, h1, h2⟩ := h.slAt
  exact ⟨a, cap, rfl, h1, h2, hb⟩

end Go.Proofs.YtfppijjjaleiaaaDoor
