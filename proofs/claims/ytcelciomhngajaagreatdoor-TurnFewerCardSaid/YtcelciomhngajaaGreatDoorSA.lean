/- Texts of this seat, laid together: Lib, Own, QTail, Lib2, ScPit0, ScProg, ScProg2, RegLib, ScProg3. -/
import Derived.WalkKit
import Derived.WalkSpells
import Derived.WalkLawsBesides
import Derived.Lib.Hide
import Derived.BigQuiet
import Derived.Lib.QuietBelow
import Derived.Deep.RegionHeld3
import Derived.Deep.LoopGhost
import Derived.Deep.DeepCutAuto
import Derived.Laws.AppendOwnNone
import Derived.Maps.AppendAt
import Derived.StillTail
import Derived.Deep.OwnRows
import Derived.IntWalk
import Derived.Test.YtcelciomhngajaaGreatDoorRows
/- Small words on worlds and on slices that lie in memory, used by the walks of this seat; no condition. -/
namespace Go.Proofs.YtcelciomhngajaaGreatDoor
set_option linter.unusedSimpArgs false
set_option linter.unusedVariables false
open Go.RowKit Go.Sort

/-- Is n from lo to hi? -/
def inB (n lo hi : Int) : Bool := decide (lo ≤ n) && decide (n ≤ hi)
theorem ret_int {k : IntKind} {a b : Int} (h : a = b) : Ending.returned (.int k a) = .returned (.int k b) := by rw [h]
theorem ret_ii {j k : IntKind} {a a' c c' : Int} (h1 : a = a') (h3 : c = c') : Ending.returned (.tuple #[.int j a, .int k c]) = .returned (.tuple #[.int j a', .int k c']) := by rw [h1, h3]
theorem ret_bool {a b : Bool} (h : a = b) : Ending.returned (.bool a) = .returned (.bool b) := by rw [h]
theorem take_eq_succ {α : Type} (l r : List α) (k : Nat) (h : k < l.length) (h' : k < r.length) (hp : l.take k = r.take k) (he : l[k] = r[k]) : l.take (k + 1) = r.take (k + 1) := by
  rw [List.take_succ_eq_append_getElem h, List.take_succ_eq_append_getElem h', hp, he]
theorem ne_at {α : Type} (l r : List α) (k : Nat) (h : k < l.length) (h' : k < r.length) (he : l[k] ≠ r[k]) : l ≠ r := fun e => by subst e; exact he rfl
theorem inB_iff (n lo hi : Int) : inB n lo hi = true ↔ lo ≤ n ∧ n ≤ hi := by simp [inB]
theorem inB_not (n lo hi : Int) : inB n lo hi = false ↔ n < lo ∨ hi < n := by
  rw [← Bool.not_eq_true, inB_iff]; omega

/-- The elements of a slice over a: element i is the row rows[i] of sz cells. -/
def SlAt (w : World) (a : Option Addr) (sz : Nat) (rows : List (List Value)) : Prop :=
  ∀ i r, rows[i]? = some r → ∃ b off, a = some ⟨b, off, none⟩ ∧ b < w.heap.size ∧ r.length = sz ∧ ∀ j v, r[j]? = some v → w.cell? ⟨b, off + i * sz + j, none⟩ = some v

/-- A slice as it is in every run: its length within its capacity, a plain address if it has one. -/
structure SlOk (a : Option Addr) (n cap : Nat) : Prop where
  le : n ≤ cap
  none : a = none → cap = 0
  spot : ∀ ad, a = some ad → ad.spot = Option.none
theorem SlOk.nil : SlOk .none 0 0 := ⟨Nat.le_refl _, fun _ => rfl, fun _ h => by cases h⟩
theorem SlOk.cases {a : Option Addr} {n cap : Nat} (h : SlOk a n cap) : (a = .none ∧ n = 0 ∧ cap = 0) ∨ ∃ b off, a = some ⟨b, off, .none⟩ := by
  rcases a with _ | ⟨b, off, sp⟩
  · have := h.none rfl; have := h.le; exact .inl ⟨rfl, by omega, by omega⟩
  · have := h.spot _ rfl; simp at this; subst this; exact .inr ⟨b, off, rfl⟩

theorem SlAt.nil (w : World) (a : Option Addr) (sz : Nat) : SlAt w a sz [] := fun i r h => by simp at h

theorem SlAt.below {w w' : World} {a : Option Addr} {sz : Nat} {rows : List (List Value)} (h : SlAt w a sz rows) (hb : Below w.heap.size w w') : SlAt w' a sz rows := fun i r hr => by
  obtain ⟨b, off, e, hlt, hl, hc⟩ := h i r hr
  exact ⟨b, off, e, Nat.lt_of_lt_of_le hlt hb.size, hl, fun j v hv => (hb.cell (p := ⟨b, _, none⟩) hlt).trans (hc j v hv)⟩

theorem SlAt.take {w : World} {a : Option Addr} {sz : Nat} {rows : List (List Value)} (h : SlAt w a sz rows) (k : Nat) : SlAt w a sz (rows.take k) := fun i r hr => by
  rw [List.getElem?_take] at hr
  split at hr
  · exact h i r hr
  · cases hr

theorem SlAt.alloc {w : World} {a : Option Addr} {sz : Nat} {rows : List (List Value)} (h : SlAt w a sz rows) (o : Obj) : SlAt (w.alloc o) a sz rows := h.below ((Below.refl _ _).alloc (Nat.le_refl _) _)
theorem SlAt.drew {w : World} {a : Option Addr} {sz : Nat} {rows : List (List Value)} (h : SlAt w a sz rows) : SlAt w.drew a sz rows := h.below ((Below.refl _ _).drew)

/-- A drawn region whose operations only read and whose callees may lay new memory, walked once in the order of the text. -/
theorem wp_quietB {P : Program} {id : Nat} {Q : Exit → Act → World → Prop} {a : Act} {w : World} {l : List Oper} (hm : P.follows .mixedOrders = true) (hB : Region.lexB .any l.toArray = true)
    (h : wpQuiet P l.toArray (fun w' => ∃ p : Regrown, w' = grow (redrawn w p.d) p.os) (fun a' => ∀ w', Below w.heap.size w w' → Q .normal a' w') l a) : (Code.region id l.toArray true).wp P Q a w := by
  refine wp_region_quiet_below hm hB ?_
  have e : (fun a' => ∀ w', (∃ p : Regrown, w' = grow (redrawn w p.d) p.os) → Q .normal a' w') = fun a' => ∀ w', Below w.heap.size w w' → Q .normal a' w' := by
    funext a'
    refine propext ⟨fun h w' hb => h w' (regrown_of_below hb), fun h w' ⟨p, hp⟩ => h w' (hp ▸ below_regrown w p.d p.os)⟩
  rw [e]
  exact h

theorem Calls.regrown {P : Program} {f : FuncId} {args : Array Value} {w : World} {d : Nat} {os : Array Obj} {v : Value}
    (h : Calls P f args (grow (redrawn w d) os) fun e w' => e = .returned v ∧ grow (redrawn w d) os = w') : Calls P f args (grow (redrawn w d) os) fun e w'' => e = .returned v ∧ ∃ p : Regrown, w'' = grow (redrawn w p.d) p.os :=
  h.mono fun _ _ ⟨he, hb⟩ => ⟨he, ⟨d, os⟩, hb.symm⟩

/-- A block of cells that the call has laid, in a later world. -/
theorem blk_keep {w w' : World} {b : Nat} {o : Obj} (h : w.heap[b]? = some o) (hb : Below w.heap.size w w') : w'.heap[b]? = some o := (hb.block b (Array.getElem?_eq_some_iff.1 h).1).trans h
theorem up_alloc {w : World} {b : Nat} {o : Obj} (h : w.heap[b]? = some o) (o' : Obj) : (w.alloc o').heap[b]? = some o := blk_keep h ((Below.refl _ _).alloc (Nat.le_refl _) _)
theorem at_alloc (w : World) (o : Obj) {k : Nat} (h : k = w.heap.size) : (w.alloc o).heap[k]? = some o := by subst h; exact heap_alloc_new w o
theorem box_below {w w' : World} {o : Obj} (hb : Below (w.alloc o).heap.size (w.alloc o) w') : w'.heap[w.heap.size]? = some o := blk_keep (heap_alloc_new w o) hb
theorem box_cells {w : World} {b : Nat} {cs : Array Value} {T : TypeId} {fr : Nat × Nat} (h : w.heap[b]? = some (.cells cs T fr)) : ∀ j, w.cell? ⟨b, j, none⟩ = cs[j]? := fun j => by simp [World.cell?, h]
theorem box_free {w : World} {b : Nat} {cs : Array Value} {T : TypeId} (h : w.heap[b]? = some (.cells cs T (0, 0))) : ∀ j, w.frozen? ⟨b, j, none⟩ = false := fun j => by simp [World.frozen?, h]

open Go.RowKit Go.Sort

theorem flat_get (rows : List (List Value)) (sz : Nat) (h : ∀ r ∈ rows, r.length = sz) (i j : Nat) (r : List Value) (v : Value) (hr : rows[i]? = some r) (hv : r[j]? = some v) : rows.flatten[i * sz + j]? = some v := by
  induction rows generalizing i with
  | nil => simp at hr
  | cons x rows ih =>
    have hx := h x (by simp)
    cases i with
    | zero =>
      simp at hr; subst hr
      rw [List.flatten_cons, Nat.zero_mul, Nat.zero_add, List.getElem?_append_left (List.getElem?_eq_some_iff.1 hv).1]; exact hv
    | succ i =>
      have hr' : rows[i]? = some r := by simpa using hr
      rw [List.flatten_cons, List.getElem?_append_right (by rw [hx, Nat.succ_mul]; omega), hx, show (i + 1) * sz + j - sz = i * sz + j by rw [Nat.succ_mul]; omega]
      exact ih (fun r hm => h r (by simp [hm])) i hr'

theorem flat_inv (rows : List (List Value)) (sz : Nat) (h : ∀ r ∈ rows, r.length = sz) (k : Nat) (u : Value) (hk : rows.flatten[k]? = some u) : ∃ i j r, rows[i]? = some r ∧ r[j]? = some u ∧ k = i * sz + j := by
  induction rows generalizing k with
  | nil => simp at hk
  | cons x rows ih =>
    have hx := h x (by simp)
    rw [List.flatten_cons] at hk
    by_cases hlt : k < x.length
    · rw [List.getElem?_append_left hlt] at hk
      exact ⟨0, k, x, by simp, hk, by omega⟩
    · rw [List.getElem?_append_right (by omega)] at hk
      obtain ⟨i, j, r, h1, h2, h3⟩ := ih (fun r hm => h r (by simp [hm])) _ hk
      exact ⟨i + 1, j, r, by simpa using h1, h2, by rw [Nat.succ_mul]; omega⟩

theorem flat_len (rows : List (List Value)) (sz : Nat) (h : ∀ r ∈ rows, r.length = sz) : rows.flatten.length = rows.length * sz := by
  induction rows with
  | nil => simp
  | cons x rows ih => rw [List.flatten_cons, List.length_append, ih (fun r hm => h r (by simp [hm])), h x (by simp), List.length_cons, Nat.succ_mul]; omega

/-- The value v is a slice of the call's own (blocks from B on), of these rows. -/
structure OwnR (w : World) (B : Nat) (E : TypeId) (sz : Nat) (v : Value) (rows : List (List Value)) : Prop where
  wide : ∀ r ∈ rows, r.length = sz
  own : w.ownsRow B E sz v rows.length rows.flatten

theorem OwnR.nil (w : World) (B : Nat) (E : TypeId) (sz : Nat) : OwnR w B E sz (.slice none 0 0) [] := ⟨by simp, World.ownsRow_nil w B E sz⟩

theorem ownsRow_below {w w' : World} {B n : Nat} {E : TypeId} {sz : Nat} {v : Value} {xs : List Value} (h : w.ownsRow B E sz v n xs) (hb : Below w.heap.size w w') : w'.ownsRow B E sz v n xs := by
  obtain ⟨h1, h2⟩ := h
  refine ⟨h1, ?_⟩
  rcases h2 with h2 | ⟨g, cap, cur, e, hg, hc, h3⟩
  · exact .inl h2
  · exact .inr ⟨g, cap, cur, e, hg, (hb.block g (Array.getElem?_eq_some_iff.1 hc).1).trans hc, h3⟩
theorem OwnR.below {w w' : World} {B : Nat} {E : TypeId} {sz : Nat} {v : Value} {rows : List (List Value)} (h : OwnR w B E sz v rows) (hb : Below w.heap.size w w') : OwnR w' B E sz v rows := ⟨h.wide, ownsRow_below h.own hb⟩
theorem OwnR.kept {w w' : World} {B : Nat} {E : TypeId} {sz : Nat} {v : Value} {rows : List (List Value)} {row : Option Nat} (h : OwnR w B E sz v rows) (hg : w.grownBy w' row) (hne : v.ownBlock = none ∨ v.ownBlock ≠ row) : OwnR w' B E sz v rows := ⟨h.wide, h.own.kept hg hne⟩
theorem OwnR.lt {w : World} {B : Nat} {E : TypeId} {sz : Nat} {v : Value} {rows : List (List Value)} (h : OwnR w B E sz v rows) : ∀ k, v.ownBlock = some k → B ≤ k ∧ k < w.heap.size := h.own.lt

/-- What is owned lies in memory as a slice. -/
theorem OwnR.slAt {w : World} {B : Nat} {E : TypeId} {sz : Nat} {v : Value} {rows : List (List Value)} (h : OwnR w B E sz v rows) :
    ∃ a cap, v = .slice a rows.length cap ∧ SlOk a rows.length cap ∧ SlAt w a sz rows := by
  obtain ⟨hw, hl, h2⟩ := h
  rcases h2 with ⟨rfl, hn⟩ | ⟨g, cap, cur, rfl, hB, hc, hle, _, hsz, htk⟩
  · obtain rfl : rows = [] := List.length_eq_zero_iff.1 hn
    exact ⟨none, 0, rfl, SlOk.nil, SlAt.nil _ _ _⟩
  · refine ⟨_, cap, rfl, ⟨hle, (fun e => by cases e), (fun ad e => by cases e; rfl)⟩, fun i r hr => ⟨g, 0, rfl, (Array.getElem?_eq_some_iff.1 hc).1, hw r (List.mem_of_getElem? hr), fun j u hu => ?_⟩⟩
    have hf := flat_get rows sz hw i j r u hr hu
    rw [← htk, List.getElem?_take] at hf
    split at hf
    · rw [World.cell?, hc, Nat.zero_add]
      simpa using hf
    · cases hf

theorem SlAt.flat {w : World} {sz : Nat} {rows : List (List Value)} {b off : Nat} (h : SlAt w (some ⟨b, off, none⟩) sz rows) : ∀ j u, rows.flatten[j]? = some u → w.cell? ((⟨b, off, none⟩ : Addr).add j) = some u := by
  intro k u hk
  have hw : ∀ r ∈ rows, r.length = sz := fun r hr => by
    obtain ⟨i, hi⟩ := List.getElem?_of_mem hr
    obtain ⟨_, _, _, _, hl, _⟩ := h i r hi
    exact hl
  obtain ⟨i, j, r, h1, h2, h3⟩ := flat_inv rows sz hw k u hk
  obtain ⟨b', off', e, _, _, hc⟩ := h i r h1
  cases e
  have := hc j u h2
  subst h3
  unfold Addr.add
  split
  · rename_i h0
    have e : off + i * sz + j = off := by omega
    rw [e] at this; exact this
  · rw [show off + (i * sz + j) = off + i * sz + j by omega]; exact this

theorem oneCell_flat {rows : List (List Value)} (h : ∀ r ∈ rows, ∀ u ∈ r, u.oneCell' = true) : ∀ u ∈ rows.flatten, u.oneCell' = true := fun u hu => by
  obtain ⟨r, hr, hur⟩ := List.mem_flatten.1 hu
  exact h r hr u hur

/-- append onto a slice of the call's own, from whatever slice lies in memory. -/
theorem wpList_appendR {P : Program} {w : World} {ops : Array Oper} {rest : List Oper} {o : Oper} {a : Act} {Q : Exit → Act → World → Prop} (hgd : o.guard = none) (s x : Operand) (t : TypeId)
    (ho : o.op = .call { callee := .builtin .append, args := #[s, x], argTypes := #[t, t] })
    (B : Nat) (E : TypeId) (z : Value) (sz bytes : Nat) (ht : P.underlying t = some (.slice E)) (hinfo : (P.info? E).map (fun i => (i.zero, i.size, i.bytes)) = some (some z, sz, bytes))
    (hzs : z.cells.size = sz) (hsz : 0 < sz)
    (v : Value) (rows : List (List Value)) (hs : a.eval s = v) (hown : OwnR w B E sz v rows)
    (ad : Option Addr) (m c : Nat) (news : List (List Value)) (hx : a.eval x = .slice ad m c) (hm : m = news.length) (hc0 : ad = none → c = 0) (hnews : SlAt w ad sz news) (h1 : ∀ r ∈ news, ∀ u ∈ r, u.oneCell' = true)
    (hlen : rows.length + news.length ≤ 1048576) (hbytes : bytes ≤ 1048576) (hbase : B ≤ w.heap.size)
    (h : ∀ v' w', OwnR w' B E sz v' (rows ++ news) → w.grownBy w' v.ownBlock → wpList P ops Q rest (a.put o.dst v') w') : wpList P ops Q (o :: rest) a w := by
  obtain ⟨i, hi, hz0, hz1, hz2⟩ := info_parts hinfo
  have hw : ∀ r ∈ news, r.length = sz := fun r hr => by
    obtain ⟨k, hk⟩ := List.getElem?_of_mem hr
    obtain ⟨_, _, _, _, hl, _⟩ := hnews k r hk
    exact hl
  have hww : ∀ r ∈ rows ++ news, r.length = sz := fun r hr => by
    rcases List.mem_append.1 hr with hr | hr
    · exact hown.wide r hr
    · exact hw r hr
  subst hm
  cases ad with
  | none =>
    have hn : news = [] := by
      cases news with
      | nil => rfl
      | cons r news => obtain ⟨_, _, e, _⟩ := hnews 0 r rfl; cases e
    subst hn
    obtain rfl := hc0 rfl
    refine wpList_append_own_none hgd s x t ho B E i sz ht hi v rows.length rows.flatten hs hown.own hx (h v w (by rw [List.append_nil]; exact hown) (World.grownBy.refl w _))
  | some ad =>
    have hcell : ∀ j u, news.flatten[j]? = some u → w.cell? (ad.add j) = some u := by
      intro j u hj
      obtain ⟨i', j', r, g1, _, _⟩ := flat_inv news sz hw j u hj
      obtain ⟨b, off, e, _⟩ := hnews i' r g1
      cases e
      exact hnews.flat j u hj
    refine wpList_append_own w hgd s x t ho B E i z sz bytes ht hi hz0 hz1 hz2 hzs hsz v rows.length rows.flatten hs hown.own ad news.length c news.flatten hx (flat_len news sz hw) hcell (oneCell_flat h1) (by unfold maxLen; omega)
      (Nat.le_trans (Nat.mul_le_mul hlen hbytes) (by decide)) hbase fun v' w' ho' hg _ => h v' w' ⟨hww, by rw [List.length_append, List.flatten_append]; exact ho'⟩ hg

/-- A new block of some rows (what a literal of a slice lays). -/
theorem SlAt.new (w : World) (cs : List Value) (E : TypeId) (sz : Nat) (rows : List (List Value)) (hw : ∀ r ∈ rows, r.length = sz) (hf : rows.flatten = cs) : SlAt (w.alloc (.cells cs.toArray E)) (some ⟨w.heap.size, 0, none⟩) sz rows := fun i r hr =>
  ⟨w.heap.size, 0, rfl, by simp, hw r (List.mem_of_getElem? hr), fun j u hu => by
    have := flat_get rows sz hw i j r u hr hu
    have hn := heap_alloc_new w (.cells cs.toArray E)
    simp only [World.cell?, hn, Nat.zero_add]
    rw [← hf]
    simpa using this⟩

/-- The same with an error number beside. -/
def RetSlI (sz : Nat) (rows : List (List Value)) (err : Int) (w : World) (e : Ending) (w' : World) : Prop :=
  ∃ a cap, e = .returned (.tuple #[.slice a rows.length cap, .int .i64 err]) ∧ SlOk a rows.length cap ∧ SlAt w' a sz rows ∧ Below w.heap.size w w'
theorem RetSlI.none {sz : Nat} {err : Int} {w w' : World} (hb : Below w.heap.size w w') : RetSlI sz [] err w (.returned (.tuple #[.slice none 0 0, .int .i64 err])) w' := ⟨_, _, rfl, SlOk.nil, SlAt.nil _ _ _, hb⟩

/-- What append wants to know of an element type: T the slice's type, E the element's, f the cells of an element. -/
structure Elt (P : Program) (T E : TypeId) (sz bytes : Nat) {α : Type} (f : α → List Value) : Prop where
  ty : P.underlying T = some (.slice E)
  info : ∃ z, (P.info? E).map (fun i => (i.zero, i.size, i.bytes)) = some (some z, sz, bytes) ∧ z.cells.size = sz
  pos : 0 < sz
  small : bytes ≤ 1048576
  len : ∀ x, (f x).length = sz
  one : ∀ x, ∀ u ∈ f x, u.oneCell' = true

/-- append, said of elements: l is what the call has collected, news what is appended. -/
theorem appE {P : Program} {w : World} {ops : Array Oper} {rest : List Oper} {o : Oper} {a : Act} {Q : Exit → Act → World → Prop} {T E : TypeId} {sz bytes : Nat} {α : Type} {f : α → List Value} (he : Elt P T E sz bytes f)
    (hgd : o.guard = none) (s x : Operand) (ho : o.op = .call { callee := .builtin .append, args := #[s, x], argTypes := #[T, T] })
    (B : Nat) (v : Value) (l : List α) (hs : a.eval s = v) (hown : OwnR w B E sz v (l.map f))
    (ad : Option Addr) (m c : Nat) (news : List α) (hx : a.eval x = .slice ad m c) (hm : m = news.length) (hc0 : ad = none → c = 0) (hnews : SlAt w ad sz (news.map f))
    (hlen : l.length + news.length ≤ 1048576) (hbase : B ≤ w.heap.size)
    (h : ∀ v' w', OwnR w' B E sz v' ((l ++ news).map f) → w.grownBy w' v.ownBlock → wpList P ops Q rest (a.put o.dst v') w') : wpList P ops Q (o :: rest) a w := by
  obtain ⟨z, hi, hz⟩ := he.info
  exact wpList_appendR hgd s x T ho B E z sz bytes he.ty hi hz he.pos v (l.map f) hs hown ad m c (news.map f) hx (by rw [List.length_map]; exact hm) hc0 hnews
    (fun r hr u hu => by obtain ⟨y, _, rfl⟩ := List.mem_map.1 hr; exact he.one y u hu) (by rw [List.length_map, List.length_map]; exact hlen) he.small hbase
    (fun v' w' h1 h2 => h v' w' (by rw [List.map_append]; exact h1) h2)

theorem Elt.new {P : Program} {T E : TypeId} {sz bytes : Nat} {α : Type} {f : α → List Value} (he : Elt P T E sz bytes f) (w : World) (x : α) (cs : List Value) (E' : TypeId) (hc : cs = f x) : SlAt (w.alloc (.cells cs.toArray E')) (some ⟨w.heap.size, 0, none⟩) sz ([x].map f) := by
  subst hc
  exact SlAt.new w (f x) E' sz _ (by simp [he.len]) (by simp)

theorem below_grown {w0 w w' : World} {v : Value} {E : TypeId} {sz : Nat} {rows : List (List Value)} {B : Nat} (hb : Below B w0 w) (ho : OwnR w B E sz v rows) (hB : B ≤ w.heap.size) (hg : w.grownBy w' v.ownBlock) : Below B w0 w' :=
  hb.grown hg hB fun k hk => (ho.lt k hk).1

/-- A slice of integers. -/
def inRow (n : Int) : List Value := [.int .i64 n]
def InAt (w : World) (a : Option Addr) (l : List Int) : Prop := SlAt w a 1 (l.map inRow)
theorem InAt.get {w : World} {a : Option Addr} {l : List Int} (h : InAt w a l) (i : Nat) (hi : i < l.length) : ∃ b off, a = some ⟨b, off, none⟩ ∧ w.cell? ⟨b, off + i, none⟩ = some (.int .i64 l[i]) := by
  obtain ⟨b, off, e, _, _, hc⟩ := h i (inRow l[i]) (by simp [List.getElem?_eq_getElem hi])
  have := hc 0 _ rfl
  rw [Nat.mul_one, Nat.add_zero] at this
  exact ⟨b, off, e, this⟩
theorem InAt.below {w w' : World} {a : Option Addr} {l : List Int} (h : InAt w a l) (hb : Below w.heap.size w w') : InAt w' a l := SlAt.below h hb
theorem SlAt.drop {w : World} {b off : Nat} {sz : Nat} {rows : List (List Value)} (h : SlAt w (some ⟨b, off, none⟩) sz rows) (k : Nat) : SlAt w (some ⟨b, off + k * sz, none⟩) sz (rows.drop k) := fun i r hr => by
  rw [List.getElem?_drop] at hr
  obtain ⟨b', o', e, h1, h2, h3⟩ := h _ r hr
  cases e
  exact ⟨b, off + k * sz, rfl, h1, h2, fun j v hv => by rw [show off + k * sz + i * sz + j = off + (k + i) * sz + j by rw [Nat.add_mul]; omega]; exact h3 j v hv⟩
theorem OwnR.retSlI {w w' : World} {B : Nat} {E : TypeId} {sz : Nat} {v : Value} {rows rows' : List (List Value)} {err : Int} (h : OwnR w' B E sz v rows) (e : rows = rows') (hb : Below w.heap.size w w') : RetSlI sz rows' err w (.returned (.tuple #[v, .int .i64 err])) w' := by
  subst e
  obtain ⟨a, cap, rfl, h1, h2⟩ := h.slAt
  exact ⟨a, cap, rfl, h1, h2, hb⟩
open Go.RowKit Go.Sort

section
variable {P : Program} {ops : Array Oper} {md : Region.Mode} {C : World → Prop}
def wpAnyLQ (P : Program) (md : Region.Mode) (ops : Array Oper) (C : World → Prop) (n : Nat) (L : Array Bool → Act → Prop) : Nat → Array Bool → Act → Prop
  | 0, listed, a => L listed a
  | f + 1, listed, a => Region.ready md ops listed ≠ [] ∧ ∀ i ∈ Region.ready md ops listed, i < n ∧ qOp P ops C i (wpAnyLQ P md ops C n L f (listed.setIfInBounds i true)) a
theorem wpAny_of_headQ {n g : Nat} {L : Array Bool → Act → Prop} {Q' : Exit → Act → World → Prop} (hL : ∀ listed a w, C w → L listed a → wpAny P md ops Q' g listed a w) :
    ∀ (f : Nat) (listed : Array Bool) (a : Act) (w : World), C w → wpAnyLQ P md ops C n L f listed a → wpAny P md ops Q' (f + g) listed a w
  | 0, listed, a, w, hw, h => by rw [Nat.zero_add]; exact hL _ _ _ hw h
  | f + 1, listed, a, w, hw, h => by
    rw [show f + 1 + g = (f + g) + 1 by omega]
    exact ⟨fun h0 => absurd h0 h.1, fun i hi => wpOp_of_qOp hw (fun a' w' hw' h' => wpAny_of_headQ hL f _ a' w' hw' h') (h.2 i hi).2⟩
theorem wpAnyLQ_first {n i : Nat} {oi : Oper} {v : Value} {L : Array Bool → Act → Prop} (hi : ops[i]? = some oi) (hsel : ∀ (j : Nat) (o : Oper) cs b, ops[j]? = some o → o.op ≠ .select cs b)
    (hs : Region.sinkB md ops n = true) (hc : Region.chainB md ops n = true) (hn : n < ops.size) (hin : i < n)
    (hdone : ∀ listed a, L listed a → ∀ j ∈ Region.ready md ops listed, n ≤ j) :
    ∀ (f : Nat) (listed : Array Bool) (a : Act), HeadInv md ops n listed →
      (∀ j oj, ops[j]? = some oj → j ≠ i → listed.getD j true = false → (∀ e ∈ oj.after, Region.binds md e = true → e.on ≠ i) → oi.apart ops oj = true) →
      i ∈ Region.ready md ops listed → YieldsIn P ops C oi v a →
      wpAnyLQ P md ops C n L f (listed.setIfInBounds i true) (a.put oi.dst v) → wpAnyLQ P md ops C n L (f + 1) listed a := by
  intro f
  induction f with
  | zero =>
    intro listed a inv _ hr hy H
    have hun := (mem_ready.1 hr).1
    refine ⟨fun h => (by rw [h] at hr; cases hr), fun j hj => ?_⟩
    have hjn : j < n := by
      rcases Nat.lt_or_ge j n with h | h
      · exact h
      · exact absurd hj (tail_waits hs hc hn inv _ i rfl hin hun j h)
    refine ⟨hjn, ?_⟩
    by_cases hji : j = i
    · subst hji; exact hy.qOp hi H
    · have := hdone _ _ H j (ready_mono hj hji)
      omega
  | succ f ih =>
    intro listed a inv hfree hr hy H
    have hun := (mem_ready.1 hr).1
    refine ⟨fun h => (by rw [h] at hr; cases hr), fun j hj => ?_⟩
    have hjn : j < n := by
      rcases Nat.lt_or_ge j n with h | h
      · exact h
      · exact absurd hj (tail_waits hs hc hn inv _ i rfl hin hun j h)
    refine ⟨hjn, ?_⟩
    by_cases hji : j = i
    · subst hji; exact hy.qOp hi H
    · have h1 := (H.2 j (ready_mono hj hji)).2
      obtain ⟨hjun, oj, hoj, hall⟩ := mem_ready.1 hj
      have hnot : ∀ e ∈ oj.after, Region.binds md e = true → e.on ≠ i := fun e he hb heq => by
        have h1 := hall e he hb
        rw [heq, getD_both hun] at h1
        cases h1
      have h2 := qOp_put hoj (hfree j oj hoj hji hjun hnot) (fun cs b => hsel i oi cs b hi) (fun cs b => hsel j oj cs b hoj) hy h1
      have hfree' : ∀ k ok, ops[k]? = some ok → k ≠ i → (listed.setIfInBounds j true).getD k true = false →
          (∀ e ∈ ok.after, Region.binds md e = true → e.on ≠ i) → oi.apart ops ok = true := fun k ok hk hki hun hno => by
        refine hfree k ok hk hki ?_ hno
        by_cases hjk : j = k
        · subst hjk; exact hjun
        · rw [getD_set_ne true hjk] at hun; exact hun
      refine qOp_mono (fun a' h3 => ih (listed.setIfInBounds j true) a' (inv.set hj hjn) hfree' (ready_mono hr (Ne.symm hji)) h3.1 ?_) h2
      rw [Array.setIfInBounds_comm _ _ hji]
      exact h3.2
theorem wpAnyLQ_lex {n g : Nat} {Lq : Act → Prop} (hsel : Region.noSelect ops = true) (hs : Region.sinkB md ops n = true) (hc : Region.chainB md ops n = true) (hn : n < ops.size) :
    ∀ (l : List Oper) (k : Nat) (listed : Array Bool) (a : Act), (∀ j, j < l.length → l[j]? = ops[k + j]?) → k + l.length = n → HeadInv md ops n listed →
    Region.lexHead md ops g l.length k listed = true → wpQuiet P ops C Lq l a →
    wpAnyLQ P md ops C n (fun listed' a' => Region.seqB md ops g n listed' = true ∧ Lq a') l.length listed a
  | [], k, listed, a, _, hk, _, hB, h => by
    have : k = n := by simpa using hk
    subst this
    exact ⟨by simpa [Region.lexHead] using hB, h⟩
  | o :: l, k, listed, a, hl, hk, inv, hB, h => by
    have h0 : ops[k]? = some o := by simpa using (hl 0 (by simp)).symm
    simp only [List.length_cons, Region.lexHead, Bool.and_eq_true] at hB
    obtain ⟨⟨hr, hf⟩, hB'⟩ := hB
    have hkn : k < n := by simp only [List.length_cons] at hk; omega
    have hr' : k ∈ Region.ready md ops listed := by simpa using hr
    have hst : qOp P ops C k (wpQuiet P ops C Lq l) a := by unfold qOp; simp only [h0]; exact h
    obtain ⟨v, hy, hK⟩ := yieldsIn_of_qOp h0 hst
    exact wpAnyLQ_first h0 (Region.noSelect_spec hsel) hs hc hn hkn (fun listed' a' hL => seqB_ready hL.1) l.length listed a inv (Region.free_spec h0 hf) hr' hy
      (wpAnyLQ_lex hsel hs hc hn l (k + 1) _ _ (fun j hj => by have := hl (j + 1) (by simp; omega); simpa [Nat.add_assoc, Nat.add_comm 1 j] using this) (by simp only [List.length_cons] at hk; omega) (inv.set hr' hkn) hB' hK)
theorem wp_region_quiet_tail {id : Nat} {Q : Exit → Act → World → Prop} {a : Act} {w : World} {l : List Oper} (n : Nat) (hm : P.follows .mixedOrders = true) (hB : Region.lexTailB .any l.toArray n = true) (hC : C { w with drawn := w.drawn + 1 })
    (h : wpQuiet P l.toArray C (fun a' => ∀ w', C w' → wpList P l.toArray Q (l.drop n) a' w') (l.take n) a) : (Code.region id l.toArray true).wp P Q a w := by
  simp only [Region.lexTailB, Bool.and_eq_true, decide_eq_true_eq] at hB
  obtain ⟨⟨⟨⟨hsel, hn⟩, hs⟩, hc⟩, hlex⟩ := hB
  have hn' : n < l.length := by simpa using hn
  have htl : (l.take n).length = n := by simp; omega
  have hdl : (l.drop n).length = l.toArray.size - n := by simp
  have inv0 : HeadInv .any l.toArray n (Array.replicate l.toArray.size false) :=
    ⟨by simp, fun j oj _ hl => (by rw [getD_replicate_false] at hl; cases hl), fun t _ ht => getD_in (by simpa using ht) (getD_replicate_false _ _)⟩
  have H := wpAnyLQ_lex (md := .any) (g := l.toArray.size - n) hsel hs hc hn (l.take n) 0 _ a (fun j hj => by
    have hj' : j < n := by rw [htl] at hj; exact hj
    simp [hj']) (by simpa using htl) inv0 (by rw [htl]; exact hlex) h
  refine wp_region_any hm ?_
  have := wpAny_of_headQ (Q' := Q) (g := l.toArray.size - n) (fun listed a' w' hw' hL => by
    have := wpAny_of_seq (md := .any) (Q' := Q) (l.drop n) n listed a' w' (fun j => by simp [List.getElem?_drop]) (by rw [hdl]; exact hL.1) (hL.2 w' hw')
    rwa [hdl] at this) _ _ _ _ hC H
  rw [htl, show n + (l.toArray.size - n) = l.toArray.size by omega] at this
  exact this
end
/-- The first n operations only read, and their callees may lay new memory; the others follow one behind the other. -/
theorem wp_tailB {P : Program} {id : Nat} {Q : Exit → Act → World → Prop} {a : Act} {w : World} {l : List Oper} (n : Nat) (hm : P.follows .mixedOrders = true) (hB : Region.lexTailB .any l.toArray n = true)
    (h : wpQuiet P l.toArray (fun w' => ∃ p : Regrown, w' = grow (redrawn w p.d) p.os) (fun a' => ∀ w', Below w.heap.size w w' → wpList P l.toArray Q (l.drop n) a' w') (l.take n) a) : (Code.region id l.toArray true).wp P Q a w := by
  refine wp_region_quiet_tail (C := fun w' => ∃ p : Regrown, w' = grow (redrawn w p.d) p.os) n hm hB ⟨⟨w.drawn + 1, #[]⟩, by rw [grow_empty]; rfl⟩ ?_
  have e : (fun a' => ∀ w', (∃ p : Regrown, w' = grow (redrawn w p.d) p.os) → wpList P l.toArray Q (l.drop n) a' w') = fun a' => ∀ w', Below w.heap.size w w' → wpList P l.toArray Q (l.drop n) a' w' := by
    funext a'
    refine propext ⟨fun h w' hb => h w' (regrown_of_below hb), fun h w' ⟨p, hp⟩ => h w' (hp ▸ below_regrown w p.d p.os)⟩
  rw [e]
  exact h
end Go.Proofs.YtcelciomhngajaaGreatDoor
/- Small words shared by the walks: boxes laid by a call, a row of cells that it owns, what is left alone; no condition. -/
namespace Go.Proofs.YtcelciomhngajaaGreatDoor
set_option linter.unusedSimpArgs false
set_option linter.unusedVariables false
open Go.RowKit Go.Sort

theorem drewB {w w' : World} (hb : Below w.drew.heap.size w.drew w') : Below w.heap.size w w' := ((Below.refl w.heap.size w).drew).trans hb
theorem lt_blk {w : World} {b : Nat} {o : Obj} (hx : w.heap[b]? = some o) : b < w.heap.size := (Array.getElem?_eq_some_iff.1 hx).1
theorem allocB {w w' : World} {o : Obj} (hb : Below (w.alloc o).heap.size (w.alloc o) w') : Below w.heap.size w w' := ((Below.refl w.heap.size w).alloc (Nat.le_refl _) o).trans (hb.mono (by simp))
theorem box2 {w w' : World} {A B : Obj} (hb : Below ((w.alloc A).alloc B).heap.size ((w.alloc A).alloc B) w') : w'.heap[w.heap.size]? = some A ∧ w'.heap[w.heap.size + 1]? = some B ∧ Below w.heap.size w w' := by
  have e : (w.alloc A).heap.size = w.heap.size + 1 := by simp
  refine ⟨blk_keep (up_alloc (heap_alloc_new w A) B) hb, blk_keep (e ▸ heap_alloc_new (w.alloc A) B) hb, (((Below.refl _ _).alloc (Nat.le_refl _) _).alloc (by simp) _).trans (hb.mono (by simp; omega))⟩
theorem box3 {w w' : World} {A B C : Obj} (hb : Below (((w.alloc A).alloc B).alloc C).heap.size (((w.alloc A).alloc B).alloc C) w') : w'.heap[w.heap.size]? = some A ∧ w'.heap[w.heap.size + 1]? = some B ∧ w'.heap[w.heap.size + 2]? = some C ∧ Below w.heap.size w w' := by
  have e : (w.alloc A).heap.size = w.heap.size + 1 := by simp
  have e2 : ((w.alloc A).alloc B).heap.size = w.heap.size + 2 := by simp
  refine ⟨blk_keep (up_alloc (up_alloc (heap_alloc_new w A) B) C) hb, blk_keep (up_alloc (e ▸ heap_alloc_new (w.alloc A) B) C) hb, blk_keep (e2 ▸ heap_alloc_new ((w.alloc A).alloc B) C) hb, ((((Below.refl _ _).alloc (Nat.le_refl _) _).alloc (by simp) _).alloc (by simp; omega) _).trans (hb.mono (by simp; omega))⟩
def upd {α : Type} (f : Nat → α) (k : Nat) (v : α) : Nat → α := fun j => if j = k then v else f j
theorem upd_same {α : Type} (f : Nat → α) (k : Nat) (v : α) : upd f k v k = v := by simp [upd]
theorem upd_ne {α : Type} (f : Nat → α) {k j : Nat} (v : α) (hne : j ≠ k) : upd f k v j = f j := by simp [upd, hne]

/-- Block b is a row of n cells of the call's own; cell k holds f k. -/
structure RowAt (w : World) (b n : Nat) (T : TypeId) (f : Nat → Value) : Prop where
  at_ : ∃ arr : Array Value, w.heap[b]? = some (.cells arr T (0, 0)) ∧ arr.size = n ∧ ∀ k, k < n → arr[k]? = some (f k)
theorem RowAt.lt {w : World} {b n : Nat} {T : TypeId} {f : Nat → Value} (r : RowAt w b n T f) : b < w.heap.size := by obtain ⟨arr, e, _⟩ := r.at_; exact lt_blk e
theorem RowAt.cell {w : World} {b n : Nat} {T : TypeId} {f : Nat → Value} (r : RowAt w b n T f) {k : Nat} (hk : k < n) : w.cell? ⟨b, k, none⟩ = some (f k) := by
  obtain ⟨arr, e, _, g⟩ := r.at_
  simp [World.cell?, e, g k hk]
theorem RowAt.free {w : World} {b n : Nat} {T : TypeId} {f : Nat → Value} (r : RowAt w b n T f) (k : Nat) : w.frozen? ⟨b, k, none⟩ = false := by
  obtain ⟨arr, e, _, g⟩ := r.at_
  simp [World.frozen?, e]
theorem RowAt.of_eq {w w' : World} {b n : Nat} {T : TypeId} {f : Nat → Value} (r : RowAt w b n T f) (e : w'.heap[b]? = w.heap[b]?) : RowAt w' b n T f := by
  obtain ⟨arr, h1, h2⟩ := r.at_
  exact ⟨arr, e.trans h1, h2⟩
theorem RowAt.below {w w' : World} {b n : Nat} {T : TypeId} {f : Nat → Value} (r : RowAt w b n T f) (hb : Below w.heap.size w w') : RowAt w' b n T f := r.of_eq (hb.block b r.lt)
theorem RowAt.set {w : World} {b n : Nat} {T : TypeId} {f : Nat → Value} (r : RowAt w b n T f) {k : Nat} (hk : k < n) (v : Value) : RowAt (w.setCell ⟨b, k, none⟩ v) b n T (upd f k v) := by
  obtain ⟨arr, h1, h2, h3⟩ := r.at_
  refine ⟨arr.setIfInBounds k v, heap_setCell_same _ _ _ _ _ _ h1, by simp [h2], fun j hj => ?_⟩
  by_cases e : j = k
  · subst e; rw [upd_same]; simp [h2, hk]
  · rw [upd_ne _ _ e, ← h3 j hj]
    rw [Array.getElem?_setIfInBounds_ne (by omega)]
theorem RowAt.made (w : World) (n : Nat) (T : TypeId) (z : Value) : RowAt (w.alloc (.cells (madeCells #[z] n) T)) w.heap.size n T (fun _ => z) := by
  refine ⟨_, heap_alloc_new w _, size_madeCells _ _, fun k hk => ?_⟩
  simp [madeCells, hk, Nat.mod_one]
theorem RowAt.congr {w : World} {b n : Nat} {T : TypeId} {f g : Nat → Value} (r : RowAt w b n T f) (e : ∀ k, k < n → f k = g k) : RowAt w b n T g := by
  obtain ⟨arr, h1, h2, h3⟩ := r.at_
  exact ⟨arr, h1, h2, fun k hk => by rw [h3 k hk, e k hk]⟩
/-- What a row says as a slice. -/
theorem RowAt.slAt {w : World} {b n : Nat} {T : TypeId} {f : Nat → Value} (r : RowAt w b n T f) : SlAt w (some ⟨b, 0, none⟩) 1 ((List.range n).map fun k => [f k]) := fun i x hx => by
  rw [List.getElem?_map] at hx
  by_cases hi : i < n
  · rw [List.getElem?_range hi] at hx
    simp only [Option.map_some, Option.some.injEq] at hx
    subst hx
    refine ⟨b, 0, rfl, r.lt, rfl, fun j v hv => ?_⟩
    have hj : j = 0 := by
      have := (List.getElem?_eq_some_iff.1 hv).1
      simp at this; omega
    subst hj
    simp only [List.getElem?_cons_zero, Option.some.injEq] at hv
    subst hv
    have := r.cell hi
    simpa using this
  · rw [List.getElem?_eq_none (by simp; omega)] at hx
    cases hx
/-- Of the blocks below B nothing has turned but those of S. -/
structure KeepB (B : Nat) (S : List Nat) (w w' : World) : Prop where
  os : w'.os = w.os
  tape : w'.tape = w.tape
  output : w'.output = w.output
  size : w.heap.size ≤ w'.heap.size
  block : ∀ k, k < B → k ∉ S → w'.heap[k]? = w.heap[k]?
theorem KeepB.refl (B : Nat) (S : List Nat) (w : World) : KeepB B S w w := ⟨rfl, rfl, rfl, Nat.le_refl _, fun _ _ _ => rfl⟩
theorem KeepB.trans {B : Nat} {S : List Nat} {w w1 w2 : World} (a : KeepB B S w w1) (b : KeepB B S w1 w2) : KeepB B S w w2 :=
  ⟨b.os.trans a.os, b.tape.trans a.tape, b.output.trans a.output, Nat.le_trans a.size b.size, fun k hk hn => (b.block k hk hn).trans (a.block k hk hn)⟩
theorem KeepB.of_below {B : Nat} {S : List Nat} {w w' : World} (hb : Below w.heap.size w w') (hB : B ≤ w.heap.size) : KeepB B S w w' := ⟨hb.os, hb.tape, hb.output, hb.size, fun k hk _ => hb.block k (by omega)⟩
theorem KeepB.of_below' {B : Nat} {S : List Nat} {w w' : World} (hb : Below B w w') : KeepB B S w w' := ⟨hb.os, hb.tape, hb.output, hb.size, fun k hk _ => hb.block k hk⟩
theorem KeepB.below {B : Nat} {w w' : World} (k : KeepB B [] w w') : Below B w w' := ⟨k.os, k.tape, k.output, k.size, fun i hi => k.block i hi (by simp)⟩
theorem KeepB.set {B : Nat} {S : List Nat} {w w' : World} (a : KeepB B S w w') {p : Addr} (hp : p.block ∈ S ∨ B ≤ p.block) (v : Value) : KeepB B S w (w'.setCell p v) :=
  ⟨a.os, a.tape, a.output, by simpa [World.setCell] using a.size, fun k hk hn => (heap_setCell_other _ _ _ _ (show _ ≠ _ by rintro rfl; rcases hp with hp | hp; exact hn hp; omega)).trans (a.block k hk hn)⟩
theorem KeepB.grown {B : Nat} {S : List Nat} {w w' w2 : World} {row : Option Nat} (a : KeepB B S w w') (hg : w'.grownBy w2 row) (hB : B ≤ w'.heap.size) (hr : ∀ k, row = some k → B ≤ k) : KeepB B S w w2 :=
  ⟨hg.os.trans a.os, hg.tape.trans a.tape, hg.output.trans a.output, Nat.le_trans a.size hg.size, fun k hk hn => (hg.block k (by omega) (fun e => by have := hr k e.symm; omega)).trans (a.block k hk hn)⟩
theorem KeepB.weaken {B B' : Nat} {S S' : List Nat} {w w' : World} (a : KeepB B S w w') (hB : B' ≤ B) (hs : ∀ k ∈ S, k < B' → k ∈ S') : KeepB B' S' w w' :=
  ⟨a.os, a.tape, a.output, a.size, fun k hk hn => a.block k (by omega) (fun hm => hn (hs k hm hk))⟩
end Go.Proofs.YtcelciomhngajaaGreatDoor
/- Pitches and intervals by themselves; no condition. -/
namespace Go.Proofs.YtcelciomhngajaaGreatDoor
set_option linter.unusedSimpArgs false
set_option linter.unusedVariables false
open Go.RowKit Go.Sort

/-- The number of a step. -/
def natI (s : Int) : Int := if 2 < s then 2 * s - 1 else 2 * s
theorem natI_bd (s : Int) (h0 : 0 ≤ s) (h1 : s ≤ 6) : 0 ≤ natI s ∧ natI s ≤ 11 := by unfold natI; split <;> omega
def vldB (s a o : Int) : Bool := inB s 0 6 && inB a (-4) 4 && inB o (-8) 20
def frmB (x y : Int) : Bool := inB x (-70) 70 && inB y (-120) 120
theorem vld_iff (s a o : Int) : vldB s a o = true ↔ (0 ≤ s ∧ s ≤ 6) ∧ (-4 ≤ a ∧ a ≤ 4) ∧ -8 ≤ o ∧ o ≤ 20 := by simp [vldB, inB_iff, and_assoc]
theorem frm_iff (x y : Int) : frmB x y = true ↔ (-70 ≤ x ∧ x ≤ 70) ∧ -120 ≤ y ∧ y ≤ 120 := by simp [frmB, inB_iff, and_assoc]

def numberR (s a o : Int) : Int × Int := if vldB s a o then (12 * o + natI s + a, 0) else (0, 1)
def backR (x y : Int) : Int × Int × Int := if frmB x y then (-x, -y, 0) else (0, 0, 1)
def addR (s a o x y : Int) : Int × Int × Int × Int :=
  if vldB s a o && frmB x y then
    if vldB ((7 * o + s + x) % 7) (12 * o + natI s + a + y - (12 * ((7 * o + s + x) / 7) + natI ((7 * o + s + x) % 7))) ((7 * o + s + x) / 7) then ((7 * o + s + x) % 7, 12 * o + natI s + a + y - (12 * ((7 * o + s + x) / 7) + natI ((7 * o + s + x) % 7)), (7 * o + s + x) / 7, 0) else (0, 0, 0, 3)
  else (0, 0, 0, 1)
end Go.Proofs.YtcelciomhngajaaGreatDoor
/- Contracts of the functions of package pitch that only reckon; the pitches and intervals are whatever they are, the table of naturals lies in memory. -/
namespace Go.Proofs.YtcelciomhngajaaGreatDoor
set_option linter.unusedSimpArgs false
set_option linter.unusedVariables false
open Go.RowKit Go.Sort

/-- What lies in memory of the package-level variables that are read. -/
structure Env (w : World) : Prop where
  nat : ∀ j : Nat, j < 7 → w.cell? ⟨0, j, none⟩ = some (.int .i64 (natI j))
theorem Env.lt {w : World} (h : Env w) : 0 < w.heap.size := World.block_lt_of_cell? _ _ (h.nat 0 (by decide))
theorem Env.below {w w' : World} (h : Env w) (hb : Below w.heap.size w w') : Env w' := ⟨fun j hj => (hb.cell (p := ⟨0, j, none⟩) h.lt).trans (h.nat j hj)⟩
theorem Env.drew {w : World} (h : Env w) : Env w.drew := h.below ((Below.refl _ _).drew)
theorem within_any (n lo hi : Int) (w : World) : Calls Tryz.prog 178 #[.int .i64 n, .int .i64 lo, .int .i64 hi] w fun e w' => e = .returned (.bool (inB n lo hi)) ∧ w = w' := by
  go_enter Tryz.func178, Tryz.ntmps178
  go_wp2
  all_goals (go_ret; exact ⟨by simp [inB, *] <;> omega, rfl⟩)
set_option maxHeartbeats 400000 in
theorem PValid_any (s a o : Int) (w : World) : Calls Tryz.prog 158 #[.agg #[.int .i64 s, .int .i64 a, .int .i64 o]] w fun e w' => e = .returned (.bool (vldB s a o)) ∧ Below w.heap.size w w' := by
  go_enter Tryz.func158, Tryz.ntmps158
  go_wp2_with ((go_at_call 178; refine (within_any _ _ _ _).mono ?_; rintro e w' ⟨rfl, rfl⟩))
  all_goals (go_ret; refine ⟨?_, (Below.refl _ _).alloc (Nat.le_refl _) _⟩; simp_all [vldB])
set_option maxHeartbeats 400000 in
theorem formed_any (x y : Int) (w : World) : Calls Tryz.prog 200 #[.agg #[.int .i64 x, .int .i64 y]] w fun e w' => e = .returned (.bool (frmB x y)) ∧ Below w.heap.size w w' := by
  go_enter Tryz.func200, Tryz.ntmps200
  go_wp2_with ((go_at_call 178; refine (within_any _ _ _ _).mono ?_; rintro e w' ⟨rfl, rfl⟩))
  all_goals (go_ret; refine ⟨?_, (Below.refl _ _).alloc (Nat.le_refl _) _⟩; simp_all [frmB])
theorem place_any (s a o : Int) (w : World) (h0 : -1000 ≤ s) (h1 : s ≤ 1000) (h2 : -1000 ≤ o) (h3 : o ≤ 1000) : Calls Tryz.prog 202 #[.agg #[.int .i64 s, .int .i64 a, .int .i64 o]] w fun e w' => e = .returned (.int .i64 (7 * o + s)) ∧ Below w.heap.size w w' := by
  go_enter Tryz.func202, Tryz.ntmps202
  go_wp2
  go_ret
  exact ⟨rfl, (Below.refl _ _).alloc (Nat.le_refl _) _⟩
set_option maxHeartbeats 400000 in
theorem number_any (s a o : Int) (w : World) (h0 : 0 ≤ s) (h1 : s ≤ 6) (h2 : -1000 ≤ o) (h3 : o ≤ 1000) (h4 : -1000 ≤ a) (h5 : a ≤ 1000) (hE : Env w) : Calls Tryz.prog 170 #[.agg #[.int .i64 s, .int .i64 a, .int .i64 o]] w fun e w' => e = .returned (.int .i64 (12 * o + natI s + a)) ∧ Below w.heap.size w w' := by
  obtain ⟨j, rfl⟩ := Int.eq_ofNat_of_zero_le h0
  have hz := hE.lt
  have hc := hE.nat j (by omega)
  obtain ⟨hn0, hn1⟩ := natI_bd j h0 h1
  have hj : j < 7 := by omega
  generalize natI j = N at *
  go_enter Tryz.func170, Tryz.ntmps170
  go_wp2
  go_quiet (fail)
  go_wp2
  go_ret
  exact ⟨rfl, below_drewN ((Below.refl _ _).alloc (Nat.le_refl _) _) nq⟩
theorem tdm (n : Int) : (n.tmod 7 < 0 → n.tdiv 7 - 1 = n / 7 ∧ n.tmod 7 + 7 = n % 7) ∧ (0 ≤ n.tmod 7 → n.tdiv 7 = n / 7 ∧ n.tmod 7 = n % 7) := by
  have h1 := Int.tmod_add_mul_tdiv n 7
  have h2 : n.tmod 7 < 7 := Int.tmod_lt_of_pos n (by decide)
  have h3 : -7 < n.tmod 7 := by
    have := Int.tmod_lt_of_pos (-n) (show (0 : Int) < 7 by decide)
    rw [Int.neg_tmod] at this; omega
  constructor <;> intro h <;> constructor <;> omega
/-- A quotient rounded down, and what is left. -/
theorem split_any (n : Int) (w : World) (h0 : -100000 ≤ n) (h1 : n ≤ 100000) : Calls Tryz.prog 201 #[.int .i64 n, .int .i64 7] w fun e w' => e = .returned (.tuple #[.int .i64 (n / 7), .int .i64 (n % 7)]) ∧ Below w.heap.size w w' := by
  obtain ⟨t1, t2⟩ := tdm n
  have T1 := Lib.hid t1; have T2 := Lib.hid t2; clear t1 t2
  have b1 : -100000 ≤ n.tdiv 7 := by have := Int.tmod_add_mul_tdiv n 7; have := T1.out; have := T2.out; omega
  have b2 : n.tdiv 7 ≤ 100000 := by have := Int.tmod_add_mul_tdiv n 7; have := T1.out; have := T2.out; omega
  have b3 : -7 ≤ n.tmod 7 := by have := T1.out; have := T2.out; omega
  have b4 : n.tmod 7 ≤ 7 := by have := T1.out; have := T2.out; omega
  go_enter Tryz.func201, Tryz.ntmps201
  go_wp2
  go_quiet (fail)
  go_wp2
  all_goals go_ret2
  · have h : n.tmod 7 < 0 := by assumption
    exact ⟨ret_ii (T1.out h).1 (T1.out h).2, below_drewN (Below.refl _ _) nq⟩
  · have h : 0 ≤ n.tmod 7 := by assumption
    exact ⟨ret_ii (T2.out h).1 (T2.out h).2, below_drewN (Below.refl _ _) nq⟩

set_option maxHeartbeats 400000 in
theorem Number_any (s a o : Int) (w : World) (hE : Env w) : Calls Tryz.prog 144 #[.agg #[.int .i64 s, .int .i64 a, .int .i64 o]] w fun e w' => e = .returned (.tuple #[.int .i64 (numberR s a o).1, .int .i64 (numberR s a o).2]) ∧ Below w.heap.size w w' := by
  have HE := Lib.hid hE; clear hE
  cases hv : vldB s a o
  · go_enter Tryz.func144, Tryz.ntmps144
    go_wp2_with ((go_at_call 158; refine (PValid_any _ _ _ _).mono ?_; rintro e w' ⟨rfl, hb⟩; have HX := Lib.hid (box_below hb); have hc := box_cells HX.out; have HB := Lib.hid (((Below.refl _ _).alloc (Nat.le_refl _) _).trans (hb.mono (by simp))); clear hb))
    go_ret2
    exact ⟨ret_ii (by simp [numberR, hv]) (by simp [numberR, hv]), HB.out⟩
  · have hbd := (vld_iff s a o).1 hv
    obtain ⟨⟨p1, p2⟩, ⟨p3, p4⟩, p5, p6⟩ := hbd
    go_enter Tryz.func144, Tryz.ntmps144
    go_wp2_with (first | (go_at_call 158; refine (PValid_any _ _ _ _).mono ?_; rintro e w' ⟨rfl, hb⟩; have HX := Lib.hid (box_below hb); have hc := box_cells HX.out; have HB := Lib.hid (((Below.refl _ _).alloc (Nat.le_refl _) _).trans (hb.mono (by simp))); clear hb) | (go_at_call 170; refine (number_any _ _ _ _ (by omega) (by omega) (by omega) (by omega) (by omega) (by omega) (HE.out.below HB.out)).mono ?_; rintro e w2 ⟨rfl, hb⟩; replace HB := Lib.hid (HB.out.trans (hb.mono HB.out.size)); clear hb))
    go_ret2
    exact ⟨ret_ii (by simp [numberR, hv]) (by simp [numberR, hv]), HB.out⟩
set_option maxHeartbeats 400000 in
theorem Back_any (x y : Int) (w : World) : Calls Tryz.prog 198 #[.agg #[.int .i64 x, .int .i64 y]] w fun e w' => e = .returned (.tuple #[.agg #[.int .i64 (backR x y).1, .int .i64 (backR x y).2.1], .int .i64 (backR x y).2.2]) ∧ Below w.heap.size w w' := by
  cases hv : frmB x y
  · rw [show backR x y = (0, 0, 1) by simp [backR, hv]]
    go_enter Tryz.func198, Tryz.ntmps198
    go_wp2_with (go_at_call 200; refine (formed_any _ _ _).mono ?_; rintro e w' ⟨rfl, hb⟩; obtain ⟨x1, x2, hb'⟩ := box2 hb; have HX1 := Lib.hid x1; have HX2 := Lib.hid x2; have hc1 := box_cells x1; have hc2 := box_cells x2; have hf2 := box_free x2; have HB := Lib.hid hb'; clear hb hb' x1 x2)
    exact bodyPost_ret (v := .tuple #[.agg #[.int .i64 0, .int .i64 0], .int .i64 1]) (by simp [results, Tryz.results198, go_sem, hc2, hf2]) rfl ⟨rfl, (HB.out.setCell (by simp <;> omega) _).setCell (by simp <;> omega) _⟩
  · rw [show backR x y = (-x, -y, 0) by simp [backR, hv]]
    obtain ⟨⟨p1, p2⟩, p3, p4⟩ := (frm_iff x y).1 hv
    go_enter Tryz.func198, Tryz.ntmps198
    go_wp2_with (go_at_call 200; refine (formed_any _ _ _).mono ?_; rintro e w' ⟨rfl, hb⟩; obtain ⟨x1, x2, hb'⟩ := box2 hb; have HX1 := Lib.hid x1; have HX2 := Lib.hid x2; have hc1 := box_cells x1; have hc2 := box_cells x2; have hf2 := box_free x2; have HB := Lib.hid hb'; clear hb hb' x1 x2)
    exact bodyPost_ret (v := .tuple #[.agg #[.int .i64 (-x), .int .i64 (-y)], .int .i64 0]) (by simp [results, Tryz.results198, go_sem, hc2, hf2]) rfl ⟨rfl, (HB.out.setCell (by simp <;> omega) _).setCell (by simp <;> omega) _⟩
end Go.Proofs.YtcelciomhngajaaGreatDoor
/- Contracts of pitch.Between, pitch.Add. -/
namespace Go.Proofs.YtcelciomhngajaaGreatDoor
set_option linter.unusedSimpArgs false
set_option linter.unusedVariables false
open Go.RowKit Go.Sort
theorem cells3 {w : World} {B : Nat} {a b c : Value} {T : TypeId} {fr : Nat × Nat} (h : w.heap[B]? = some (.cells #[a, b, c] T fr)) : w.cell? ⟨B, 0, none⟩ = some a ∧ w.cell? ⟨B, 1, none⟩ = some b ∧ w.cell? ⟨B, 2, none⟩ = some c := ⟨box_cells h 0, box_cells h 1, box_cells h 2⟩
theorem cells2 {w : World} {B : Nat} {a b : Value} {T : TypeId} {fr : Nat × Nat} (h : w.heap[B]? = some (.cells #[a, b] T fr)) : w.cell? ⟨B, 0, none⟩ = some a ∧ w.cell? ⟨B, 1, none⟩ = some b := ⟨box_cells h 0, box_cells h 1⟩
end Go.Proofs.YtcelciomhngajaaGreatDoor
/- Drawn regions walked by hand: an operation taken first, the only one that may come up, one of two. -/
namespace Go.Proofs.YtcelciomhngajaaGreatDoor
set_option linter.unusedSimpArgs false
set_option linter.unusedVariables false
open Go.RowKit Go.Sort

theorem wpAnyH_take1 {P : Program} {md : Region.Mode} {ops : Array Oper} {Q : Exit → Act → World → Prop} {S : World → Prop} (i : Nat) {oi : Oper} {v : Value} {fuel : Nat} {listed : Array Bool} {a : Act} {w : World} (hi : ops[i]? = some oi)
    (hs : Region.noSelect ops = true) (hf : Region.free md ops listed i = true) (hr : (Region.ready md ops listed).contains i = true) (hS : S w)
    (hy : Region.wanted oi (yielded ops a.tmps) = true ∧ ∀ w, S w → (execOp a.eval oi).run P w = .ok (.value v) w) (hQ : ∀ c a w, Q (.panic c) (Act.put a oi.dst v) w → Q (.panic c) a w) (h : wpAnyH P md ops Q S fuel (listed.setIfInBounds i true) (a.put oi.dst v) w) : wpAnyH P md ops Q S (fuel + 1) listed a w :=
  wpAnyH_take hi hs hf hr hQ (.inl hy) hS h
theorem wpAnyH_call1 {P : Program} {md : Region.Mode} {ops : Array Oper} {Q : Exit → Act → World → Prop} {S : World → Prop} {i : Nat} {o : Oper} {fuel : Nat} {listed : Array Bool} {a : Act} {w : World} (hr : Region.ready md ops listed = [i]) (ho : ops[i]? = some o)
    (h : ∀ K' : Act → World → Prop, Shut (∀ a w, S w → (S w → wpAnyH P md ops Q S fuel (listed.setIfInBounds i true) a w) → K' a w) → if Region.wanted o (yielded ops a.tmps) = true then Oper.wp P o a w K' Q else K' (a.put o.dst undef) w) : wpAnyH P md ops Q S (fuel + 1) listed a w :=
  wpAnyH_ready hr (by simp) (AllReadyH.cons ho h AllReadyH.nil)
theorem wpAnyH_two {P : Program} {md : Region.Mode} {ops : Array Oper} {Q : Exit → Act → World → Prop} {S : World → Prop} {i j : Nat} {o o' : Oper} {fuel : Nat} {listed : Array Bool} {a : Act} {w : World} (hr : Region.ready md ops listed = [i, j]) (ho : ops[i]? = some o) (ho' : ops[j]? = some o')
    (h : ∀ K' : Act → World → Prop, Shut (∀ a w, S w → (S w → wpAnyH P md ops Q S fuel (listed.setIfInBounds i true) a w) → K' a w) → if Region.wanted o (yielded ops a.tmps) = true then Oper.wp P o a w K' Q else K' (a.put o.dst undef) w)
    (h' : ∀ K' : Act → World → Prop, Shut (∀ a w, S w → (S w → wpAnyH P md ops Q S fuel (listed.setIfInBounds j true) a w) → K' a w) → if Region.wanted o' (yielded ops a.tmps) = true then Oper.wp P o' a w K' Q else K' (a.put o'.dst undef) w) : wpAnyH P md ops Q S (fuel + 1) listed a w :=
  wpAnyH_ready hr (by simp) (AllReadyH.cons ho h (AllReadyH.cons ho' h' AllReadyH.nil))
end Go.Proofs.YtcelciomhngajaaGreatDoor
/- The contract of pitch.Add. -/
namespace Go.Proofs.YtcelciomhngajaaGreatDoor
set_option linter.unusedSimpArgs false
set_option linter.unusedVariables false
open Go.RowKit Go.Sort
/-- The cells of the pitch and of the interval that Add was called with. -/
def SA (B : Nat) (s a o x y : Int) (W : World) : Prop := (W.cell? ⟨B, 0, none⟩ = some (.int .i64 s) ∧ W.cell? ⟨B, 1, none⟩ = some (.int .i64 a) ∧ W.cell? ⟨B, 2, none⟩ = some (.int .i64 o)) ∧ W.cell? ⟨B + 1, 0, none⟩ = some (.int .i64 x) ∧ W.cell? ⟨B + 1, 1, none⟩ = some (.int .i64 y)
theorem eql_iv (x y x' y' : Int) (w : World) : (binOp .eql 91 (.agg #[.int .i64 x, .int .i64 y]) (.agg #[.int .i64 x', .int .i64 y'])).run Tryz.prog w = .ok (.bool (x == x' && y == y')) w := by
  rw [run_eql_struct]
  simp [go_sem]
  cases h1 : x == x' <;> cases h2 : y == y' <;> simp_all [go_sem]
set_option maxRecDepth 100000 in
set_option maxHeartbeats 4000000 in
theorem Add_bad (s a o x y : Int) (w : World) (hv : (vldB s a o && frmB x y) = false) : Calls Tryz.prog 175 #[.agg #[.int .i64 s, .int .i64 a, .int .i64 o], .agg #[.int .i64 x, .int .i64 y]] w fun e w' => e = .returned (.tuple #[.agg #[.int .i64 0, .int .i64 0, .int .i64 0], .int .i64 1]) ∧ Below w.heap.size w w' := by
  cases h1 : vldB s a o
  · clear hv
    go_enter Tryz.func175, Tryz.ntmps175
    go_wp2_with (go_at_call 158; refine (PValid_any _ _ _ _).mono ?_; rintro e w' ⟨rfl, hb⟩; obtain ⟨x1, x2, x3, hb'⟩ := box3 hb; have HX1 := Lib.hid x1; have HX2 := Lib.hid x2; have HX3 := Lib.hid x3; have hc1 := box_cells x1; have hc2 := box_cells x2; have hc3 := box_cells x3; have hf3 := box_free x3; have HB := Lib.hid hb'; clear hb hb' x1 x2 x3)
    exact bodyPost_ret (v := .tuple #[.agg #[.int .i64 0, .int .i64 0, .int .i64 0], .int .i64 1]) (by simp [results, Tryz.results175, go_sem, hc3, hf3]) rfl ⟨rfl, (((HB.out.setCell (by simp <;> omega) _).setCell (by simp <;> omega) _).setCell (by simp <;> omega) _)⟩
  · have h2 : frmB x y = false := by simpa [h1] using hv
    clear hv
    go_enter Tryz.func175, Tryz.ntmps175
    go_wp2_with (fail)
    refine (PValid_any _ _ _ _).mono ?_; rintro e w' ⟨rfl, hb⟩; obtain ⟨x1, x2, x3, hb'⟩ := box3 hb; have HX1 := Lib.hid x1; have HX2 := Lib.hid x2; have HX3 := Lib.hid x3; have hc1 := box_cells x1; have hc2 := box_cells x2; have hc3 := box_cells x3; have hf3 := box_free x3; have HB := Lib.hid hb'; clear hb hb' x1 x2 x3
    go_wp2_with (fail)
    refine (formed_any _ _ _).mono ?_; rintro e w' ⟨rfl, hb⟩; (try replace hb := drewB hb); replace HB := Lib.hid (HB.out.trans (hb.mono HB.out.size)); replace HX1 := Lib.hid (blk_keep HX1.out hb); replace HX2 := Lib.hid (blk_keep HX2.out hb); replace HX3 := Lib.hid (blk_keep HX3.out hb); (try replace HX4 := Lib.hid (blk_keep HX4.out hb)); replace hc1 := box_cells HX1.out; replace hc2 := box_cells HX2.out; replace hc3 := box_cells HX3.out; replace hf3 := box_free HX3.out; (try replace hc4 := box_cells HX4.out); (try replace hf4 := box_free HX4.out); clear hb
    go_wp2
    exact bodyPost_ret (v := .tuple #[.agg #[.int .i64 0, .int .i64 0, .int .i64 0], .int .i64 1]) (by simp [results, Tryz.results175, go_sem, hc3, hf3]) rfl ⟨rfl, (((HB.out.setCell (by simp <;> omega) _).setCell (by simp <;> omega) _).setCell (by simp <;> omega) _)⟩
set_option maxRecDepth 100000 in
set_option maxHeartbeats 4000000 in
theorem Add_zero (s a o : Int) (w : World) (hv : vldB s a o = true) : Calls Tryz.prog 175 #[.agg #[.int .i64 s, .int .i64 a, .int .i64 o], .agg #[.int .i64 0, .int .i64 0]] w fun e w' => e = .returned (.tuple #[.agg #[.int .i64 s, .int .i64 a, .int .i64 o], .int .i64 0]) ∧ Below w.heap.size w w' := by
  have hf : frmB 0 0 = true := by decide
  have heq := eql_iv 0 0 0 0
  go_enter Tryz.func175, Tryz.ntmps175
  go_wp2_with (fail)
  refine (PValid_any _ _ _ _).mono ?_; rintro e w' ⟨rfl, hb⟩; obtain ⟨x1, x2, x3, hb'⟩ := box3 hb; have HX1 := Lib.hid x1; have HX2 := Lib.hid x2; have HX3 := Lib.hid x3; have hc1 := box_cells x1; have hc2 := box_cells x2; have hc3 := box_cells x3; have hf3 := box_free x3; have HB := Lib.hid hb'; clear hb hb' x1 x2 x3
  go_wp2_with (fail)
  refine (formed_any _ _ _).mono ?_; rintro e w' ⟨rfl, hb⟩; (try replace hb := drewB hb); replace HB := Lib.hid (HB.out.trans (hb.mono HB.out.size)); replace HX1 := Lib.hid (blk_keep HX1.out hb); replace HX2 := Lib.hid (blk_keep HX2.out hb); replace HX3 := Lib.hid (blk_keep HX3.out hb); (try replace HX4 := Lib.hid (blk_keep HX4.out hb)); replace hc1 := box_cells HX1.out; replace hc2 := box_cells HX2.out; replace hc3 := box_cells HX3.out; replace hf3 := box_free HX3.out; (try replace hc4 := box_cells HX4.out); (try replace hf4 := box_free HX4.out); clear hb
  go_wp2
  exact bodyPost_ret (v := .tuple #[.agg #[.int .i64 s, .int .i64 a, .int .i64 o], .int .i64 0]) (by simp [results, Tryz.results175, go_sem, hc3, hf3]) rfl ⟨rfl, (((HB.out.setCell (by simp <;> omega) _).setCell (by simp <;> omega) _).setCell (by simp <;> omega) _)⟩
set_option maxRecDepth 100000 in
set_option maxHeartbeats 4000000 in
theorem Add_go (s a o x y o' s' a' : Int) (r0 r1 r2 r3 : Int) (w : World) (hE : Hid (Env w)) (hv : vldB s a o = true) (hf : frmB x y = true) (hz : (x == 0 && y == 0) = false)
    (ho : Hid ((7 * o + s + x) / 7 = o')) (hs : Hid ((7 * o + s + x) % 7 = s')) (ha : Hid (12 * o + natI s + a + y - (12 * o' + natI s') = a'))
    (p1 : 0 ≤ s) (p2 : s ≤ 6) (p3 : -4 ≤ a) (p4 : a ≤ 4) (p5 : -8 ≤ o) (p6 : o ≤ 20) (q1 : -70 ≤ x) (q2 : x ≤ 70) (q3 : -120 ≤ y) (q4 : y ≤ 120) (t1 : 0 ≤ s') (t2 : s' ≤ 6) (t3 : -100 ≤ o') (t4 : o' ≤ 100) (n1 : 0 ≤ natI s) (n2 : natI s ≤ 11) (n3 : 0 ≤ natI s') (n4 : natI s' ≤ 11)
    (hR : Hid (if vldB s' a' o' = true then r0 = s' ∧ r1 = a' ∧ r2 = o' ∧ r3 = 0 else r0 = 0 ∧ r1 = 0 ∧ r2 = 0 ∧ r3 = 3)) :
    Calls Tryz.prog 175 #[.agg #[.int .i64 s, .int .i64 a, .int .i64 o], .agg #[.int .i64 x, .int .i64 y]] w fun e w' => e = .returned (.tuple #[.agg #[.int .i64 r0, .int .i64 r1, .int .i64 r2], .int .i64 r3]) ∧ Below w.heap.size w w' := by
  have heq := eql_iv x y 0 0
  rw [hz] at heq
  have W1 := Lib.hid (IntWalk.i64_in (7 * o + s + x) (by omega))
  have W2 := Lib.hid (IntWalk.i64_in (12 * o + natI s + a + y) (by omega))
  have W3 := Lib.hid (IntWalk.i64_in a' (by have := ha.out; omega))
  go_enter Tryz.func175, Tryz.ntmps175
  go_wp2_with (fail)
  refine (PValid_any _ _ _ _).mono ?_; rintro e w' ⟨rfl, hb⟩; obtain ⟨x1, x2, x3, hb'⟩ := box3 hb; have HX1 := Lib.hid x1; have HX2 := Lib.hid x2; have HX3 := Lib.hid x3; have hc1 := box_cells x1; have hc2 := box_cells x2; have hc3 := box_cells x3; have hf3 := box_free x3; have HB := Lib.hid hb'; clear hb hb' x1 x2 x3
  go_wp2_with (fail)
  refine (formed_any _ _ _).mono ?_; rintro e w1 ⟨rfl, hb⟩; (try replace hb := drewB hb); replace HB := Lib.hid (HB.out.trans (hb.mono HB.out.size)); replace HX1 := Lib.hid (blk_keep HX1.out hb); replace HX2 := Lib.hid (blk_keep HX2.out hb); replace HX3 := Lib.hid (blk_keep HX3.out hb); (try replace HX4 := Lib.hid (blk_keep HX4.out hb)); replace hc1 := box_cells HX1.out; replace hc2 := box_cells HX2.out; replace hc3 := box_cells HX3.out; replace hf3 := box_free HX3.out; (try replace hc4 := box_cells HX4.out); (try replace hf4 := box_free HX4.out); clear hb
  have hz1 : w.heap.size + 2 < w1.heap.size := (Array.getElem?_eq_some_iff.1 HX3.out).1
  go_wp2
  have x4 := heap_alloc_new w1 (.cells #[.int .i64 0, .int .i64 0, .int .i64 0] 62)
  have hb := (Below.refl w1.heap.size w1).alloc (Nat.le_refl _) (.cells #[.int .i64 0, .int .i64 0, .int .i64 0] 62)
  have HX4 := Lib.hid x4; clear x4
  (try replace hb := drewB hb); replace HB := Lib.hid (HB.out.trans (hb.mono HB.out.size)); replace HX1 := Lib.hid (blk_keep HX1.out hb); replace HX2 := Lib.hid (blk_keep HX2.out hb); replace HX3 := Lib.hid (blk_keep HX3.out hb); (try replace HX4 := Lib.hid (blk_keep HX4.out hb)); replace hc1 := box_cells HX1.out; replace hc2 := box_cells HX2.out; replace hc3 := box_cells HX3.out; replace hf3 := box_free HX3.out; (try replace hc4 := box_cells HX4.out); (try replace hf4 := box_free HX4.out); clear hb
  generalize hW : w1.alloc (.cells #[.int .i64 0, .int .i64 0, .int .i64 0] 62) = W at *
  have hc4 := box_cells HX4.out
  have hf4 := box_free HX4.out
  have hN : w1.heap.size < W.heap.size := (Array.getElem?_eq_some_iff.1 HX4.out).1
  clear hW
  generalize hNN : w1.heap.size = N at *
  clear hNN
  go_region_held3 (fun W => (W.cell? ⟨w.heap.size, 0, none⟩ = some (.int .i64 s) ∧ W.cell? ⟨w.heap.size, 1, none⟩ = some (.int .i64 a) ∧ W.cell? ⟨w.heap.size, 2, none⟩ = some (.int .i64 o)) ∧ W.cell? ⟨w.heap.size + 1, 0, none⟩ = some (.int .i64 x) ∧ W.cell? ⟨w.heap.size + 1, 1, none⟩ = some (.int .i64 y))
    (first | exact ⟨cells3 HX1.out, cells2 HX2.out⟩ | exact ⟨cells3 ((heap_setCell_other _ _ _ _ (show _ ≠ _ by simp <;> omega)).trans HX1.out), cells2 ((heap_setCell_other _ _ _ _ (show _ ≠ _ by simp <;> omega)).trans HX2.out)⟩ | exact ⟨cells3 ((heap_setCell_other _ _ _ _ (show _ ≠ _ by simp <;> omega)).trans ((heap_setCell_other _ _ _ _ (show _ ≠ _ by simp <;> omega)).trans HX1.out)), cells2 ((heap_setCell_other _ _ _ _ (show _ ≠ _ by simp <;> omega)).trans ((heap_setCell_other _ _ _ _ (show _ ≠ _ by simp <;> omega)).trans HX2.out))⟩ | go_keep)
    (first | (go_at_call 202; refine (place_any _ _ _ _ (by omega) (by omega) (by omega) (by omega)).mono ?_; rintro e w2 ⟨rfl, hb⟩; (try replace hb := drewB hb); replace HB := Lib.hid (HB.out.trans (hb.mono HB.out.size)); replace HX1 := Lib.hid (blk_keep HX1.out hb); replace HX2 := Lib.hid (blk_keep HX2.out hb); replace HX3 := Lib.hid (blk_keep HX3.out hb); (try replace HX4 := Lib.hid (blk_keep HX4.out hb)); replace hc1 := box_cells HX1.out; replace hc2 := box_cells HX2.out; replace hc3 := box_cells HX3.out; replace hf3 := box_free HX3.out; (try replace hc4 := box_cells HX4.out); (try replace hf4 := box_free HX4.out); clear hb) | (go_at_call 201; (try rw [W1.out]); refine (split_any _ _ (by omega) (by omega)).mono ?_; rw [ho.out, hs.out]; rintro e w2 ⟨rfl, hb⟩; (try replace hb := drewB hb); replace HB := Lib.hid (HB.out.trans (hb.mono HB.out.size)); replace HX1 := Lib.hid (blk_keep HX1.out hb); replace HX2 := Lib.hid (blk_keep HX2.out hb); replace HX3 := Lib.hid (blk_keep HX3.out hb); (try replace HX4 := Lib.hid (blk_keep HX4.out hb)); replace hc1 := box_cells HX1.out; replace hc2 := box_cells HX2.out; replace hc3 := box_cells HX3.out; replace hf3 := box_free HX3.out; (try replace hc4 := box_cells HX4.out); (try replace hf4 := box_free HX4.out); clear hb))
  have y1 : ((w2.setCell ⟨N, 2, none⟩ (.int .i64 o')).setCell ⟨N, 0, none⟩ (.int .i64 s')).heap[w.heap.size]? = _ := (heap_setCell_other _ _ _ _ (show _ ≠ _ by simp <;> omega)).trans ((heap_setCell_other _ _ _ _ (show _ ≠ _ by simp <;> omega)).trans HX1.out)
  have y2 : ((w2.setCell ⟨N, 2, none⟩ (.int .i64 o')).setCell ⟨N, 0, none⟩ (.int .i64 s')).heap[w.heap.size + 1]? = _ := (heap_setCell_other _ _ _ _ (show _ ≠ _ by simp <;> omega)).trans ((heap_setCell_other _ _ _ _ (show _ ≠ _ by simp <;> omega)).trans HX2.out)
  have y3 : ((w2.setCell ⟨N, 2, none⟩ (.int .i64 o')).setCell ⟨N, 0, none⟩ (.int .i64 s')).heap[w.heap.size + 2]? = _ := (heap_setCell_other _ _ _ _ (show _ ≠ _ by simp <;> omega)).trans ((heap_setCell_other _ _ _ _ (show _ ≠ _ by simp <;> omega)).trans HX3.out)
  have y4 : ((w2.setCell ⟨N, 2, none⟩ (.int .i64 o')).setCell ⟨N, 0, none⟩ (.int .i64 s')).heap[N]? = some (.cells #[.int .i64 s', .int .i64 0, .int .i64 o'] 62 (0, 0)) := heap_setCell_same _ _ _ _ _ _ (heap_setCell_same _ _ _ _ _ _ HX4.out)
  have yb : Below w.heap.size w ((w2.setCell ⟨N, 2, none⟩ (.int .i64 o')).setCell ⟨N, 0, none⟩ (.int .i64 s')) := (HB.out.setCell (by simp <;> omega) _).setCell (by simp <;> omega) _
  clear HX1 HX2 HX3 HX4 HB hc1 hc2 hc3 hc4 hf3 hf4
  have HX1 := Lib.hid y1; have HX2 := Lib.hid y2; have HX3 := Lib.hid y3; have HX4 := Lib.hid y4; have HB := Lib.hid yb
  clear y1 y2 y3 y4 yb
  generalize ((w2.setCell ⟨N, 2, none⟩ (.int .i64 o')).setCell ⟨N, 0, none⟩ (.int .i64 s')) = V at *
  have hc1 := box_cells HX1.out; have hc2 := box_cells HX2.out; have hc3 := box_cells HX3.out; have hc4 := box_cells HX4.out; have hf3 := box_free HX3.out; have hf4 := box_free HX4.out
  go_wp2
  have hS0 : SA w.heap.size s a o x y V.drew := ⟨cells3 HX1.out, cells2 HX2.out⟩
  refine wp_region_held_drew (S := SA w.heap.size s a o x y) (by kernel_rfl) hS0 (fun hHeld => ?_)
  (refine wpAnyH_take1 0 (oi := ?_) (v := ?_) ?_ (by kernel_rfl) (by kernel_rfl) (by kernel_rfl) (by assumption) ?_ ?_ ?_; rotate_left 2; (· simp only [List.getElem?_toArray, List.getElem?_cons_succ, List.getElem?_cons_zero]; try rfl); (· refine ⟨by kernel_rfl, ?_⟩; intro wq hSw; obtain ⟨⟨z0, z1, z2⟩, z3, z4⟩ := hSw; go_simp; first | done | with_reducible rfl); (· exact fun _ _ _ h => h); try simp only [Act.put, List.setIfInBounds_toArray, List.set_cons_zero, List.set_cons_succ])
  (refine wpAnyH_take1 2 (oi := ?_) (v := ?_) ?_ (by kernel_rfl) (by kernel_rfl) (by kernel_rfl) (by assumption) ?_ ?_ ?_; rotate_left 2; (· simp only [List.getElem?_toArray, List.getElem?_cons_succ, List.getElem?_cons_zero]; try rfl); (· refine ⟨by kernel_rfl, ?_⟩; intro wq hSw; obtain ⟨⟨z0, z1, z2⟩, z3, z4⟩ := hSw; go_simp; first | done | with_reducible rfl); (· exact fun _ _ _ h => h); try simp only [Act.put, List.setIfInBounds_toArray, List.set_cons_zero, List.set_cons_succ])
  (refine wpAnyH_take1 3 (oi := ?_) (v := ?_) ?_ (by kernel_rfl) (by kernel_rfl) (by kernel_rfl) (by assumption) ?_ ?_ ?_; rotate_left 2; (· simp only [List.getElem?_toArray, List.getElem?_cons_succ, List.getElem?_cons_zero]; try rfl); (· refine ⟨by kernel_rfl, ?_⟩; intro wq hSw; obtain ⟨⟨z0, z1, z2⟩, z3, z4⟩ := hSw; go_simp; first | done | with_reducible rfl); (· exact fun _ _ _ h => h); try simp only [Act.put, List.setIfInBounds_toArray, List.set_cons_zero, List.set_cons_succ])
  (refine wpAnyH_two (i := 1) (j := 5) (o := ?_) (o' := ?_) (by kernel_rfl) ?_ ?_ (fun K hK => ?_) (fun K hK => ?_); rotate_left 2; (· simp only [List.getElem?_toArray, List.getElem?_cons_succ, List.getElem?_cons_zero]; try rfl); (· simp only [List.getElem?_toArray, List.getElem?_cons_succ, List.getElem?_cons_zero]; try rfl))
  · go_simp
    refine (number_any _ _ _ _ (by omega) (by omega) (by omega) (by omega) (by omega) (by omega) (by first | exact hE.out.below HB.out | exact (hE.out.below HB.out).drew)).mono ?_; rintro e w2 ⟨rfl, hb⟩; (try replace hb := drewB hb); replace HB := Lib.hid (HB.out.trans (hb.mono HB.out.size)); replace HX1 := Lib.hid (blk_keep HX1.out hb); replace HX2 := Lib.hid (blk_keep HX2.out hb); replace HX3 := Lib.hid (blk_keep HX3.out hb); (try replace HX4 := Lib.hid (blk_keep HX4.out hb)); replace hc1 := box_cells HX1.out; replace hc2 := box_cells HX2.out; replace hc3 := box_cells HX3.out; replace hf3 := box_free HX3.out; (try replace hc4 := box_cells HX4.out); (try replace hf4 := box_free HX4.out); clear hb; go_simp; refine hK.out _ _ ⟨cells3 HX1.out, cells2 HX2.out⟩ (fun hH => ?_); clear hK K hHeld; have hHeld := hH; clear hH
    (refine wpAnyH_take1 4 (oi := ?_) (v := ?_) ?_ (by kernel_rfl) (by kernel_rfl) (by kernel_rfl) (by assumption) ?_ ?_ ?_; rotate_left 2; (· simp only [List.getElem?_toArray, List.getElem?_cons_succ, List.getElem?_cons_zero]; try rfl); (· refine ⟨by kernel_rfl, ?_⟩; intro wq hSw; skip; go_simp; first | done | with_reducible rfl); (· exact fun _ _ _ h => h); try simp only [Act.put, List.setIfInBounds_toArray, List.set_cons_zero, List.set_cons_succ])
    (refine wpAnyH_call1 (i := 5) (o := ?_) (by kernel_rfl) ?_ (fun K hK => ?_); rotate_left 1; (· simp only [List.getElem?_toArray, List.getElem?_cons_succ, List.getElem?_cons_zero]; try rfl); go_simp)
    go_simp; refine hK.out _ _ ⟨cells3 HX1.out, cells2 HX2.out⟩ (fun hH => ?_); clear hK K hHeld; have hHeld := hH; clear hH
    (refine wpAnyH_call1 (i := 6) (o := ?_) (by kernel_rfl) ?_ (fun K hK => ?_); rotate_left 1; (· simp only [List.getElem?_toArray, List.getElem?_cons_succ, List.getElem?_cons_zero]; try rfl); go_simp)
    refine (number_any _ _ _ _ (by omega) (by omega) (by omega) (by omega) (by omega) (by omega) (by first | exact hE.out.below HB.out | exact (hE.out.below HB.out).drew)).mono ?_; rintro e w2 ⟨rfl, hb⟩; (try replace hb := drewB hb); replace HB := Lib.hid (HB.out.trans (hb.mono HB.out.size)); replace HX1 := Lib.hid (blk_keep HX1.out hb); replace HX2 := Lib.hid (blk_keep HX2.out hb); replace HX3 := Lib.hid (blk_keep HX3.out hb); (try replace HX4 := Lib.hid (blk_keep HX4.out hb)); replace hc1 := box_cells HX1.out; replace hc2 := box_cells HX2.out; replace hc3 := box_cells HX3.out; replace hf3 := box_free HX3.out; (try replace hc4 := box_cells HX4.out); (try replace hf4 := box_free HX4.out); clear hb; go_simp; refine hK.out _ _ ⟨cells3 HX1.out, cells2 HX2.out⟩ (fun hH => ?_); clear hK K hHeld; have hHeld := hH; clear hH
    (refine wpAnyH_take1 7 (oi := ?_) (v := ?_) ?_ (by kernel_rfl) (by kernel_rfl) (by kernel_rfl) (by assumption) ?_ ?_ ?_; rotate_left 2; (· simp only [List.getElem?_toArray, List.getElem?_cons_succ, List.getElem?_cons_zero]; try rfl); (· refine ⟨by kernel_rfl, ?_⟩; intro wq hSw; skip; go_simp; first | done | with_reducible rfl); (· exact fun _ _ _ h => h); try simp only [Act.put, List.setIfInBounds_toArray, List.set_cons_zero, List.set_cons_succ])
    (refine wpAnyH_take1 8 (oi := ?_) (v := ?_) ?_ (by kernel_rfl) (by kernel_rfl) (by kernel_rfl) (by assumption) ?_ ?_ ?_; rotate_left 2; (· simp only [List.getElem?_toArray, List.getElem?_cons_succ, List.getElem?_cons_zero]; try rfl); (· refine ⟨by kernel_rfl, ?_⟩; intro wq hSw; skip; go_simp; first | done | with_reducible rfl); (· exact fun _ _ _ h => h); try simp only [Act.put, List.setIfInBounds_toArray, List.set_cons_zero, List.set_cons_succ])
    (refine wpAnyH_call1 (i := 9) (o := ?_) (by kernel_rfl) ?_ (fun K hK => ?_); rotate_left 1; (· simp only [List.getElem?_toArray, List.getElem?_cons_succ, List.getElem?_cons_zero]; try rfl); go_simp)
    refine hK.out _ _ ⟨cells3 ((heap_setCell_other _ _ _ _ (show _ ≠ _ by simp <;> omega)).trans HX1.out), cells2 ((heap_setCell_other _ _ _ _ (show _ ≠ _ by simp <;> omega)).trans HX2.out)⟩ (fun hH => ?_)
    refine wpAnyH_done (by kernel_rfl) ?_ _
    simp only [W2.out, ha.out, W3.out]
    have y1 : (w2.setCell ⟨N, 1, none⟩ (.int .i64 a')).heap[w.heap.size]? = _ := (heap_setCell_other _ _ _ _ (show _ ≠ _ by simp <;> omega)).trans HX1.out
    have y2 : (w2.setCell ⟨N, 1, none⟩ (.int .i64 a')).heap[w.heap.size + 1]? = _ := (heap_setCell_other _ _ _ _ (show _ ≠ _ by simp <;> omega)).trans HX2.out
    have y3 : (w2.setCell ⟨N, 1, none⟩ (.int .i64 a')).heap[w.heap.size + 2]? = _ := (heap_setCell_other _ _ _ _ (show _ ≠ _ by simp <;> omega)).trans HX3.out
    have y4 : (w2.setCell ⟨N, 1, none⟩ (.int .i64 a')).heap[N]? = some (.cells #[.int .i64 s', .int .i64 a', .int .i64 o'] 62 (0, 0)) := heap_setCell_same _ _ _ _ _ _ HX4.out
    have yb : Below w.heap.size w (w2.setCell ⟨N, 1, none⟩ (.int .i64 a')) := HB.out.setCell (by simp <;> omega) _
    clear hK K hHeld HX1 HX2 HX3 HX4 HB hc1 hc2 hc3 hc4 hf3 hf4 hH
    have HX1 := Lib.hid y1; have HX2 := Lib.hid y2; have HX3 := Lib.hid y3; have HX4 := Lib.hid y4; have HB := Lib.hid yb
    clear y1 y2 y3 y4 yb
    generalize (w2.setCell ⟨N, 1, none⟩ (.int .i64 a')) = V2 at *
    have hc1 := box_cells HX1.out; have hc2 := box_cells HX2.out; have hc3 := box_cells HX3.out; have hc4 := box_cells HX4.out; have hf3 := box_free HX3.out; have hf4 := box_free HX4.out
    cases hvo : vldB s' a' o'
    · rw [hvo] at hR
      obtain ⟨rfl, rfl, rfl, rfl⟩ := hR.out
      go_wp2_with (fail)
      refine (PValid_any _ _ _ _).mono ?_; rintro e w' ⟨rfl, hb⟩; (try replace hb := drewB hb); replace HB := Lib.hid (HB.out.trans (hb.mono HB.out.size)); replace HX1 := Lib.hid (blk_keep HX1.out hb); replace HX2 := Lib.hid (blk_keep HX2.out hb); replace HX3 := Lib.hid (blk_keep HX3.out hb); (try replace HX4 := Lib.hid (blk_keep HX4.out hb)); replace hc1 := box_cells HX1.out; replace hc2 := box_cells HX2.out; replace hc3 := box_cells HX3.out; replace hf3 := box_free HX3.out; (try replace hc4 := box_cells HX4.out); (try replace hf4 := box_free HX4.out); clear hb
      go_wp2
      exact bodyPost_ret (v := .tuple #[.agg #[.int .i64 0, .int .i64 0, .int .i64 0], .int .i64 3]) (by simp [results, Tryz.results175, go_sem, hc3, hf3]) rfl ⟨rfl, (((HB.out.setCell (by simp <;> omega) _).setCell (by simp <;> omega) _).setCell (by simp <;> omega) _)⟩
    · rw [hvo] at hR
      obtain ⟨rfl, rfl, rfl, rfl⟩ := hR.out
      go_wp2_with (fail)
      refine (PValid_any _ _ _ _).mono ?_; rintro e w' ⟨rfl, hb⟩; (try replace hb := drewB hb); replace HB := Lib.hid (HB.out.trans (hb.mono HB.out.size)); replace HX1 := Lib.hid (blk_keep HX1.out hb); replace HX2 := Lib.hid (blk_keep HX2.out hb); replace HX3 := Lib.hid (blk_keep HX3.out hb); (try replace HX4 := Lib.hid (blk_keep HX4.out hb)); replace hc1 := box_cells HX1.out; replace hc2 := box_cells HX2.out; replace hc3 := box_cells HX3.out; replace hf3 := box_free HX3.out; (try replace hc4 := box_cells HX4.out); (try replace hf4 := box_free HX4.out); clear hb
      go_wp2
      exact bodyPost_ret (v := .tuple #[.agg #[.int .i64 r0, .int .i64 r1, .int .i64 r2], .int .i64 0]) (by simp [results, Tryz.results175, go_sem, hc3, hf3]) rfl ⟨rfl, (((HB.out.setCell (by simp <;> omega) _).setCell (by simp <;> omega) _).setCell (by simp <;> omega) _)⟩
  · go_simp; refine hK.out _ _ ⟨cells3 HX1.out, cells2 HX2.out⟩ (fun hH => ?_); clear hK K hHeld; have hHeld := hH; clear hH
    (refine wpAnyH_call1 (i := 1) (o := ?_) (by kernel_rfl) ?_ (fun K hK => ?_); rotate_left 1; (· simp only [List.getElem?_toArray, List.getElem?_cons_succ, List.getElem?_cons_zero]; try rfl); go_simp)
    refine (number_any _ _ _ _ (by omega) (by omega) (by omega) (by omega) (by omega) (by omega) (by first | exact hE.out.below HB.out | exact (hE.out.below HB.out).drew)).mono ?_; rintro e w2 ⟨rfl, hb⟩; (try replace hb := drewB hb); replace HB := Lib.hid (HB.out.trans (hb.mono HB.out.size)); replace HX1 := Lib.hid (blk_keep HX1.out hb); replace HX2 := Lib.hid (blk_keep HX2.out hb); replace HX3 := Lib.hid (blk_keep HX3.out hb); (try replace HX4 := Lib.hid (blk_keep HX4.out hb)); replace hc1 := box_cells HX1.out; replace hc2 := box_cells HX2.out; replace hc3 := box_cells HX3.out; replace hf3 := box_free HX3.out; (try replace hc4 := box_cells HX4.out); (try replace hf4 := box_free HX4.out); clear hb; go_simp; refine hK.out _ _ ⟨cells3 HX1.out, cells2 HX2.out⟩ (fun hH => ?_); clear hK K hHeld; have hHeld := hH; clear hH
    (refine wpAnyH_take1 4 (oi := ?_) (v := ?_) ?_ (by kernel_rfl) (by kernel_rfl) (by kernel_rfl) (by assumption) ?_ ?_ ?_; rotate_left 2; (· simp only [List.getElem?_toArray, List.getElem?_cons_succ, List.getElem?_cons_zero]; try rfl); (· refine ⟨by kernel_rfl, ?_⟩; intro wq hSw; skip; go_simp; first | done | with_reducible rfl); (· exact fun _ _ _ h => h); try simp only [Act.put, List.setIfInBounds_toArray, List.set_cons_zero, List.set_cons_succ])
    (refine wpAnyH_call1 (i := 6) (o := ?_) (by kernel_rfl) ?_ (fun K hK => ?_); rotate_left 1; (· simp only [List.getElem?_toArray, List.getElem?_cons_succ, List.getElem?_cons_zero]; try rfl); go_simp)
    refine (number_any _ _ _ _ (by omega) (by omega) (by omega) (by omega) (by omega) (by omega) (by first | exact hE.out.below HB.out | exact (hE.out.below HB.out).drew)).mono ?_; rintro e w2 ⟨rfl, hb⟩; (try replace hb := drewB hb); replace HB := Lib.hid (HB.out.trans (hb.mono HB.out.size)); replace HX1 := Lib.hid (blk_keep HX1.out hb); replace HX2 := Lib.hid (blk_keep HX2.out hb); replace HX3 := Lib.hid (blk_keep HX3.out hb); (try replace HX4 := Lib.hid (blk_keep HX4.out hb)); replace hc1 := box_cells HX1.out; replace hc2 := box_cells HX2.out; replace hc3 := box_cells HX3.out; replace hf3 := box_free HX3.out; (try replace hc4 := box_cells HX4.out); (try replace hf4 := box_free HX4.out); clear hb; go_simp; refine hK.out _ _ ⟨cells3 HX1.out, cells2 HX2.out⟩ (fun hH => ?_); clear hK K hHeld; have hHeld := hH; clear hH
    (refine wpAnyH_take1 7 (oi := ?_) (v := ?_) ?_ (by kernel_rfl) (by kernel_rfl) (by kernel_rfl) (by assumption) ?_ ?_ ?_; rotate_left 2; (· simp only [List.getElem?_toArray, List.getElem?_cons_succ, List.getElem?_cons_zero]; try rfl); (· refine ⟨by kernel_rfl, ?_⟩; intro wq hSw; skip; go_simp; first | done | with_reducible rfl); (· exact fun _ _ _ h => h); try simp only [Act.put, List.setIfInBounds_toArray, List.set_cons_zero, List.set_cons_succ])
    (refine wpAnyH_take1 8 (oi := ?_) (v := ?_) ?_ (by kernel_rfl) (by kernel_rfl) (by kernel_rfl) (by assumption) ?_ ?_ ?_; rotate_left 2; (· simp only [List.getElem?_toArray, List.getElem?_cons_succ, List.getElem?_cons_zero]; try rfl); (· refine ⟨by kernel_rfl, ?_⟩; intro wq hSw; skip; go_simp; first | done | with_reducible rfl); (· exact fun _ _ _ h => h); try simp only [Act.put, List.setIfInBounds_toArray, List.set_cons_zero, List.set_cons_succ])
    (refine wpAnyH_call1 (i := 9) (o := ?_) (by kernel_rfl) ?_ (fun K hK => ?_); rotate_left 1; (· simp only [List.getElem?_toArray, List.getElem?_cons_succ, List.getElem?_cons_zero]; try rfl); go_simp)
    refine hK.out _ _ ⟨cells3 ((heap_setCell_other _ _ _ _ (show _ ≠ _ by simp <;> omega)).trans HX1.out), cells2 ((heap_setCell_other _ _ _ _ (show _ ≠ _ by simp <;> omega)).trans HX2.out)⟩ (fun hH => ?_)
    refine wpAnyH_done (by kernel_rfl) ?_ _
    simp only [W2.out, ha.out, W3.out]
    have y1 : (w2.setCell ⟨N, 1, none⟩ (.int .i64 a')).heap[w.heap.size]? = _ := (heap_setCell_other _ _ _ _ (show _ ≠ _ by simp <;> omega)).trans HX1.out
    have y2 : (w2.setCell ⟨N, 1, none⟩ (.int .i64 a')).heap[w.heap.size + 1]? = _ := (heap_setCell_other _ _ _ _ (show _ ≠ _ by simp <;> omega)).trans HX2.out
    have y3 : (w2.setCell ⟨N, 1, none⟩ (.int .i64 a')).heap[w.heap.size + 2]? = _ := (heap_setCell_other _ _ _ _ (show _ ≠ _ by simp <;> omega)).trans HX3.out
    have y4 : (w2.setCell ⟨N, 1, none⟩ (.int .i64 a')).heap[N]? = some (.cells #[.int .i64 s', .int .i64 a', .int .i64 o'] 62 (0, 0)) := heap_setCell_same _ _ _ _ _ _ HX4.out
    have yb : Below w.heap.size w (w2.setCell ⟨N, 1, none⟩ (.int .i64 a')) := HB.out.setCell (by simp <;> omega) _
    clear hK K hHeld HX1 HX2 HX3 HX4 HB hc1 hc2 hc3 hc4 hf3 hf4 hH
    have HX1 := Lib.hid y1; have HX2 := Lib.hid y2; have HX3 := Lib.hid y3; have HX4 := Lib.hid y4; have HB := Lib.hid yb
    clear y1 y2 y3 y4 yb
    generalize (w2.setCell ⟨N, 1, none⟩ (.int .i64 a')) = V2 at *
    have hc1 := box_cells HX1.out; have hc2 := box_cells HX2.out; have hc3 := box_cells HX3.out; have hc4 := box_cells HX4.out; have hf3 := box_free HX3.out; have hf4 := box_free HX4.out
    cases hvo : vldB s' a' o'
    · rw [hvo] at hR
      obtain ⟨rfl, rfl, rfl, rfl⟩ := hR.out
      go_wp2_with (fail)
      refine (PValid_any _ _ _ _).mono ?_; rintro e w' ⟨rfl, hb⟩; (try replace hb := drewB hb); replace HB := Lib.hid (HB.out.trans (hb.mono HB.out.size)); replace HX1 := Lib.hid (blk_keep HX1.out hb); replace HX2 := Lib.hid (blk_keep HX2.out hb); replace HX3 := Lib.hid (blk_keep HX3.out hb); (try replace HX4 := Lib.hid (blk_keep HX4.out hb)); replace hc1 := box_cells HX1.out; replace hc2 := box_cells HX2.out; replace hc3 := box_cells HX3.out; replace hf3 := box_free HX3.out; (try replace hc4 := box_cells HX4.out); (try replace hf4 := box_free HX4.out); clear hb
      go_wp2
      exact bodyPost_ret (v := .tuple #[.agg #[.int .i64 0, .int .i64 0, .int .i64 0], .int .i64 3]) (by simp [results, Tryz.results175, go_sem, hc3, hf3]) rfl ⟨rfl, (((HB.out.setCell (by simp <;> omega) _).setCell (by simp <;> omega) _).setCell (by simp <;> omega) _)⟩
    · rw [hvo] at hR
      obtain ⟨rfl, rfl, rfl, rfl⟩ := hR.out
      go_wp2_with (fail)
      refine (PValid_any _ _ _ _).mono ?_; rintro e w' ⟨rfl, hb⟩; (try replace hb := drewB hb); replace HB := Lib.hid (HB.out.trans (hb.mono HB.out.size)); replace HX1 := Lib.hid (blk_keep HX1.out hb); replace HX2 := Lib.hid (blk_keep HX2.out hb); replace HX3 := Lib.hid (blk_keep HX3.out hb); (try replace HX4 := Lib.hid (blk_keep HX4.out hb)); replace hc1 := box_cells HX1.out; replace hc2 := box_cells HX2.out; replace hc3 := box_cells HX3.out; replace hf3 := box_free HX3.out; (try replace hc4 := box_cells HX4.out); (try replace hf4 := box_free HX4.out); clear hb
      go_wp2
      exact bodyPost_ret (v := .tuple #[.agg #[.int .i64 r0, .int .i64 r1, .int .i64 r2], .int .i64 0]) (by simp [results, Tryz.results175, go_sem, hc3, hf3]) rfl ⟨rfl, (((HB.out.setCell (by simp <;> omega) _).setCell (by simp <;> omega) _).setCell (by simp <;> omega) _)⟩


theorem Add_any (s a o x y : Int) (w : World) (hE : Env w) : Calls Tryz.prog 175 #[.agg #[.int .i64 s, .int .i64 a, .int .i64 o], .agg #[.int .i64 x, .int .i64 y]] w fun e w' => e = .returned (.tuple #[.agg #[.int .i64 (addR s a o x y).1, .int .i64 (addR s a o x y).2.1, .int .i64 (addR s a o x y).2.2.1], .int .i64 (addR s a o x y).2.2.2]) ∧ Below w.heap.size w w' := by
  cases hv : vldB s a o && frmB x y
  · have e : addR s a o x y = (0, 0, 0, 1) := by unfold addR; rw [hv]; rfl
    rw [e]
    exact Add_bad s a o x y w hv
  · simp only [Bool.and_eq_true] at hv
    obtain ⟨⟨p1, p2⟩, ⟨p3, p4⟩, p5, p6⟩ := (vld_iff s a o).1 hv.1
    obtain ⟨⟨q1, q2⟩, q3, q4⟩ := (frm_iff x y).1 hv.2
    have hns := natI_bd s p1 p2
    have hns' := natI_bd ((7 * o + s + x) % 7) (by omega) (by omega)
    cases hz : x == 0 && y == 0
    · refine Add_go s a o x y _ _ _ _ _ _ _ w hE hv.1 hv.2 hz rfl rfl rfl p1 p2 p3 p4 p5 p6 q1 q2 q3 q4 (by omega) (by omega) (by omega) (by omega) hns.1 hns.2 hns'.1 hns'.2 ?_
      show if _ then _ else _
      unfold addR
      rw [hv.1, hv.2, Bool.true_and, if_pos rfl]
      split <;> simp_all
    · simp only [Bool.and_eq_true, beq_iff_eq] at hz
      obtain ⟨rfl, rfl⟩ := hz
      have e1 : (7 * o + s + 0) % 7 = s := by omega
      have e2 : (7 * o + s + 0) / 7 = o := by omega
      have e3 : 12 * o + natI s + a + 0 - (12 * o + natI s) = a := by omega
      have e : addR s a o 0 0 = (s, a, o, 0) := by
        unfold addR
        rw [e1, e2, e3, hv.1, hv.2]; rfl
      rw [e]
      exact Add_zero s a o w hv.1

end Go.Proofs.YtcelciomhngajaaGreatDoor

