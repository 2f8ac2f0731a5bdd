/- Texts of this seat, laid together: Lib, Own, QTail, Lib2, MatchPure, MatchFind, MatchFind2, MatchFinder, MatchMat. -/
import Derived.WalkKit
import Derived.WalkSpells
import Derived.WalkLawsBesides
import Derived.Lib.Hide
import Derived.BigQuiet
import Derived.Lib.QuietBelow
import Derived.Deep.RegionHeld3
import Derived.Deep.LoopGhost
import Derived.Deep.DeepCutAuto
import Derived.Laws.AppendOwnNone
import Derived.Maps.AppendAt
import Derived.StillTail
import Derived.Deep.OwnRows
import Derived.IntWalk
import Derived.Test.YtehdhbnbajfanaaGreatRows
import Derived.WalkMore
import Derived.Laws.EntriesVeiled

/- Small words on worlds and on slices that lie in memory, used by the walks of this seat; no condition. -/
namespace Go.Proofs.YtehdhbnbajfanaaGreat
set_option linter.unusedSimpArgs false
set_option linter.unusedVariables false
open Go.RowKit Go.Sort

/-- Is n from lo to hi? -/
def inB (n lo hi : Int) : Bool := decide (lo ≤ n) && decide (n ≤ hi)
theorem ret_int {k : IntKind} {a b : Int} (h : a = b) : Ending.returned (.int k a) = .returned (.int k b) := by rw [h]
theorem ret_ibi {j k : IntKind} {a a' c c' : Int} {b b' : Bool} (h1 : a = a') (h2 : b = b') (h3 : c = c') : Ending.returned (.tuple #[.int j a, .bool b, .int k c]) = .returned (.tuple #[.int j a', .bool b', .int k c']) := by rw [h1, h2, h3]
theorem ret_ii {j k : IntKind} {a a' c c' : Int} (h1 : a = a') (h3 : c = c') : Ending.returned (.tuple #[.int j a, .int k c]) = .returned (.tuple #[.int j a', .int k c']) := by rw [h1, h3]
theorem ret_si {k : IntKind} {a : Option Addr} {n n' cap : Nat} {c c' : Int} (h1 : n = n') (h3 : c = c') : Ending.returned (.tuple #[.slice a n cap, .int k c]) = .returned (.tuple #[.slice a n' cap, .int k c']) := by rw [h1, h3]
theorem ret_sl {a : Option Addr} {n n' cap : Nat} (h : n = n') : Ending.returned (.slice a n cap) = .returned (.slice a n' cap) := by rw [h]
theorem ret_bool {a b : Bool} (h : a = b) : Ending.returned (.bool a) = .returned (.bool b) := by rw [h]
theorem len_take {α : Type} (l : List α) (k : Nat) (h : k ≤ l.length) : k = (l.take k).length := by simp; omega
theorem take_eq_succ {α : Type} (l r : List α) (k : Nat) (h : k < l.length) (h' : k < r.length) (hp : l.take k = r.take k) (he : l[k] = r[k]) : l.take (k + 1) = r.take (k + 1) := by
  rw [List.take_succ_eq_append_getElem h, List.take_succ_eq_append_getElem h', hp, he]
theorem ne_at {α : Type} (l r : List α) (k : Nat) (h : k < l.length) (h' : k < r.length) (he : l[k] ≠ r[k]) : l ≠ r := fun e => by subst e; exact he rfl
theorem not_t {b : Bool} (h : (!b) = true) : b = false := by simpa using h
theorem not_f {b : Bool} (h : (!b) = false) : b = true := by simpa using h
theorem inB_iff (n lo hi : Int) : inB n lo hi = true ↔ lo ≤ n ∧ n ≤ hi := by simp [inB]
theorem inB_not (n lo hi : Int) : inB n lo hi = false ↔ n < lo ∨ hi < n := by
  rw [← Bool.not_eq_true, inB_iff]; omega

/-- The elements of a slice over a: element i is the row rows[i] of sz cells. -/
def SlAt (w : World) (a : Option Addr) (sz : Nat) (rows : List (List Value)) : Prop :=
  ∀ i r, rows[i]? = some r → ∃ b off, a = some ⟨b, off, none⟩ ∧ b < w.heap.size ∧ r.length = sz ∧ ∀ j v, r[j]? = some v → w.cell? ⟨b, off + i * sz + j, none⟩ = some v

/-- A slice as it is in every run: its length within its capacity, a plain address if it has one. -/
structure SlOk (a : Option Addr) (n cap : Nat) : Prop where
  le : n ≤ cap
  none : a = none → cap = 0
  spot : ∀ ad, a = some ad → ad.spot = Option.none
theorem SlOk.nil : SlOk .none 0 0 := ⟨Nat.le_refl _, fun _ => rfl, fun _ h => by cases h⟩
theorem SlOk.shorter {a : Option Addr} {n cap : Nat} (h : SlOk a n cap) {m : Nat} (hm : m ≤ n) : SlOk a m cap := ⟨Nat.le_trans hm h.le, h.none, h.spot⟩
theorem SlOk.cases {a : Option Addr} {n cap : Nat} (h : SlOk a n cap) : (a = .none ∧ n = 0 ∧ cap = 0) ∨ ∃ b off, a = some ⟨b, off, .none⟩ := by
  rcases a with _ | ⟨b, off, sp⟩
  · have := h.none rfl; have := h.le; exact .inl ⟨rfl, by omega, by omega⟩
  · have := h.spot _ rfl; simp at this; subst this; exact .inr ⟨b, off, rfl⟩

theorem SlAt.nil (w : World) (a : Option Addr) (sz : Nat) : SlAt w a sz [] := fun i r h => by simp at h

theorem SlAt.below {w w' : World} {a : Option Addr} {sz : Nat} {rows : List (List Value)} (h : SlAt w a sz rows) (hb : Below w.heap.size w w') : SlAt w' a sz rows := fun i r hr => by
  obtain ⟨b, off, e, hlt, hl, hc⟩ := h i r hr
  exact ⟨b, off, e, Nat.lt_of_lt_of_le hlt hb.size, hl, fun j v hv => (hb.cell (p := ⟨b, _, none⟩) hlt).trans (hc j v hv)⟩

theorem SlAt.take {w : World} {a : Option Addr} {sz : Nat} {rows : List (List Value)} (h : SlAt w a sz rows) (k : Nat) : SlAt w a sz (rows.take k) := fun i r hr => by
  rw [List.getElem?_take] at hr
  split at hr
  · exact h i r hr
  · cases hr

theorem SlAt.alloc {w : World} {a : Option Addr} {sz : Nat} {rows : List (List Value)} (h : SlAt w a sz rows) (o : Obj) : SlAt (w.alloc o) a sz rows := h.below ((Below.refl _ _).alloc (Nat.le_refl _) _)
theorem SlAt.drew {w : World} {a : Option Addr} {sz : Nat} {rows : List (List Value)} (h : SlAt w a sz rows) : SlAt w.drew a sz rows := h.below ((Below.refl _ _).drew)

/-- A drawn region whose operations only read and whose callees may lay new memory, walked once in the order of the text. -/
theorem wp_quietB {P : Program} {id : Nat} {Q : Exit → Act → World → Prop} {a : Act} {w : World} {l : List Oper} (hm : P.follows .mixedOrders = true) (hB : Region.lexB .any l.toArray = true)
    (h : wpQuiet P l.toArray (fun w' => ∃ p : Regrown, w' = grow (redrawn w p.d) p.os) (fun a' => ∀ w', Below w.heap.size w w' → Q .normal a' w') l a) : (Code.region id l.toArray true).wp P Q a w := by
  refine wp_region_quiet_below hm hB ?_
  have e : (fun a' => ∀ w', (∃ p : Regrown, w' = grow (redrawn w p.d) p.os) → Q .normal a' w') = fun a' => ∀ w', Below w.heap.size w w' → Q .normal a' w' := by
    funext a'
    refine propext ⟨fun h w' hb => h w' (regrown_of_below hb), fun h w' ⟨p, hp⟩ => h w' (hp ▸ below_regrown w p.d p.os)⟩
  rw [e]
  exact h

theorem Calls.regrown {P : Program} {f : FuncId} {args : Array Value} {w : World} {d : Nat} {os : Array Obj} {v : Value}
    (h : Calls P f args (grow (redrawn w d) os) fun e w' => e = .returned v ∧ grow (redrawn w d) os = w') : Calls P f args (grow (redrawn w d) os) fun e w'' => e = .returned v ∧ ∃ p : Regrown, w'' = grow (redrawn w p.d) p.os :=
  h.mono fun _ _ ⟨he, hb⟩ => ⟨he, ⟨d, os⟩, hb.symm⟩

/-- A block of cells that the call has laid, in a later world. -/
theorem blk_keep {w w' : World} {b : Nat} {o : Obj} (h : w.heap[b]? = some o) (hb : Below w.heap.size w w') : w'.heap[b]? = some o := (hb.block b (Array.getElem?_eq_some_iff.1 h).1).trans h
theorem blk_keep2 {w w1 w2 : World} {b : Nat} {o : Obj} (h : w.heap[b]? = some o) (h1 : Below w.heap.size w w1) (hb : Below w1.heap.size w1 w2) : w2.heap[b]? = some o := blk_keep (blk_keep h h1) hb
theorem up_alloc {w : World} {b : Nat} {o : Obj} (h : w.heap[b]? = some o) (o' : Obj) : (w.alloc o').heap[b]? = some o := blk_keep h ((Below.refl _ _).alloc (Nat.le_refl _) _)
theorem at_alloc (w : World) (o : Obj) {k : Nat} (h : k = w.heap.size) : (w.alloc o).heap[k]? = some o := by subst h; exact heap_alloc_new w o
theorem box_below {w w' : World} {o : Obj} (hb : Below (w.alloc o).heap.size (w.alloc o) w') : w'.heap[w.heap.size]? = some o := blk_keep (heap_alloc_new w o) hb
theorem box_cells {w : World} {b : Nat} {cs : Array Value} {T : TypeId} {fr : Nat × Nat} (h : w.heap[b]? = some (.cells cs T fr)) : ∀ j, w.cell? ⟨b, j, none⟩ = cs[j]? := fun j => by simp [World.cell?, h]
theorem box_free {w : World} {b : Nat} {cs : Array Value} {T : TypeId} (h : w.heap[b]? = some (.cells cs T (0, 0))) : ∀ j, w.frozen? ⟨b, j, none⟩ = false := fun j => by simp [World.frozen?, h]

end Go.Proofs.YtehdhbnbajfanaaGreat


/- Slices that a call makes for itself: rows of cells that it owns, and one law for append onto them; no condition beside the bounds named in each. -/
namespace Go.Proofs.YtehdhbnbajfanaaGreat
set_option linter.unusedSimpArgs false
set_option linter.unusedVariables false
open Go.RowKit Go.Sort

theorem flat_get (rows : List (List Value)) (sz : Nat) (h : ∀ r ∈ rows, r.length = sz) (i j : Nat) (r : List Value) (v : Value) (hr : rows[i]? = some r) (hv : r[j]? = some v) : rows.flatten[i * sz + j]? = some v := by
  induction rows generalizing i with
  | nil => simp at hr
  | cons x rows ih =>
    have hx := h x (by simp)
    cases i with
    | zero =>
      simp at hr; subst hr
      rw [List.flatten_cons, Nat.zero_mul, Nat.zero_add, List.getElem?_append_left (List.getElem?_eq_some_iff.1 hv).1]; exact hv
    | succ i =>
      have hr' : rows[i]? = some r := by simpa using hr
      rw [List.flatten_cons, List.getElem?_append_right (by rw [hx, Nat.succ_mul]; omega), hx, show (i + 1) * sz + j - sz = i * sz + j by rw [Nat.succ_mul]; omega]
      exact ih (fun r hm => h r (by simp [hm])) i hr'

theorem flat_inv (rows : List (List Value)) (sz : Nat) (h : ∀ r ∈ rows, r.length = sz) (k : Nat) (u : Value) (hk : rows.flatten[k]? = some u) : ∃ i j r, rows[i]? = some r ∧ r[j]? = some u ∧ k = i * sz + j := by
  induction rows generalizing k with
  | nil => simp at hk
  | cons x rows ih =>
    have hx := h x (by simp)
    rw [List.flatten_cons] at hk
    by_cases hlt : k < x.length
    · rw [List.getElem?_append_left hlt] at hk
      exact ⟨0, k, x, by simp, hk, by omega⟩
    · rw [List.getElem?_append_right (by omega)] at hk
      obtain ⟨i, j, r, h1, h2, h3⟩ := ih (fun r hm => h r (by simp [hm])) _ hk
      exact ⟨i + 1, j, r, by simpa using h1, h2, by rw [Nat.succ_mul]; omega⟩

theorem flat_len (rows : List (List Value)) (sz : Nat) (h : ∀ r ∈ rows, r.length = sz) : rows.flatten.length = rows.length * sz := by
  induction rows with
  | nil => simp
  | cons x rows ih => rw [List.flatten_cons, List.length_append, ih (fun r hm => h r (by simp [hm])), h x (by simp), List.length_cons, Nat.succ_mul]; omega

/-- The value v is a slice of the call's own (blocks from B on), of these rows. -/
structure OwnR (w : World) (B : Nat) (E : TypeId) (sz : Nat) (v : Value) (rows : List (List Value)) : Prop where
  wide : ∀ r ∈ rows, r.length = sz
  own : w.ownsRow B E sz v rows.length rows.flatten

theorem OwnR.nil (w : World) (B : Nat) (E : TypeId) (sz : Nat) : OwnR w B E sz (.slice none 0 0) [] := ⟨by simp, World.ownsRow_nil w B E sz⟩

theorem ownsRow_below {w w' : World} {B n : Nat} {E : TypeId} {sz : Nat} {v : Value} {xs : List Value} (h : w.ownsRow B E sz v n xs) (hb : Below w.heap.size w w') : w'.ownsRow B E sz v n xs := by
  obtain ⟨h1, h2⟩ := h
  refine ⟨h1, ?_⟩
  rcases h2 with h2 | ⟨g, cap, cur, e, hg, hc, h3⟩
  · exact .inl h2
  · exact .inr ⟨g, cap, cur, e, hg, (hb.block g (Array.getElem?_eq_some_iff.1 hc).1).trans hc, h3⟩
theorem OwnR.below {w w' : World} {B : Nat} {E : TypeId} {sz : Nat} {v : Value} {rows : List (List Value)} (h : OwnR w B E sz v rows) (hb : Below w.heap.size w w') : OwnR w' B E sz v rows := ⟨h.wide, ownsRow_below h.own hb⟩
theorem OwnR.kept {w w' : World} {B : Nat} {E : TypeId} {sz : Nat} {v : Value} {rows : List (List Value)} {row : Option Nat} (h : OwnR w B E sz v rows) (hg : w.grownBy w' row) (hne : v.ownBlock = none ∨ v.ownBlock ≠ row) : OwnR w' B E sz v rows := ⟨h.wide, h.own.kept hg hne⟩
theorem OwnR.lt {w : World} {B : Nat} {E : TypeId} {sz : Nat} {v : Value} {rows : List (List Value)} (h : OwnR w B E sz v rows) : ∀ k, v.ownBlock = some k → B ≤ k ∧ k < w.heap.size := h.own.lt

/-- What is owned lies in memory as a slice. -/
theorem OwnR.slAt {w : World} {B : Nat} {E : TypeId} {sz : Nat} {v : Value} {rows : List (List Value)} (h : OwnR w B E sz v rows) :
    ∃ a cap, v = .slice a rows.length cap ∧ SlOk a rows.length cap ∧ SlAt w a sz rows := by
  obtain ⟨hw, hl, h2⟩ := h
  rcases h2 with ⟨rfl, hn⟩ | ⟨g, cap, cur, rfl, hB, hc, hle, _, hsz, htk⟩
  · obtain rfl : rows = [] := List.length_eq_zero_iff.1 hn
    exact ⟨none, 0, rfl, SlOk.nil, SlAt.nil _ _ _⟩
  · refine ⟨_, cap, rfl, ⟨hle, (fun e => by cases e), (fun ad e => by cases e; rfl)⟩, fun i r hr => ⟨g, 0, rfl, (Array.getElem?_eq_some_iff.1 hc).1, hw r (List.mem_of_getElem? hr), fun j u hu => ?_⟩⟩
    have hf := flat_get rows sz hw i j r u hr hu
    rw [← htk, List.getElem?_take] at hf
    split at hf
    · rw [World.cell?, hc, Nat.zero_add]
      simpa using hf
    · cases hf

theorem SlAt.flat {w : World} {sz : Nat} {rows : List (List Value)} {b off : Nat} (h : SlAt w (some ⟨b, off, none⟩) sz rows) : ∀ j u, rows.flatten[j]? = some u → w.cell? ((⟨b, off, none⟩ : Addr).add j) = some u := by
  intro k u hk
  have hw : ∀ r ∈ rows, r.length = sz := fun r hr => by
    obtain ⟨i, hi⟩ := List.getElem?_of_mem hr
    obtain ⟨_, _, _, _, hl, _⟩ := h i r hi
    exact hl
  obtain ⟨i, j, r, h1, h2, h3⟩ := flat_inv rows sz hw k u hk
  obtain ⟨b', off', e, _, _, hc⟩ := h i r h1
  cases e
  have := hc j u h2
  subst h3
  unfold Addr.add
  split
  · rename_i h0
    have e : off + i * sz + j = off := by omega
    rw [e] at this; exact this
  · rw [show off + (i * sz + j) = off + i * sz + j by omega]; exact this

theorem oneCell_flat {rows : List (List Value)} (h : ∀ r ∈ rows, ∀ u ∈ r, u.oneCell' = true) : ∀ u ∈ rows.flatten, u.oneCell' = true := fun u hu => by
  obtain ⟨r, hr, hur⟩ := List.mem_flatten.1 hu
  exact h r hr u hur

/-- append onto a slice of the call's own, from whatever slice lies in memory. -/
theorem wpList_appendR {P : Program} {w : World} {ops : Array Oper} {rest : List Oper} {o : Oper} {a : Act} {Q : Exit → Act → World → Prop} (hgd : o.guard = none) (s x : Operand) (t : TypeId)
    (ho : o.op = .call { callee := .builtin .append, args := #[s, x], argTypes := #[t, t] })
    (B : Nat) (E : TypeId) (z : Value) (sz bytes : Nat) (ht : P.underlying t = some (.slice E)) (hinfo : (P.info? E).map (fun i => (i.zero, i.size, i.bytes)) = some (some z, sz, bytes))
    (hzs : z.cells.size = sz) (hsz : 0 < sz)
    (v : Value) (rows : List (List Value)) (hs : a.eval s = v) (hown : OwnR w B E sz v rows)
    (ad : Option Addr) (m c : Nat) (news : List (List Value)) (hx : a.eval x = .slice ad m c) (hm : m = news.length) (hc0 : ad = none → c = 0) (hnews : SlAt w ad sz news) (h1 : ∀ r ∈ news, ∀ u ∈ r, u.oneCell' = true)
    (hlen : rows.length + news.length ≤ 1048576) (hbytes : bytes ≤ 1048576) (hbase : B ≤ w.heap.size)
    (h : ∀ v' w', OwnR w' B E sz v' (rows ++ news) → w.grownBy w' v.ownBlock → wpList P ops Q rest (a.put o.dst v') w') : wpList P ops Q (o :: rest) a w := by
  obtain ⟨i, hi, hz0, hz1, hz2⟩ := info_parts hinfo
  have hw : ∀ r ∈ news, r.length = sz := fun r hr => by
    obtain ⟨k, hk⟩ := List.getElem?_of_mem hr
    obtain ⟨_, _, _, _, hl, _⟩ := hnews k r hk
    exact hl
  have hww : ∀ r ∈ rows ++ news, r.length = sz := fun r hr => by
    rcases List.mem_append.1 hr with hr | hr
    · exact hown.wide r hr
    · exact hw r hr
  subst hm
  cases ad with
  | none =>
    have hn : news = [] := by
      cases news with
      | nil => rfl
      | cons r news => obtain ⟨_, _, e, _⟩ := hnews 0 r rfl; cases e
    subst hn
    obtain rfl := hc0 rfl
    refine wpList_append_own_none hgd s x t ho B E i sz ht hi v rows.length rows.flatten hs hown.own hx (h v w (by rw [List.append_nil]; exact hown) (World.grownBy.refl w _))
  | some ad =>
    have hcell : ∀ j u, news.flatten[j]? = some u → w.cell? (ad.add j) = some u := by
      intro j u hj
      obtain ⟨i', j', r, g1, _, _⟩ := flat_inv news sz hw j u hj
      obtain ⟨b, off, e, _⟩ := hnews i' r g1
      cases e
      exact hnews.flat j u hj
    refine wpList_append_own w hgd s x t ho B E i z sz bytes ht hi hz0 hz1 hz2 hzs hsz v rows.length rows.flatten hs hown.own ad news.length c news.flatten hx (flat_len news sz hw) hcell (oneCell_flat h1) (by unfold maxLen; omega)
      (Nat.le_trans (Nat.mul_le_mul hlen hbytes) (by decide)) hbase fun v' w' ho' hg _ => h v' w' ⟨hww, by rw [List.length_append, List.flatten_append]; exact ho'⟩ hg

/-- A new block of some rows (what a literal of a slice lays). -/
theorem SlAt.new (w : World) (cs : List Value) (E : TypeId) (sz : Nat) (rows : List (List Value)) (hw : ∀ r ∈ rows, r.length = sz) (hf : rows.flatten = cs) : SlAt (w.alloc (.cells cs.toArray E)) (some ⟨w.heap.size, 0, none⟩) sz rows := fun i r hr =>
  ⟨w.heap.size, 0, rfl, by simp, hw r (List.mem_of_getElem? hr), fun j u hu => by
    have := flat_get rows sz hw i j r u hr hu
    have hn := heap_alloc_new w (.cells cs.toArray E)
    simp only [World.cell?, hn, Nat.zero_add]
    rw [← hf]
    simpa using this⟩

/-- What a call says that hands back a slice which nobody else changes. -/
def RetSl (sz : Nat) (rows : List (List Value)) (w : World) (e : Ending) (w' : World) : Prop :=
  ∃ a cap, e = .returned (.slice a rows.length cap) ∧ SlOk a rows.length cap ∧ SlAt w' a sz rows ∧ Below w.heap.size w w'

/-- The same with an error number beside. -/
def RetSlI (sz : Nat) (rows : List (List Value)) (err : Int) (w : World) (e : Ending) (w' : World) : Prop :=
  ∃ a cap, e = .returned (.tuple #[.slice a rows.length cap, .int .i64 err]) ∧ SlOk a rows.length cap ∧ SlAt w' a sz rows ∧ Below w.heap.size w w'
theorem RetSlI.none {sz : Nat} {err : Int} {w w' : World} (hb : Below w.heap.size w w') : RetSlI sz [] err w (.returned (.tuple #[.slice none 0 0, .int .i64 err])) w' := ⟨_, _, rfl, SlOk.nil, SlAt.nil _ _ _, hb⟩

/-- What append wants to know of an element type: T the slice's type, E the element's, f the cells of an element. -/
structure Elt (P : Program) (T E : TypeId) (sz bytes : Nat) {α : Type} (f : α → List Value) : Prop where
  ty : P.underlying T = some (.slice E)
  info : ∃ z, (P.info? E).map (fun i => (i.zero, i.size, i.bytes)) = some (some z, sz, bytes) ∧ z.cells.size = sz
  pos : 0 < sz
  small : bytes ≤ 1048576
  len : ∀ x, (f x).length = sz
  one : ∀ x, ∀ u ∈ f x, u.oneCell' = true

/-- append, said of elements: l is what the call has collected, news what is appended. -/
theorem appE {P : Program} {w : World} {ops : Array Oper} {rest : List Oper} {o : Oper} {a : Act} {Q : Exit → Act → World → Prop} {T E : TypeId} {sz bytes : Nat} {α : Type} {f : α → List Value} (he : Elt P T E sz bytes f)
    (hgd : o.guard = none) (s x : Operand) (ho : o.op = .call { callee := .builtin .append, args := #[s, x], argTypes := #[T, T] })
    (B : Nat) (v : Value) (l : List α) (hs : a.eval s = v) (hown : OwnR w B E sz v (l.map f))
    (ad : Option Addr) (m c : Nat) (news : List α) (hx : a.eval x = .slice ad m c) (hm : m = news.length) (hc0 : ad = none → c = 0) (hnews : SlAt w ad sz (news.map f))
    (hlen : l.length + news.length ≤ 1048576) (hbase : B ≤ w.heap.size)
    (h : ∀ v' w', OwnR w' B E sz v' ((l ++ news).map f) → w.grownBy w' v.ownBlock → wpList P ops Q rest (a.put o.dst v') w') : wpList P ops Q (o :: rest) a w := by
  obtain ⟨z, hi, hz⟩ := he.info
  exact wpList_appendR hgd s x T ho B E z sz bytes he.ty hi hz he.pos v (l.map f) hs hown ad m c (news.map f) hx (by rw [List.length_map]; exact hm) hc0 hnews
    (fun r hr u hu => by obtain ⟨y, _, rfl⟩ := List.mem_map.1 hr; exact he.one y u hu) (by rw [List.length_map, List.length_map]; exact hlen) he.small hbase
    (fun v' w' h1 h2 => h v' w' (by rw [List.map_append]; exact h1) h2)

theorem Elt.new {P : Program} {T E : TypeId} {sz bytes : Nat} {α : Type} {f : α → List Value} (he : Elt P T E sz bytes f) (w : World) (x : α) (cs : List Value) (E' : TypeId) (hc : cs = f x) : SlAt (w.alloc (.cells cs.toArray E')) (some ⟨w.heap.size, 0, none⟩) sz ([x].map f) := by
  subst hc
  exact SlAt.new w (f x) E' sz _ (by simp [he.len]) (by simp)

theorem below_grown {w0 w w' : World} {v : Value} {E : TypeId} {sz : Nat} {rows : List (List Value)} {B : Nat} (hb : Below B w0 w) (ho : OwnR w B E sz v rows) (hB : B ≤ w.heap.size) (hg : w.grownBy w' v.ownBlock) : Below B w0 w' :=
  hb.grown hg hB fun k hk => (ho.lt k hk).1

/-- A slice of integers. -/
def inRow (n : Int) : List Value := [.int .i64 n]
def InAt (w : World) (a : Option Addr) (l : List Int) : Prop := SlAt w a 1 (l.map inRow)
theorem InAt.get {w : World} {a : Option Addr} {l : List Int} (h : InAt w a l) (i : Nat) (hi : i < l.length) : ∃ b off, a = some ⟨b, off, none⟩ ∧ w.cell? ⟨b, off + i, none⟩ = some (.int .i64 l[i]) := by
  obtain ⟨b, off, e, _, _, hc⟩ := h i (inRow l[i]) (by simp [List.getElem?_eq_getElem hi])
  have := hc 0 _ rfl
  rw [Nat.mul_one, Nat.add_zero] at this
  exact ⟨b, off, e, this⟩
theorem InAt.below {w w' : World} {a : Option Addr} {l : List Int} (h : InAt w a l) (hb : Below w.heap.size w w') : InAt w' a l := SlAt.below h hb
theorem InAt.take' {w : World} {a : Option Addr} {l : List Int} (h : InAt w a l) (k : Nat) : InAt w a (l.take k) := by
  unfold InAt at *; rw [List.map_take]; exact h.take k
theorem SlAt.drop {w : World} {b off : Nat} {sz : Nat} {rows : List (List Value)} (h : SlAt w (some ⟨b, off, none⟩) sz rows) (k : Nat) : SlAt w (some ⟨b, off + k * sz, none⟩) sz (rows.drop k) := fun i r hr => by
  rw [List.getElem?_drop] at hr
  obtain ⟨b', o', e, h1, h2, h3⟩ := h _ r hr
  cases e
  exact ⟨b, off + k * sz, rfl, h1, h2, fun j v hv => by rw [show off + k * sz + i * sz + j = off + (k + i) * sz + j by rw [Nat.add_mul]; omega]; exact h3 j v hv⟩
theorem InAt.drop' {w : World} {b off : Nat} {l : List Int} (h : InAt w (some ⟨b, off, none⟩) l) (k : Nat) : InAt w (some ⟨b, off + k, none⟩) (l.drop k) := by
  have := SlAt.drop h k
  rw [Nat.mul_one] at this
  unfold InAt at *; rw [List.map_drop]; exact this
theorem OwnR.retSlI {w w' : World} {B : Nat} {E : TypeId} {sz : Nat} {v : Value} {rows rows' : List (List Value)} {err : Int} (h : OwnR w' B E sz v rows) (e : rows = rows') (hb : Below w.heap.size w w') : RetSlI sz rows' err w (.returned (.tuple #[v, .int .i64 err])) w' := by
  subst e
  obtain ⟨a, cap, rfl, h1, h2⟩ := h.slAt
  exact ⟨a, cap, rfl, h1, h2, hb⟩
theorem OwnR.retSl {w w' : World} {B : Nat} {E : TypeId} {sz : Nat} {v : Value} {rows rows' : List (List Value)} (h : OwnR w' B E sz v rows) (e : rows = rows') (hb : Below w.heap.size w w') : RetSl sz rows' w (.returned v) w' := by
  subst e
  obtain ⟨a, cap, rfl, h1, h2⟩ := h.slAt
  exact ⟨a, cap, rfl, h1, h2, hb⟩

end Go.Proofs.YtehdhbnbajfanaaGreat


/- A drawn region whose first operations only read and call what lays new memory, and whose last ones follow one behind the other, walked once in the order of the text; no condition. -/
namespace Go.Proofs.YtehdhbnbajfanaaGreat
set_option linter.unusedSimpArgs false
set_option linter.unusedVariables false
open Go.RowKit Go.Sort

section
variable {P : Program} {ops : Array Oper} {md : Region.Mode} {C : World → Prop}
def wpAnyLQ (P : Program) (md : Region.Mode) (ops : Array Oper) (C : World → Prop) (n : Nat) (L : Array Bool → Act → Prop) : Nat → Array Bool → Act → Prop
  | 0, listed, a => L listed a
  | f + 1, listed, a => Region.ready md ops listed ≠ [] ∧ ∀ i ∈ Region.ready md ops listed, i < n ∧ qOp P ops C i (wpAnyLQ P md ops C n L f (listed.setIfInBounds i true)) a
theorem wpAny_of_headQ {n g : Nat} {L : Array Bool → Act → Prop} {Q' : Exit → Act → World → Prop} (hL : ∀ listed a w, C w → L listed a → wpAny P md ops Q' g listed a w) :
    ∀ (f : Nat) (listed : Array Bool) (a : Act) (w : World), C w → wpAnyLQ P md ops C n L f listed a → wpAny P md ops Q' (f + g) listed a w
  | 0, listed, a, w, hw, h => by rw [Nat.zero_add]; exact hL _ _ _ hw h
  | f + 1, listed, a, w, hw, h => by
    rw [show f + 1 + g = (f + g) + 1 by omega]
    exact ⟨fun h0 => absurd h0 h.1, fun i hi => wpOp_of_qOp hw (fun a' w' hw' h' => wpAny_of_headQ hL f _ a' w' hw' h') (h.2 i hi).2⟩
theorem wpAnyLQ_first {n i : Nat} {oi : Oper} {v : Value} {L : Array Bool → Act → Prop} (hi : ops[i]? = some oi) (hsel : ∀ (j : Nat) (o : Oper) cs b, ops[j]? = some o → o.op ≠ .select cs b)
    (hs : Region.sinkB md ops n = true) (hc : Region.chainB md ops n = true) (hn : n < ops.size) (hin : i < n)
    (hdone : ∀ listed a, L listed a → ∀ j ∈ Region.ready md ops listed, n ≤ j) :
    ∀ (f : Nat) (listed : Array Bool) (a : Act), HeadInv md ops n listed →
      (∀ j oj, ops[j]? = some oj → j ≠ i → listed.getD j true = false → (∀ e ∈ oj.after, Region.binds md e = true → e.on ≠ i) → oi.apart ops oj = true) →
      i ∈ Region.ready md ops listed → YieldsIn P ops C oi v a →
      wpAnyLQ P md ops C n L f (listed.setIfInBounds i true) (a.put oi.dst v) → wpAnyLQ P md ops C n L (f + 1) listed a := by
  intro f
  induction f with
  | zero =>
    intro listed a inv _ hr hy H
    have hun := (mem_ready.1 hr).1
    refine ⟨fun h => (by rw [h] at hr; cases hr), fun j hj => ?_⟩
    have hjn : j < n := by
      rcases Nat.lt_or_ge j n with h | h
      · exact h
      · exact absurd hj (tail_waits hs hc hn inv _ i rfl hin hun j h)
    refine ⟨hjn, ?_⟩
    by_cases hji : j = i
    · subst hji; exact hy.qOp hi H
    · have := hdone _ _ H j (ready_mono hj hji)
      omega
  | succ f ih =>
    intro listed a inv hfree hr hy H
    have hun := (mem_ready.1 hr).1
    refine ⟨fun h => (by rw [h] at hr; cases hr), fun j hj => ?_⟩
    have hjn : j < n := by
      rcases Nat.lt_or_ge j n with h | h
      · exact h
      · exact absurd hj (tail_waits hs hc hn inv _ i rfl hin hun j h)
    refine ⟨hjn, ?_⟩
    by_cases hji : j = i
    · subst hji; exact hy.qOp hi H
    · have h1 := (H.2 j (ready_mono hj hji)).2
      obtain ⟨hjun, oj, hoj, hall⟩ := mem_ready.1 hj
      have hnot : ∀ e ∈ oj.after, Region.binds md e = true → e.on ≠ i := fun e he hb heq => by
        have h1 := hall e he hb
        rw [heq, getD_both hun] at h1
        cases h1
      have h2 := qOp_put hoj (hfree j oj hoj hji hjun hnot) (fun cs b => hsel i oi cs b hi) (fun cs b => hsel j oj cs b hoj) hy h1
      have hfree' : ∀ k ok, ops[k]? = some ok → k ≠ i → (listed.setIfInBounds j true).getD k true = false →
          (∀ e ∈ ok.after, Region.binds md e = true → e.on ≠ i) → oi.apart ops ok = true := fun k ok hk hki hun hno => by
        refine hfree k ok hk hki ?_ hno
        by_cases hjk : j = k
        · subst hjk; exact hjun
        · rw [getD_set_ne true hjk] at hun; exact hun
      refine qOp_mono (fun a' h3 => ih (listed.setIfInBounds j true) a' (inv.set hj hjn) hfree' (ready_mono hr (Ne.symm hji)) h3.1 ?_) h2
      rw [Array.setIfInBounds_comm _ _ hji]
      exact h3.2
theorem wpAnyLQ_lex {n g : Nat} {Lq : Act → Prop} (hsel : Region.noSelect ops = true) (hs : Region.sinkB md ops n = true) (hc : Region.chainB md ops n = true) (hn : n < ops.size) :
    ∀ (l : List Oper) (k : Nat) (listed : Array Bool) (a : Act), (∀ j, j < l.length → l[j]? = ops[k + j]?) → k + l.length = n → HeadInv md ops n listed →
    Region.lexHead md ops g l.length k listed = true → wpQuiet P ops C Lq l a →
    wpAnyLQ P md ops C n (fun listed' a' => Region.seqB md ops g n listed' = true ∧ Lq a') l.length listed a
  | [], k, listed, a, _, hk, _, hB, h => by
    have : k = n := by simpa using hk
    subst this
    exact ⟨by simpa [Region.lexHead] using hB, h⟩
  | o :: l, k, listed, a, hl, hk, inv, hB, h => by
    have h0 : ops[k]? = some o := by simpa using (hl 0 (by simp)).symm
    simp only [List.length_cons, Region.lexHead, Bool.and_eq_true] at hB
    obtain ⟨⟨hr, hf⟩, hB'⟩ := hB
    have hkn : k < n := by simp only [List.length_cons] at hk; omega
    have hr' : k ∈ Region.ready md ops listed := by simpa using hr
    have hst : qOp P ops C k (wpQuiet P ops C Lq l) a := by unfold qOp; simp only [h0]; exact h
    obtain ⟨v, hy, hK⟩ := yieldsIn_of_qOp h0 hst
    exact wpAnyLQ_first h0 (Region.noSelect_spec hsel) hs hc hn hkn (fun listed' a' hL => seqB_ready hL.1) l.length listed a inv (Region.free_spec h0 hf) hr' hy
      (wpAnyLQ_lex hsel hs hc hn l (k + 1) _ _ (fun j hj => by have := hl (j + 1) (by simp; omega); simpa [Nat.add_assoc, Nat.add_comm 1 j] using this) (by simp only [List.length_cons] at hk; omega) (inv.set hr' hkn) hB' hK)
theorem wp_region_quiet_tail {id : Nat} {Q : Exit → Act → World → Prop} {a : Act} {w : World} {l : List Oper} (n : Nat) (hm : P.follows .mixedOrders = true) (hB : Region.lexTailB .any l.toArray n = true) (hC : C { w with drawn := w.drawn + 1 })
    (h : wpQuiet P l.toArray C (fun a' => ∀ w', C w' → wpList P l.toArray Q (l.drop n) a' w') (l.take n) a) : (Code.region id l.toArray true).wp P Q a w := by
  simp only [Region.lexTailB, Bool.and_eq_true, decide_eq_true_eq] at hB
  obtain ⟨⟨⟨⟨hsel, hn⟩, hs⟩, hc⟩, hlex⟩ := hB
  have hn' : n < l.length := by simpa using hn
  have htl : (l.take n).length = n := by simp; omega
  have hdl : (l.drop n).length = l.toArray.size - n := by simp
  have inv0 : HeadInv .any l.toArray n (Array.replicate l.toArray.size false) :=
    ⟨by simp, fun j oj _ hl => (by rw [getD_replicate_false] at hl; cases hl), fun t _ ht => getD_in (by simpa using ht) (getD_replicate_false _ _)⟩
  have H := wpAnyLQ_lex (md := .any) (g := l.toArray.size - n) hsel hs hc hn (l.take n) 0 _ a (fun j hj => by
    have hj' : j < n := by rw [htl] at hj; exact hj
    simp [hj']) (by simpa using htl) inv0 (by rw [htl]; exact hlex) h
  refine wp_region_any hm ?_
  have := wpAny_of_headQ (Q' := Q) (g := l.toArray.size - n) (fun listed a' w' hw' hL => by
    have := wpAny_of_seq (md := .any) (Q' := Q) (l.drop n) n listed a' w' (fun j => by simp [List.getElem?_drop]) (by rw [hdl]; exact hL.1) (hL.2 w' hw')
    rwa [hdl] at this) _ _ _ _ hC H
  rw [htl, show n + (l.toArray.size - n) = l.toArray.size by omega] at this
  exact this
end
/-- The first n operations only read, and their callees may lay new memory; the others follow one behind the other. -/
theorem wp_tailB {P : Program} {id : Nat} {Q : Exit → Act → World → Prop} {a : Act} {w : World} {l : List Oper} (n : Nat) (hm : P.follows .mixedOrders = true) (hB : Region.lexTailB .any l.toArray n = true)
    (h : wpQuiet P l.toArray (fun w' => ∃ p : Regrown, w' = grow (redrawn w p.d) p.os) (fun a' => ∀ w', Below w.heap.size w w' → wpList P l.toArray Q (l.drop n) a' w') (l.take n) a) : (Code.region id l.toArray true).wp P Q a w := by
  refine wp_region_quiet_tail (C := fun w' => ∃ p : Regrown, w' = grow (redrawn w p.d) p.os) n hm hB ⟨⟨w.drawn + 1, #[]⟩, by rw [grow_empty]; rfl⟩ ?_
  have e : (fun a' => ∀ w', (∃ p : Regrown, w' = grow (redrawn w p.d) p.os) → wpList P l.toArray Q (l.drop n) a' w') = fun a' => ∀ w', Below w.heap.size w w' → wpList P l.toArray Q (l.drop n) a' w' := by
    funext a'
    refine propext ⟨fun h w' hb => h w' (regrown_of_below hb), fun h w' ⟨p, hp⟩ => h w' (hp ▸ below_regrown w p.d p.os)⟩
  rw [e]
  exact h
end Go.Proofs.YtehdhbnbajfanaaGreat


/- Small words shared by the walks: boxes laid by a call, a row of cells that it owns, what is left alone; no condition. -/
namespace Go.Proofs.YtehdhbnbajfanaaGreat
set_option linter.unusedSimpArgs false
set_option linter.unusedVariables false
open Go.RowKit Go.Sort

theorem drewB {w w' : World} (hb : Below w.drew.heap.size w.drew w') : Below w.heap.size w w' := ((Below.refl w.heap.size w).drew).trans hb
theorem lt_blk {w : World} {b : Nat} {o : Obj} (hx : w.heap[b]? = some o) : b < w.heap.size := (Array.getElem?_eq_some_iff.1 hx).1
theorem allocB {w w' : World} {o : Obj} (hb : Below (w.alloc o).heap.size (w.alloc o) w') : Below w.heap.size w w' := ((Below.refl w.heap.size w).alloc (Nat.le_refl _) o).trans (hb.mono (by simp))
theorem box2 {w w' : World} {A B : Obj} (hb : Below ((w.alloc A).alloc B).heap.size ((w.alloc A).alloc B) w') : w'.heap[w.heap.size]? = some A ∧ w'.heap[w.heap.size + 1]? = some B ∧ Below w.heap.size w w' := by
  have e : (w.alloc A).heap.size = w.heap.size + 1 := by simp
  refine ⟨blk_keep (up_alloc (heap_alloc_new w A) B) hb, blk_keep (e ▸ heap_alloc_new (w.alloc A) B) hb, (((Below.refl _ _).alloc (Nat.le_refl _) _).alloc (by simp) _).trans (hb.mono (by simp; omega))⟩
theorem box3 {w w' : World} {A B C : Obj} (hb : Below (((w.alloc A).alloc B).alloc C).heap.size (((w.alloc A).alloc B).alloc C) w') : w'.heap[w.heap.size]? = some A ∧ w'.heap[w.heap.size + 1]? = some B ∧ w'.heap[w.heap.size + 2]? = some C ∧ Below w.heap.size w w' := by
  have e : (w.alloc A).heap.size = w.heap.size + 1 := by simp
  have e2 : ((w.alloc A).alloc B).heap.size = w.heap.size + 2 := by simp
  refine ⟨blk_keep (up_alloc (up_alloc (heap_alloc_new w A) B) C) hb, blk_keep (up_alloc (e ▸ heap_alloc_new (w.alloc A) B) C) hb, blk_keep (e2 ▸ heap_alloc_new ((w.alloc A).alloc B) C) hb, ((((Below.refl _ _).alloc (Nat.le_refl _) _).alloc (by simp) _).alloc (by simp; omega) _).trans (hb.mono (by simp; omega))⟩
def upd {α : Type} (f : Nat → α) (k : Nat) (v : α) : Nat → α := fun j => if j = k then v else f j
theorem upd_same {α : Type} (f : Nat → α) (k : Nat) (v : α) : upd f k v k = v := by simp [upd]
theorem upd_ne {α : Type} (f : Nat → α) {k j : Nat} (v : α) (hne : j ≠ k) : upd f k v j = f j := by simp [upd, hne]

/-- Block b is a row of n cells of the call's own; cell k holds f k. -/
structure RowAt (w : World) (b n : Nat) (T : TypeId) (f : Nat → Value) : Prop where
  at_ : ∃ arr : Array Value, w.heap[b]? = some (.cells arr T (0, 0)) ∧ arr.size = n ∧ ∀ k, k < n → arr[k]? = some (f k)
theorem RowAt.lt {w : World} {b n : Nat} {T : TypeId} {f : Nat → Value} (r : RowAt w b n T f) : b < w.heap.size := by obtain ⟨arr, e, _⟩ := r.at_; exact lt_blk e
theorem RowAt.cell {w : World} {b n : Nat} {T : TypeId} {f : Nat → Value} (r : RowAt w b n T f) {k : Nat} (hk : k < n) : w.cell? ⟨b, k, none⟩ = some (f k) := by
  obtain ⟨arr, e, _, g⟩ := r.at_
  simp [World.cell?, e, g k hk]
theorem RowAt.free {w : World} {b n : Nat} {T : TypeId} {f : Nat → Value} (r : RowAt w b n T f) (k : Nat) : w.frozen? ⟨b, k, none⟩ = false := by
  obtain ⟨arr, e, _, g⟩ := r.at_
  simp [World.frozen?, e]
theorem RowAt.of_eq {w w' : World} {b n : Nat} {T : TypeId} {f : Nat → Value} (r : RowAt w b n T f) (e : w'.heap[b]? = w.heap[b]?) : RowAt w' b n T f := by
  obtain ⟨arr, h1, h2⟩ := r.at_
  exact ⟨arr, e.trans h1, h2⟩
theorem RowAt.below {w w' : World} {b n : Nat} {T : TypeId} {f : Nat → Value} (r : RowAt w b n T f) (hb : Below w.heap.size w w') : RowAt w' b n T f := r.of_eq (hb.block b r.lt)
theorem RowAt.set {w : World} {b n : Nat} {T : TypeId} {f : Nat → Value} (r : RowAt w b n T f) {k : Nat} (hk : k < n) (v : Value) : RowAt (w.setCell ⟨b, k, none⟩ v) b n T (upd f k v) := by
  obtain ⟨arr, h1, h2, h3⟩ := r.at_
  refine ⟨arr.setIfInBounds k v, heap_setCell_same _ _ _ _ _ _ h1, by simp [h2], fun j hj => ?_⟩
  by_cases e : j = k
  · subst e; rw [upd_same]; simp [h2, hk]
  · rw [upd_ne _ _ e, ← h3 j hj]
    rw [Array.getElem?_setIfInBounds_ne (by omega)]
theorem RowAt.other {w : World} {b n c k : Nat} {T : TypeId} {f : Nat → Value} (r : RowAt w b n T f) (hne : b ≠ c) (v : Value) : RowAt (w.setCell ⟨c, k, none⟩ v) b n T f :=
  r.of_eq (heap_setCell_other _ _ _ _ (show _ ≠ _ by simpa using hne))
theorem RowAt.made (w : World) (n : Nat) (T : TypeId) (z : Value) : RowAt (w.alloc (.cells (madeCells #[z] n) T)) w.heap.size n T (fun _ => z) := by
  refine ⟨_, heap_alloc_new w _, size_madeCells _ _, fun k hk => ?_⟩
  simp [madeCells, hk, Nat.mod_one]
theorem RowAt.congr {w : World} {b n : Nat} {T : TypeId} {f g : Nat → Value} (r : RowAt w b n T f) (e : ∀ k, k < n → f k = g k) : RowAt w b n T g := by
  obtain ⟨arr, h1, h2, h3⟩ := r.at_
  exact ⟨arr, h1, h2, fun k hk => by rw [h3 k hk, e k hk]⟩
/-- What a row says as a slice. -/
theorem RowAt.slAt {w : World} {b n : Nat} {T : TypeId} {f : Nat → Value} (r : RowAt w b n T f) : SlAt w (some ⟨b, 0, none⟩) 1 ((List.range n).map fun k => [f k]) := fun i x hx => by
  rw [List.getElem?_map] at hx
  by_cases hi : i < n
  · rw [List.getElem?_range hi] at hx
    simp only [Option.map_some, Option.some.injEq] at hx
    subst hx
    refine ⟨b, 0, rfl, r.lt, rfl, fun j v hv => ?_⟩
    have hj : j = 0 := by
      have := (List.getElem?_eq_some_iff.1 hv).1
      simp at this; omega
    subst hj
    simp only [List.getElem?_cons_zero, Option.some.injEq] at hv
    subst hv
    have := r.cell hi
    simpa using this
  · rw [List.getElem?_eq_none (by simp; omega)] at hx
    cases hx
/-- Of the blocks below B nothing has turned but those of S. -/
structure KeepB (B : Nat) (S : List Nat) (w w' : World) : Prop where
  os : w'.os = w.os
  tape : w'.tape = w.tape
  output : w'.output = w.output
  size : w.heap.size ≤ w'.heap.size
  block : ∀ k, k < B → k ∉ S → w'.heap[k]? = w.heap[k]?
theorem KeepB.refl (B : Nat) (S : List Nat) (w : World) : KeepB B S w w := ⟨rfl, rfl, rfl, Nat.le_refl _, fun _ _ _ => rfl⟩
theorem KeepB.trans {B : Nat} {S : List Nat} {w w1 w2 : World} (a : KeepB B S w w1) (b : KeepB B S w1 w2) : KeepB B S w w2 :=
  ⟨b.os.trans a.os, b.tape.trans a.tape, b.output.trans a.output, Nat.le_trans a.size b.size, fun k hk hn => (b.block k hk hn).trans (a.block k hk hn)⟩
theorem KeepB.of_below {B : Nat} {S : List Nat} {w w' : World} (hb : Below w.heap.size w w') (hB : B ≤ w.heap.size) : KeepB B S w w' := ⟨hb.os, hb.tape, hb.output, hb.size, fun k hk _ => hb.block k (by omega)⟩
theorem KeepB.of_below' {B : Nat} {S : List Nat} {w w' : World} (hb : Below B w w') : KeepB B S w w' := ⟨hb.os, hb.tape, hb.output, hb.size, fun k hk _ => hb.block k hk⟩
theorem KeepB.below {B : Nat} {w w' : World} (k : KeepB B [] w w') : Below B w w' := ⟨k.os, k.tape, k.output, k.size, fun i hi => k.block i hi (by simp)⟩
theorem KeepB.set {B : Nat} {S : List Nat} {w w' : World} (a : KeepB B S w w') {p : Addr} (hp : p.block ∈ S ∨ B ≤ p.block) (v : Value) : KeepB B S w (w'.setCell p v) :=
  ⟨a.os, a.tape, a.output, by simpa [World.setCell] using a.size, fun k hk hn => (heap_setCell_other _ _ _ _ (show _ ≠ _ by rintro rfl; rcases hp with hp | hp; exact hn hp; omega)).trans (a.block k hk hn)⟩
theorem KeepB.grown {B : Nat} {S : List Nat} {w w' w2 : World} {row : Option Nat} (a : KeepB B S w w') (hg : w'.grownBy w2 row) (hB : B ≤ w'.heap.size) (hr : ∀ k, row = some k → B ≤ k) : KeepB B S w w2 :=
  ⟨hg.os.trans a.os, hg.tape.trans a.tape, hg.output.trans a.output, Nat.le_trans a.size hg.size, fun k hk hn => (hg.block k (by omega) (fun e => by have := hr k e.symm; omega)).trans (a.block k hk hn)⟩
theorem KeepB.weaken {B B' : Nat} {S S' : List Nat} {w w' : World} (a : KeepB B S w w') (hB : B' ≤ B) (hs : ∀ k ∈ S, k < B' → k ∈ S') : KeepB B' S' w w' :=
  ⟨a.os, a.tape, a.output, a.size, fun k hk hn => a.block k (by omega) (fun hm => hn (hs k hm hk))⟩
end Go.Proofs.YtehdhbnbajfanaaGreat


/- Matchings of rows to columns, and the search for one by alternating paths: plain laws, no condition beside those named. -/
namespace Go.Proofs.YtehdhbnbajfanaaGreat
set_option linter.unusedSimpArgs false
set_option linter.unusedVariables false

/-- f gives each row of R a column below n that it can have, and each another one. -/
structure Mt (can : Nat → Nat → Bool) (R : Nat → Prop) (n : Nat) (f : Nat → Nat) : Prop where
  lt : ∀ i, R i → f i < n
  can : ∀ i, R i → can i (f i) = true
  inj : ∀ i j, R i → R j → f i = f j → i = j
def Mtd (can : Nat → Nat → Bool) (R : Nat → Prop) (n : Nat) : Prop := ∃ f, Mt can R n f
theorem Mt.sub {can : Nat → Nat → Bool} {R R' : Nat → Prop} {n : Nat} {f : Nat → Nat} (m : Mt can R n f) (hs : ∀ i, R' i → R i) : Mt can R' n f :=
  ⟨fun i a => m.lt i (hs i a), fun i a => m.can i (hs i a), fun i j a b => m.inj i j (hs i a) (hs j b)⟩
theorem Mtd.sub {can : Nat → Nat → Bool} {R R' : Nat → Prop} {n : Nat} (m : Mtd can R n) (hs : ∀ i, R' i → R i) : Mtd can R' n := m.elim fun f hf => ⟨f, hf.sub hs⟩

/-- The list of owners ow says, at the columns of U, who of the rows R has which. -/
structure Own (can : Nat → Nat → Bool) (n : Nat) (U R : Nat → Prop) (ow : Nat → Int) : Prop where
  val : ∀ k, k < n → U k → ow k = -1 ∨ ∃ i : Nat, ow k = i ∧ R i ∧ can i k = true
  one : ∀ i, R i → ∃ k, k < n ∧ U k ∧ ow k = (i : Int)
  inj : ∀ k k' (i : Nat), k < n → k' < n → U k → U k' → ow k = i → ow k' = i → k = k'
theorem Own.nobody (can : Nat → Nat → Bool) (n : Nat) : Own can n (fun _ => True) (fun _ => False) (fun _ => -1) :=
  ⟨fun _ _ _ => .inl rfl, fun _ h => h.elim, fun _ _ i _ _ _ _ h _ => by omega⟩
theorem Own.mt {can : Nat → Nat → Bool} {n : Nat} {U R : Nat → Prop} {ow : Nat → Int} (h : Own can n U R ow) : Mtd can R n := by
  have hc : ∀ i, ∃ k, R i → k < n ∧ U k ∧ ow k = (i : Int) := fun i => by
    by_cases hi : R i
    · obtain ⟨k, hk⟩ := h.one i hi
      exact ⟨k, fun _ => hk⟩
    · exact ⟨0, fun a => absurd a hi⟩
  refine ⟨fun i => Classical.choose (hc i), fun i hi => (Classical.choose_spec (hc i) hi).1, fun i hi => ?_, fun i j hi hj e => ?_⟩
  · obtain ⟨h1, h2, h3⟩ := Classical.choose_spec (hc i) hi
    rcases h.val _ h1 h2 with e | ⟨i', e, _, e2⟩
    · omega
    · have : i' = i := by omega
      subst this; exact e2
  · obtain ⟨_, _, h3⟩ := Classical.choose_spec (hc i) hi
    obtain ⟨_, _, h4⟩ := Classical.choose_spec (hc j) hj
    simp only [e] at h3
    omega

/-- A search from r that found a column: what ow has become. -/
structure Yes (can : Nat → Nat → Bool) (n : Nat) (seen : Nat → Bool) (r : Nat) (ow ow' : Nat → Int) : Prop where
  keep : ∀ k, seen k = true → ow' k = ow k
  aug : ∀ R : Nat → Prop, Own can n (fun k => seen k = false) R ow → ¬ R r → Own can n (fun k => seen k = false) (fun i => R i ∨ i = r) ow'
theorem yes_free {can : Nat → Nat → Bool} {n : Nat} {seen : Nat → Bool} {r k : Nat} {ow : Nat → Int} (hk : k < n) (hs : seen k = false) (hc : can r k = true) (ho : ow k < 0) : Yes can n seen r ow (upd ow k (r : Int)) := by
  refine ⟨fun j hj => upd_ne _ _ (by rintro rfl; rw [hs] at hj; cases hj), fun R h hr => ⟨fun j hj hu => ?_, fun i hi => ?_, fun j j' i hj hj' hu hu' e e' => ?_⟩⟩
  · by_cases e : j = k
    · subst e; exact .inr ⟨r, upd_same _ _ _, .inr rfl, hc⟩
    · rw [upd_ne _ _ e]
      rcases h.val j hj hu with a | ⟨i, a, b, c⟩
      · exact .inl a
      · exact .inr ⟨i, a, .inl b, c⟩
  · rcases hi with hi | rfl
    · obtain ⟨j, h1, h2, h3⟩ := h.one i hi
      exact ⟨j, h1, h2, by rw [upd_ne _ _ (by rintro rfl; omega)]; exact h3⟩
    · exact ⟨k, hk, hs, upd_same _ _ _⟩
  · by_cases c : j = k <;> by_cases c' : j' = k
    · rw [c, c']
    · subst c
      rw [upd_same] at e; rw [upd_ne _ _ c'] at e'
      rcases h.val j' hj' hu' with a | ⟨i', a, b, _⟩
      · omega
      · have : i' = r := by omega
        subst this; exact absurd b hr
    · subst c'
      rw [upd_same] at e'; rw [upd_ne _ _ c] at e
      rcases h.val j hj hu with a | ⟨i', a, b, _⟩
      · omega
      · have : i' = r := by omega
        subst this; exact absurd b hr
    · rw [upd_ne _ _ c] at e; rw [upd_ne _ _ c'] at e'
      exact h.inj j j' i hj hj' hu hu' e e'
/-- A column that r can have is taken by r1, and r1 found another one. -/
theorem yes_deep {can : Nat → Nat → Bool} {n : Nat} {seen0 seen : Nat → Bool} {r r1 k : Nat} {ow ow1 : Nat → Int} (hk : k < n) (hs0 : ∀ j, seen0 j = true → seen j = true) (hs : seen k = false) (hc : can r k = true) (ho : ow k = (r1 : Int))
    (Y : Yes can n (upd seen k true) r1 ow ow1) : Yes can n seen0 r ow (upd ow1 k (r : Int)) := by
  have hs0k : seen0 k = false := by
    cases e : seen0 k with
    | false => rfl
    | true => rw [hs0 k e] at hs; cases hs
  have un : ∀ j, (upd seen k true) j = false → j ≠ k ∧ seen0 j = false := fun j hj => by
    have hne : j ≠ k := by rintro rfl; rw [upd_same] at hj; cases hj
    refine ⟨hne, ?_⟩
    rw [upd_ne _ _ hne] at hj
    cases e : seen0 j with
    | false => rfl
    | true => rw [hs0 j e] at hj; cases hj
  refine ⟨fun j hj => ?_, fun R h hr => ?_⟩
  · have hne : j ≠ k := by rintro rfl; rw [hs0k] at hj; cases hj
    rw [upd_ne _ _ hne]
    exact Y.keep j (by rw [upd_ne _ _ hne]; exact hs0 j hj)
  have hR1 : R r1 := by
    rcases h.val k hk hs0k with a | ⟨i, a, b, _⟩
    · omega
    · have : i = r1 := by omega
      subst this; exact b
  have O1 : Own can n (fun j => (upd seen k true) j = false) (fun i => ∃ c, c < n ∧ (upd seen k true) c = false ∧ ow c = (i : Int)) ow := by
    refine ⟨fun j hj hu => ?_, fun i hi => hi, fun j j' i hj hj' hu hu' e e' => h.inj j j' i hj hj' (un j hu).2 (un j' hu').2 e e'⟩
    rcases h.val j hj (un j hu).2 with a | ⟨i, a, b, c⟩
    · exact .inl a
    · exact .inr ⟨i, a, ⟨j, hj, hu, a⟩, c⟩
  have hn1 : ¬ ∃ c, c < n ∧ (upd seen k true) c = false ∧ ow c = (r1 : Int) := by
    rintro ⟨c, h1, h2, h3⟩
    exact (un c h2).1 (h.inj c k r1 h1 hk (un c h2).2 hs0k h3 ho)
  have O2 := Y.aug _ O1 hn1
  have R1R : ∀ i : Nat, (∃ c, c < n ∧ (upd seen k true) c = false ∧ ow c = (i : Int)) → R i := by
    rintro i ⟨c, h1, h2, h3⟩
    rcases h.val c h1 (un c h2).2 with a | ⟨i', a, b, _⟩
    · omega
    · have : i' = i := by omega
      subst this; exact b
  have kept : ∀ j, j ≠ k → (upd seen k true) j = true → ow1 j = ow j := fun j hne hj => Y.keep j hj
  refine ⟨fun j hj hu => ?_, fun i hi => ?_, fun j j' i hj hj' hu hu' e e' => ?_⟩
  · by_cases e : j = k
    · subst e; exact .inr ⟨r, upd_same _ _ _, .inr rfl, hc⟩
    · rw [upd_ne _ _ e]
      cases hsj : (upd seen k true) j with
      | true =>
        rw [kept j e hsj]
        rcases h.val j hj hu with a | ⟨i, a, b, c⟩
        · exact .inl a
        · exact .inr ⟨i, a, .inl b, c⟩
      | false =>
        rcases O2.val j hj hsj with a | ⟨i, a, b, c⟩
        · exact .inl a
        · refine .inr ⟨i, a, .inl ?_, c⟩
          rcases b with b | rfl
          · exact R1R i b
          · exact hR1
  · rcases hi with hi | rfl
    · obtain ⟨c, h1, h2, h3⟩ := h.one i hi
      by_cases e : c = k
      · have : i = r1 := by subst e; omega
        subst this
        obtain ⟨c', g1, g2, g3⟩ := O2.one i (.inr rfl)
        exact ⟨c', g1, (un c' g2).2, by rw [upd_ne _ _ (un c' g2).1]; exact g3⟩
      · cases hsc : (upd seen k true) c with
        | true => exact ⟨c, h1, h2, by rw [upd_ne _ _ e, kept c e hsc]; exact h3⟩
        | false =>
          obtain ⟨c', g1, g2, g3⟩ := O2.one i (.inl ⟨c, h1, hsc, h3⟩)
          exact ⟨c', g1, (un c' g2).2, by rw [upd_ne _ _ (un c' g2).1]; exact g3⟩
    · exact ⟨k, hk, hs0k, upd_same _ _ _⟩
  · have key : ∀ c, c < n → seen0 c = false → c ≠ k → ow1 c = (r : Int) → False := by
      intro c h1 h2 h3 h4
      cases hsc : (upd seen k true) c with
      | true =>
        rw [kept c h3 hsc] at h4
        rcases h.val c h1 h2 with a | ⟨i', a, b, _⟩
        · omega
        · have : i' = r := by omega
          subst this; exact hr b
      | false =>
        rcases O2.val c h1 hsc with a | ⟨i', a, b, _⟩
        · omega
        · have : i' = r := by omega
          subst this
          rcases b with b | rfl
          · exact hr (R1R _ b)
          · exact hr hR1
    have mixed : ∀ c c', c < n → c' < n → seen0 c = false → c ≠ k → (upd seen k true) c = true → (upd seen k true) c' = false → ow1 c = (i : Int) → ow1 c' = (i : Int) → False := by
      intro c c' h1 h2 h3 h4 h5 h6 h7 h8
      rw [kept c h4 h5] at h7
      rcases O2.val c' h2 h6 with a | ⟨i', a, b, _⟩
      · omega
      · have : i' = i := by omega
        subst this
        rcases b with ⟨c2, g1, g2, g3⟩ | rfl
        · have := h.inj c c2 _ h1 g1 h3 (un c2 g2).2 h7 g3
          subst this; rw [h5] at g2; cases g2
        · exact h4 (h.inj c k _ h1 hk h3 hs0k h7 ho)
    by_cases c : j = k <;> by_cases c' : j' = k
    · rw [c, c']
    · subst c
      rw [upd_same] at e; rw [upd_ne _ _ c'] at e'
      exact (key j' hj' hu' c' (by omega)).elim
    · subst c'
      rw [upd_same] at e'; rw [upd_ne _ _ c] at e
      exact (key j hj hu c (by omega)).elim
    · rw [upd_ne _ _ c] at e; rw [upd_ne _ _ c'] at e'
      cases h1 : (upd seen k true) j <;> cases h2 : (upd seen k true) j'
      · exact O2.inj j j' i hj hj' h1 h2 e e'
      · exact (mixed j' j hj' hj hu' c' h2 h1 e' e).elim
      · exact (mixed j j' hj hj' hu c h1 h2 e e').elim
      · rw [kept j c h1] at e; rw [kept j' c' h2] at e'
        exact h.inj j j' i hj hj' hu hu' e e'

/-- Whose columns these are. -/
def rows (ow : Nat → Int) (ks : List Nat) : List Nat := ks.map fun k => (ow k).toNat
theorem rows_app (ow : Nat → Int) (a b : List Nat) : rows ow (a ++ b) = rows ow a ++ rows ow b := by simp [rows]
def colOf (ow : Nat → Int) (ks : List Nat) (i : Nat) : Nat := (ks.find? fun k => (ow k).toNat == i).getD 0
theorem colOf_mem {ow : Nat → Int} {ks : List Nat} {i : Nat} (h : i ∈ rows ow ks) : colOf ow ks i ∈ ks ∧ (ow (colOf ow ks i)).toNat = i := by
  obtain ⟨k, hk, e⟩ := List.mem_map.1 h
  unfold colOf
  cases hf : ks.find? fun k => (ow k).toNat == i with
  | none =>
    have := List.find?_eq_none.1 hf k hk
    exact absurd (by simpa using e) this
  | some c =>
    exact ⟨List.mem_of_find?_eq_some hf, by simpa using List.find?_some hf⟩
/-- Without x the rows r and those of ks can have the columns ks. -/
def Alt (can : Nat → Nat → Bool) (ow : Nat → Int) (ks : List Nat) (r x : Nat) : Prop :=
  ∃ f : Nat → Nat, (∀ i, (i = r ∨ i ∈ rows ow ks) → i ≠ x → f i ∈ ks ∧ can i (f i) = true) ∧ ∀ i i', (i = r ∨ i ∈ rows ow ks) → (i' = r ∨ i' ∈ rows ow ks) → i ≠ x → i' ≠ x → f i = f i' → i = i'
/-- A search from r that has looked at the columns below j in vain; ks were met. -/
structure No (can : Nat → Nat → Bool) (n : Nat) (ow : Nat → Int) (seen seen' : Nat → Bool) (r j : Nat) (ks : List Nat) : Prop where
  lt : ∀ k ∈ ks, k < n ∧ seen k = false ∧ 0 ≤ ow k
  nodup : ks.Nodup
  seen : ∀ k, seen' k = true ↔ seen k = true ∨ k ∈ ks
  mine : ∀ k, k < j → can r k = true → seen' k = true
  closed : ∀ x ∈ rows ow ks, ∀ k, k < n → can x k = true → seen' k = true
  alt : ∀ x ∈ rows ow ks, Alt can ow ks r x
theorem No.start (can : Nat → Nat → Bool) (n : Nat) (ow : Nat → Int) (seen : Nat → Bool) (r : Nat) : No can n ow seen seen r 0 [] :=
  ⟨fun _ h => by simp at h, List.nodup_nil, fun k => by simp, fun _ h => by omega, fun _ h => by simp [rows] at h, fun _ h => by simp [rows] at h⟩
theorem No.skip {can : Nat → Nat → Bool} {n : Nat} {ow : Nat → Int} {seen seen' : Nat → Bool} {r j : Nat} {ks : List Nat} (h : No can n ow seen seen' r j ks) (hj : seen' j = true ∨ can r j = false) : No can n ow seen seen' r (j + 1) ks := by
  refine ⟨h.lt, h.nodup, h.seen, fun k hk hc => ?_, h.closed, h.alt⟩
  by_cases e : k = j
  · subst e
    rcases hj with hj | hj
    · exact hj
    · rw [hj] at hc; cases hc
  · exact h.mine k (by omega) hc
theorem alt_self {can : Nat → Nat → Bool} {ow : Nat → Int} {ks : List Nat} {r : Nat} (hc : ∀ k ∈ ks, can (ow k).toNat k = true) : Alt can ow ks r r := by
  refine ⟨colOf ow ks, fun i hi hne => ?_, fun i i' hi hi' hne hne' e => ?_⟩
  · rcases hi with hi | hi
    · exact absurd hi hne
    · obtain ⟨h1, h2⟩ := colOf_mem hi
      exact ⟨h1, by have := hc _ h1; rwa [h2] at this⟩
  · rcases hi with hi | hi
    · exact absurd hi hne
    · rcases hi' with hi' | hi'
      · exact absurd hi' hne'
      · have h1 := (colOf_mem hi).2
        have h2 := (colOf_mem hi').2
        rw [e] at h1; omega
theorem No.deep {can : Nat → Nat → Bool} {n : Nat} {ow : Nat → Int} {seen seen' seen2 : Nat → Bool} {r r1 j : Nat} {ks ks2 : List Nat} (h : No can n ow seen seen' r j ks) (hj : j < n) (hs : seen' j = false) (hc : can r j = true) (ho : ow j = (r1 : Int))
    (hv : ∀ k, k < n → seen k = false → 0 ≤ ow k → can (ow k).toNat k = true) (h2 : No can n ow (upd seen' j true) seen2 r1 n ks2) : No can n ow seen seen2 r (j + 1) (ks ++ j :: ks2) := by
  have hsj : seen j = false := by
    cases e : seen j with
    | false => rfl
    | true => rw [(h.seen j).2 (.inl e)] at hs; cases hs
  have hjk : j ∉ ks := fun hm => by rw [(h.seen j).2 (.inr hm)] at hs; cases hs
  have sub2 : ∀ k ∈ ks2, k ≠ j ∧ seen' k = false := fun k hk => by
    have := (h2.lt k hk).2.1
    have hne : k ≠ j := by rintro rfl; rw [upd_same] at this; cases this
    rw [upd_ne _ _ hne] at this
    exact ⟨hne, this⟩
  have dis : ∀ k ∈ ks, k ≠ j ∧ k ∉ ks2 := fun k hk => ⟨fun e => hjk (e ▸ hk), fun hm => by have := (sub2 k hm).2; rw [(h.seen k).2 (.inr hk)] at this; cases this⟩
  have grow : ∀ k, seen' k = true → seen2 k = true := fun k hk => (h2.seen k).2 (.inl (by
    by_cases e : k = j
    · subst e; exact upd_same _ _ _
    · rw [upd_ne _ _ e]; exact hk))
  have hr1 : (ow j).toNat = r1 := by omega
  have lts : ∀ k ∈ ks ++ j :: ks2, k < n ∧ seen k = false ∧ 0 ≤ ow k := fun k hk => by
    rcases List.mem_append.1 hk with hk | hk
    · exact h.lt k hk
    · rcases List.mem_cons.1 hk with rfl | hk
      · exact ⟨hj, hsj, by omega⟩
      · obtain ⟨a, _, c⟩ := h2.lt k hk
        refine ⟨a, ?_, c⟩
        cases e : seen k with
        | false => rfl
        | true => have := (sub2 k hk).2; rw [(h.seen k).2 (.inl e)] at this; cases this
  have cans : ∀ k ∈ ks ++ j :: ks2, can (ow k).toNat k = true := fun k hk => hv k (lts k hk).1 (lts k hk).2.1 (lts k hk).2.2
  have rc : rows ow (ks ++ j :: ks2) = rows ow ks ++ r1 :: rows ow ks2 := by simp [rows, hr1]
  refine ⟨lts, ?_, fun k => ?_, fun k hk hck => ?_, fun x hx k hk hck => ?_, fun x hx => ?_⟩
  · rw [List.nodup_append]
    refine ⟨h.nodup, List.nodup_cons.2 ⟨fun hm => (sub2 j hm).1 rfl, h2.nodup⟩, fun a ha b hb e => ?_⟩
    subst e
    rcases List.mem_cons.1 hb with e | hb
    · exact (dis a ha).1 e
    · exact (dis a ha).2 hb
  · rw [h2.seen k]
    by_cases e : k = j
    · subst e; simp [upd_same]
    · rw [upd_ne _ _ e, h.seen k]
      simp [e, or_assoc]
  · by_cases e : k = j
    · subst e; exact (h2.seen k).2 (.inl (upd_same _ _ _))
    · exact grow k (h.mine k (by omega) hck)
  · rw [rc] at hx
    rcases List.mem_append.1 hx with hx | hx
    · exact grow k (h.closed x hx k hk hck)
    · rcases List.mem_cons.1 hx with rfl | hx
      · exact h2.mine k hk hck
      · exact h2.closed x hx k hk hck
  · rw [rc] at hx
    by_cases hxk : x ∈ rows ow ks
    · obtain ⟨f0, g1, g2⟩ := h.alt x hxk
      have p : ∀ i, (i = r ∨ i ∈ rows ow (ks ++ j :: ks2)) → i ≠ x → ((i = r ∨ i ∈ rows ow ks) ∨ ¬ (i = r ∨ i ∈ rows ow ks) ∧ i ∈ rows ow (j :: ks2)) := fun i hi _ => by
        by_cases q : i = r ∨ i ∈ rows ow ks
        · exact .inl q
        · refine .inr ⟨q, ?_⟩
          rcases hi with hi | hi
          · exact absurd (.inl hi) q
          · rw [rows_app] at hi
            rcases List.mem_append.1 hi with hi | hi
            · exact absurd (.inr hi) q
            · exact hi
      refine ⟨fun i => @ite _ (i = r ∨ i ∈ rows ow ks) (Classical.propDecidable _) (f0 i) (colOf ow (j :: ks2) i), fun i hi hne => ?_, fun i i' hi hi' hne hne' e => ?_⟩
      · rcases p i hi hne with q | ⟨q, q2⟩
        · simp only [if_pos q]
          exact ⟨List.mem_append_left _ (g1 i q hne).1, (g1 i q hne).2⟩
        · simp only [if_neg q]
          obtain ⟨a, b⟩ := colOf_mem q2
          exact ⟨List.mem_append_right _ a, by have := cans _ (List.mem_append_right ks a); rwa [b] at this⟩
      · have dd : ∀ a b, a ∈ ks → b ∈ j :: ks2 → a = b → False := fun a b ha hb e => by
          subst e
          rcases List.mem_cons.1 hb with e | hb
          · exact (dis a ha).1 e
          · exact (dis a ha).2 hb
        rcases p i hi hne with q | ⟨q, q2⟩ <;> rcases p i' hi' hne' with q' | ⟨q', q2'⟩
        · simp only [if_pos q, if_pos q'] at e
          exact g2 i i' q q' hne hne' e
        · simp only [if_pos q, if_neg q'] at e
          exact (dd _ _ (g1 i q hne).1 (colOf_mem q2').1 e).elim
        · simp only [if_neg q, if_pos q'] at e
          exact (dd _ _ (g1 i' q' hne').1 (colOf_mem q2).1 e.symm).elim
        · simp only [if_neg q, if_neg q'] at e
          have a := (colOf_mem q2).2
          have b := (colOf_mem q2').2
          rw [e] at a; omega
    · have hx2 : x = r1 ∨ x ∈ rows ow ks2 := by
        rcases List.mem_append.1 hx with hx | hx
        · exact absurd hx hxk
        · exact List.mem_cons.1 hx
      have A2 : Alt can ow ks2 r1 x := by
        rcases hx2 with rfl | hx2
        · exact alt_self fun k hk => cans k (by simp [hk])
        · exact h2.alt x hx2
      obtain ⟨f2, g1, g2⟩ := A2
      have p : ∀ i, (i = r ∨ i ∈ rows ow (ks ++ j :: ks2)) → i ≠ x → i = r ∨ (i ≠ r ∧ (i = r1 ∨ i ∈ rows ow ks2)) ∨ (i ≠ r ∧ ¬ (i = r1 ∨ i ∈ rows ow ks2) ∧ i ∈ rows ow ks) := fun i hi _ => by
        by_cases q : i = r
        · exact .inl q
        · by_cases q2 : i = r1 ∨ i ∈ rows ow ks2
          · exact .inr (.inl ⟨q, q2⟩)
          · refine .inr (.inr ⟨q, q2, ?_⟩)
            rcases hi with hi | hi
            · exact absurd hi q
            · rw [rc] at hi
              rcases List.mem_append.1 hi with hi | hi
              · exact hi
              · exact absurd (List.mem_cons.1 hi) q2
      refine ⟨fun i => @ite _ (i = r) (Classical.propDecidable _) j (@ite _ (i = r1 ∨ i ∈ rows ow ks2) (Classical.propDecidable _) (f2 i) (colOf ow ks i)), fun i hi hne => ?_, fun i i' hi hi' hne hne' e => ?_⟩
      · rcases p i hi hne with q | ⟨q, q2⟩ | ⟨q, q2, q3⟩
        · simp only [if_pos q]
          exact ⟨by simp, by rw [q]; exact hc⟩
        · simp only [if_neg q, if_pos q2]
          exact ⟨by simp [(g1 i q2 hne).1], (g1 i q2 hne).2⟩
        · simp only [if_neg q, if_neg q2]
          obtain ⟨a, b⟩ := colOf_mem q3
          exact ⟨by simp [a], by have := cans _ (List.mem_append_left (j :: ks2) a); rwa [b] at this⟩
      · rcases p i hi hne with q | ⟨q, q2⟩ | ⟨q, q2, q3⟩ <;> rcases p i' hi' hne' with q' | ⟨q', q2'⟩ | ⟨q', q2', q3'⟩
        · rw [q, q']
        · simp only [if_pos q, if_neg q', if_pos q2'] at e
          exact ((sub2 _ (g1 i' q2' hne').1).1 e.symm).elim
        · simp only [if_pos q, if_neg q', if_neg q2'] at e
          exact ((dis _ (colOf_mem q3').1).1 e.symm).elim
        · simp only [if_neg q, if_pos q2, if_pos q'] at e
          exact ((sub2 _ (g1 i q2 hne).1).1 e).elim
        · simp only [if_neg q, if_pos q2, if_neg q', if_pos q2'] at e
          exact g2 i i' q2 q2' hne hne' e
        · simp only [if_neg q, if_pos q2, if_neg q', if_neg q2'] at e
          exact ((dis _ (colOf_mem q3').1).2 (e ▸ (g1 i q2 hne).1)).elim
        · simp only [if_neg q, if_neg q2, if_pos q'] at e
          exact ((dis _ (colOf_mem q3).1).1 e).elim
        · simp only [if_neg q, if_neg q2, if_neg q', if_pos q2'] at e
          exact ((dis _ (colOf_mem q3).1).2 (e ▸ (g1 i' q2' hne').1)).elim
        · simp only [if_neg q, if_neg q2, if_neg q', if_neg q2'] at e
          have a := (colOf_mem q3).2
          have b := (colOf_mem q3').2
          rw [e] at a; omega

/-- As many as go to different ones. -/
theorem pigeon (l : List Nat) : ∀ (ks : List Nat) (f : Nat → Nat), l.Nodup → (∀ i ∈ l, ∀ j ∈ l, f i = f j → i = j) → (∀ i ∈ l, f i ∈ ks) → l.length ≤ ks.length := by
  induction l with
  | nil => intro ks f _ _ _; exact Nat.zero_le _
  | cons x l ih =>
    intro ks f hn hi hm
    have hx := hm x (by simp)
    have h1 := ih (ks.erase (f x)) f (List.nodup_cons.1 hn).2 (fun i hi1 j hj1 => hi i (by simp [hi1]) j (by simp [hj1])) fun i hil => by
      refine (List.mem_erase_of_ne fun e => ?_).2 (hm i (by simp [hil]))
      have := hi i (by simp [hil]) x (by simp) e
      subst this
      exact (List.nodup_cons.1 hn).1 hil
    rw [List.length_erase_of_mem hx] at h1
    have : 0 < ks.length := List.length_pos_of_mem hx
    simp; omega
theorem rows_nodup {can : Nat → Nat → Bool} {n : Nat} {ow : Nat → Int} {seen seen' : Nat → Bool} {r j : Nat} {ks : List Nat} {R : Nat → Prop} (h : No can n ow seen seen' r j ks) (O : Own can n (fun k => seen k = false) R ow) : (rows ow ks).Nodup := by
  have hl := h.lt
  have hn := h.nodup
  clear h
  induction ks with
  | nil => exact List.nodup_nil
  | cons k ks ih =>
    refine List.nodup_cons.2 ⟨fun hm => ?_, ih (fun a ha => hl a (by simp [ha])) (List.nodup_cons.1 hn).2⟩
    obtain ⟨k', hk', e⟩ := List.mem_map.1 hm
    obtain ⟨a1, a2, a3⟩ := hl k (by simp)
    obtain ⟨b1, b2, b3⟩ := hl k' (by simp [hk'])
    have e : (ow k').toNat = (ow k).toNat := e
    have := O.inj k k' (ow k).toNat a1 b1 a2 b2 (by omega) (by omega)
    subst this
    exact (List.nodup_cons.1 hn).1 hk'
theorem rows_in {can : Nat → Nat → Bool} {n : Nat} {ow : Nat → Int} {seen seen' : Nat → Bool} {r j : Nat} {ks : List Nat} {R : Nat → Prop} (h : No can n ow seen seen' r j ks) (O : Own can n (fun k => seen k = false) R ow) : ∀ i ∈ rows ow ks, R i := by
  intro i hi
  obtain ⟨k, hk, e⟩ := List.mem_map.1 hi
  obtain ⟨a1, a2, a3⟩ := h.lt k hk
  rcases O.val k a1 a2 with b | ⟨i', b, c, _⟩
  · omega
  · have : i' = i := by omega
    subst this; exact c
/-- What a search in vain shows: r and the rows that were met cannot be matched; without any one of them they can. -/
theorem No.hall {can : Nat → Nat → Bool} {n : Nat} {ow : Nat → Int} {seen' : Nat → Bool} {r : Nat} {ks : List Nat} {R : Nat → Prop} (h : No can n ow (fun _ => false) seen' r n ks) (O : Own can n (fun _ => True) R ow) (hr : ¬ R r) :
    (r :: rows ow ks).Nodup ∧ ¬ Mtd can (fun i => i ∈ r :: rows ow ks) n ∧ (∀ x ∈ r :: rows ow ks, Mtd can (fun i => i ∈ r :: rows ow ks ∧ i ≠ x) n) ∧ (∀ x ∈ r :: rows ow ks, ∀ k, k < n → can x k = true → k ∈ ks) := by
  have O' : Own can n (fun k => (fun _ : Nat => false) k = false) R ow := ⟨fun k hk _ => O.val k hk trivial, fun i hi => by obtain ⟨k, a, _, b⟩ := O.one i hi; exact ⟨k, a, rfl, b⟩, fun k k' i a b _ _ => O.inj k k' i a b trivial trivial⟩
  have hnd : (r :: rows ow ks).Nodup := List.nodup_cons.2 ⟨fun hm => hr (rows_in h O' r hm), rows_nodup h O'⟩
  have hcl : ∀ x ∈ r :: rows ow ks, ∀ k, k < n → can x k = true → k ∈ ks := fun x hx k hk hc => by
    have : seen' k = true := by
      rcases List.mem_cons.1 hx with rfl | hx
      · exact h.mine k hk hc
      · exact h.closed x hx k hk hc
    rcases (h.seen k).1 this with e | e
    · cases e
    · exact e
  refine ⟨hnd, ?_, fun x hx => ?_, hcl⟩
  · rintro ⟨f, hf⟩
    have := pigeon (r :: rows ow ks) ks f hnd (fun i hi j hj => hf.inj i j hi hj) fun i hi => hcl i hi (f i) (hf.lt i hi) (hf.can i hi)
    simp [rows] at this
    omega
  · have A : Alt can ow ks r x := by
      rcases List.mem_cons.1 hx with rfl | hx
      · exact alt_self fun k hk => by
          obtain ⟨a1, a2, a3⟩ := h.lt k hk
          rcases O'.val k a1 a2 with b | ⟨i', b, _, c⟩
          · omega
          · have : (ow k).toNat = i' := by omega
            rw [this]; exact c
      · exact h.alt x hx
    obtain ⟨f, g1, g2⟩ := A
    exact ⟨f, fun i hi => (h.lt _ (g1 i (List.mem_cons.1 hi.1) hi.2).1).1, fun i hi => (g1 i (List.mem_cons.1 hi.1) hi.2).2, fun i j hi hj => g2 i j (List.mem_cons.1 hi.1) (List.mem_cons.1 hj.1) hi.2 hj.2⟩

/-- Without x all rows can be matched. -/
theorem No.others {can : Nat → Nat → Bool} {n : Nat} {ow : Nat → Int} {seen' : Nat → Bool} {r : Nat} {ks : List Nat} {R : Nat → Prop} (h : No can n ow (fun _ => false) seen' r n ks) (O : Own can n (fun _ => True) R ow) (hr : ¬ R r) :
    ∀ x ∈ r :: rows ow ks, Mtd can (fun i => (R i ∨ i = r) ∧ i ≠ x) n := by
  have O' : Own can n (fun k => (fun _ : Nat => false) k = false) R ow := ⟨fun k hk _ => O.val k hk trivial, fun i hi => by obtain ⟨k, a, _, b⟩ := O.one i hi; exact ⟨k, a, rfl, b⟩, fun k k' i a b _ _ => O.inj k k' i a b trivial trivial⟩
  intro x hx
  have A : Alt can ow ks r x := by
    rcases List.mem_cons.1 hx with rfl | hx
    · exact alt_self fun k hk => by
        obtain ⟨a1, a2, a3⟩ := h.lt k hk
        rcases O'.val k a1 a2 with b | ⟨i', b, _, c⟩
        · omega
        · have : (ow k).toNat = i' := by omega
          rw [this]; exact c
    · exact h.alt x hx
  obtain ⟨f, g1, g2⟩ := A
  have hc : ∀ i, ∃ k, R i → k < n ∧ ow k = (i : Int) := fun i => by
    by_cases hi : R i
    · obtain ⟨k, hk, _, e⟩ := O.one i hi
      exact ⟨k, fun _ => ⟨hk, e⟩⟩
    · exact ⟨0, fun a => absurd a hi⟩
  have out : ∀ i, R i → ¬ (i = r ∨ i ∈ rows ow ks) → Classical.choose (hc i) ∉ ks := fun i hi hn hm => by
    obtain ⟨_, e⟩ := Classical.choose_spec (hc i) hi
    exact hn (.inr (List.mem_map.2 ⟨_, hm, by rw [e]; rfl⟩))
  refine ⟨fun i => @ite _ (i = r ∨ i ∈ rows ow ks) (Classical.propDecidable _) (f i) (Classical.choose (hc i)), fun i hi => ?_, fun i hi => ?_, fun i j hi hj e => ?_⟩
  · by_cases q : i = r ∨ i ∈ rows ow ks
    · simp only [if_pos q]; exact (h.lt _ (g1 i q hi.2).1).1
    · simp only [if_neg q]
      exact (Classical.choose_spec (hc i) (hi.1.resolve_right fun a => q (.inl a))).1
  · by_cases q : i = r ∨ i ∈ rows ow ks
    · simp only [if_pos q]; exact (g1 i q hi.2).2
    · simp only [if_neg q]
      obtain ⟨a, b⟩ := Classical.choose_spec (hc i) (hi.1.resolve_right fun a => q (.inl a))
      rcases O.val _ a trivial with e | ⟨i', e, _, e2⟩
      · omega
      · have : i' = i := by omega
        subst this; exact e2
  · by_cases q : i = r ∨ i ∈ rows ow ks <;> by_cases q' : j = r ∨ j ∈ rows ow ks
    · simp only [if_pos q, if_pos q'] at e
      exact g2 i j q q' hi.2 hj.2 e
    · simp only [if_pos q, if_neg q'] at e
      exact (out j (hj.1.resolve_right fun a => q' (.inl a)) q' (e ▸ (g1 i q hi.2).1)).elim
    · simp only [if_neg q, if_pos q'] at e
      exact (out i (hi.1.resolve_right fun a => q (.inl a)) q (e ▸ (g1 j q' hj.2).1)).elim
    · simp only [if_neg q, if_neg q'] at e
      have a := (Classical.choose_spec (hc i) (hi.1.resolve_right fun a => q (.inl a))).2
      have b := (Classical.choose_spec (hc j) (hj.1.resolve_right fun a => q' (.inl a))).2
      rw [e] at a; omega
/-- Rows that cannot be matched, but without any one of them can; j is the last of them. -/
structure Circ (can : Nat → Nat → Bool) (n m j : Nat) (ms : List Nat) : Prop where
  nodup : ms.Nodup
  mem : j ∈ ms
  le : ∀ x ∈ ms, x ≤ j
  lt : j < m
  before : Mtd can (fun i => i < j) n
  no : ¬ Mtd can (fun i => i ∈ ms) n
  others : ∀ x ∈ ms, Mtd can (fun i => i ≤ j ∧ i ≠ x) n
  few : ∃ ks : List Nat, ks.length + 1 = ms.length ∧ ∀ x ∈ ms, ∀ k, k < n → can x k = true → k ∈ ks
theorem circ_of {can : Nat → Nat → Bool} {n m : Nat} {ow : Nat → Int} {seen' : Nat → Bool} {r : Nat} {ks : List Nat} (h : No can n ow (fun _ => false) seen' r n ks) (O : Own can n (fun _ => True) (fun i => i < r) ow) (hm : r < m) : Circ can n m r (r :: rows ow ks) := by
  have O' : Own can n (fun k => (fun _ : Nat => false) k = false) (fun i => i < r) ow := ⟨fun k hk _ => O.val k hk trivial, fun i hi => by obtain ⟨k, a, _, b⟩ := O.one i hi; exact ⟨k, a, rfl, b⟩, fun k k' i a b _ _ => O.inj k k' i a b trivial trivial⟩
  obtain ⟨h1, h2, h3, h4⟩ := h.hall O (by omega)
  refine ⟨h1, by simp, fun x hx => ?_, hm, O.mt, h2, fun x hx => (h.others O (by omega) x hx).sub fun i hi => ⟨by omega, hi.2⟩, ks, by simp [rows], h4⟩
  rcases List.mem_cons.1 hx with rfl | hx
  · exact Nat.le_refl _
  · have := rows_in h O' x hx; omega
theorem own_yes {can : Nat → Nat → Bool} {n r : Nat} {ow ow' : Nat → Int} (Y : Yes can n (fun _ => false) r ow ow') (O : Own can n (fun _ => True) (fun i => i < r) ow) : Own can n (fun _ => True) (fun i => i < r + 1) ow' := by
  have O' : Own can n (fun k => (fun _ : Nat => false) k = false) (fun i => i < r) ow := ⟨fun k hk _ => O.val k hk trivial, fun i hi => by obtain ⟨k, a, _, b⟩ := O.one i hi; exact ⟨k, a, rfl, b⟩, fun k k' i a b _ _ => O.inj k k' i a b trivial trivial⟩
  have O2 := Y.aug _ O' (by omega)
  refine ⟨fun k hk _ => ?_, fun i hi => ?_, fun k k' i a b _ _ => O2.inj k k' i a b rfl rfl⟩
  · rcases O2.val k hk rfl with e | ⟨i, e, e2, e3⟩
    · exact .inl e
    · exact .inr ⟨i, e, by omega, e3⟩
  · obtain ⟨k, a, _, b⟩ := O2.one i (by omega)
    exact ⟨k, a, trivial, b⟩

end Go.Proofs.YtehdhbnbajfanaaGreat


/- The contract of the search that match.finder makes: by induction over the columns that are not seen. -/
namespace Go.Proofs.YtehdhbnbajfanaaGreat
set_option linter.unusedSimpArgs false
set_option linter.unusedVariables false
open Go.RowKit Go.Sort

theorem eltInt : Elt Tryz.prog 24 3 1 8 inRow := ⟨Tryz.underlying24, ⟨.int .i64 0, by kernel_rfl, rfl⟩, by decide, by decide, fun _ => rfl, fun x u hu => by simp [inRow] at hu; subst hu; rfl⟩
/-- How many of the first n are not seen. -/
def cnt (seen : Nat → Bool) : Nat → Nat
  | 0 => 0
  | n + 1 => cnt seen n + (if seen n then 0 else 1)
theorem cnt_le (seen : Nat → Bool) (n : Nat) : cnt seen n ≤ n := by
  induction n with
  | zero => exact Nat.le_refl _
  | succ n ih => unfold cnt; split <;> omega
theorem cnt_ge (seen : Nat → Bool) (k n : Nat) (h : n ≤ k) : cnt (upd seen k true) n = cnt seen n := by
  induction n with
  | zero => rfl
  | succ n ih => unfold cnt; rw [ih (by omega), upd_ne _ _ (by omega)]
theorem cnt_upd (seen : Nat → Bool) (k n : Nat) (hk : k < n) (hs : seen k = false) : cnt (upd seen k true) n + 1 = cnt seen n := by
  induction n with
  | zero => omega
  | succ n ih =>
    unfold cnt
    by_cases e : k = n
    · subst e; rw [cnt_ge seen k k (Nat.le_refl _), upd_same, hs]; simp
    · have := ih (by omega)
      rw [upd_ne _ _ (by omega)]; omega
/-- Where the search's variables lie, and what is asked of the function that says who can have what. -/
structure Fi where
  n : Nat
  m : Nat
  B : Nat
  bM : Nat
  bO : Nat
  bS : Nat
  bC : Nat
  bF : Nat
  bow : Nat
  bsn : Nat
  cf : Nat
  caps : Array Value
  can : Nat → Nat → Bool
  S : World → Prop
def Fi.own (d : Fi) : List Nat := [d.bM, d.bow, d.bsn]
structure FiOk (d : Fi) : Prop where
  small : d.n ≤ 100000 ∧ d.m ≤ 100000
  lt : (d.bM < d.B ∧ d.bO < d.B ∧ d.bS < d.B ∧ d.bC < d.B ∧ d.bF < d.B) ∧ d.bow < d.B ∧ d.bsn < d.B
  neM : d.bO ≠ d.bM ∧ d.bS ≠ d.bM ∧ d.bC ≠ d.bM ∧ d.bF ≠ d.bM ∧ d.bow ≠ d.bM ∧ d.bsn ≠ d.bM
  neW : d.bO ≠ d.bow ∧ d.bS ≠ d.bow ∧ d.bC ≠ d.bow ∧ d.bF ≠ d.bow ∧ d.bsn ≠ d.bow
  neS : d.bO ≠ d.bsn ∧ d.bS ≠ d.bsn ∧ d.bC ≠ d.bsn ∧ d.bF ≠ d.bsn
  keep : ∀ w w', d.S w → KeepB d.B d.own w w' → d.S w'
  enter : ∀ args w, (callFunc d.cf args).run Tryz.prog w = .ok (.enter d.cf args) w
  can : ∀ w (i k : Nat), d.S w → i < d.m → k < d.n → Calls Tryz.prog d.cf (#[.int .i64 i, .int .i64 k] ++ d.caps) w fun e w' => e = .returned (.bool (d.can i k)) ∧ Below w.heap.size w w'
def metRow (i : Nat) : List Value := inRow (i : Int)
def findV (d : Fi) : Value := .func (Fn.func 92) #[] #[.pointer (some ⟨d.bM, 0, none⟩), .pointer (some ⟨d.bO, 0, none⟩), .pointer (some ⟨d.bS, 0, none⟩), .pointer (some ⟨d.bC, 0, none⟩), .pointer (some ⟨d.bF, 0, none⟩)]
/-- The search's variables in memory. -/
structure FSt (d : Fi) (w : World) (ow : Nat → Int) (seen : Nat → Bool) (met : List Nat) : Prop where
  big : d.B ≤ w.heap.size
  xM : ∃ mv, w.heap[d.bM]? = some (.cells #[mv] 24 (0, 0)) ∧ OwnR w d.B 3 1 mv (met.map metRow)
  xO : w.heap[d.bO]? = some (.cells #[.slice (some ⟨d.bow, 0, none⟩) d.n d.n] 24 (0, 0))
  xS : w.heap[d.bS]? = some (.cells #[.slice (some ⟨d.bsn, 0, none⟩) d.n d.n] 78 (0, 0))
  xC : w.heap[d.bC]? = some (.cells #[.func (Fn.func d.cf) #[] d.caps] 111 (0, 0))
  xF : w.heap[d.bF]? = some (.cells #[findV d] 93 (0, 0))
  ro : RowAt w d.bow d.n 3 (fun k => .int .i64 (ow k))
  rs : RowAt w d.bsn d.n 4 (fun k => .bool (seen k))
  sw : d.S w
theorem FSt.keep {d : Fi} {w w' : World} {ow : Nat → Int} {seen : Nat → Bool} {met met' : List Nat} (ok : FiOk d) (f : FSt d w ow seen met) (k : KeepB d.B [d.bM] w w')
    (xM : ∃ mv, w'.heap[d.bM]? = some (.cells #[mv] 24 (0, 0)) ∧ OwnR w' d.B 3 1 mv (met'.map metRow)) : FSt d w' ow seen met' := by
  obtain ⟨⟨l1, l2, l3, l4, l5⟩, l6, l7⟩ := ok.lt
  obtain ⟨n1, n2, n3, n4, n5, n6⟩ := ok.neM
  refine ⟨Nat.le_trans f.big k.size, xM, (k.block _ l2 (by simpa using n1)).trans f.xO, (k.block _ l3 (by simpa using n2)).trans f.xS, (k.block _ l4 (by simpa using n3)).trans f.xC, (k.block _ l5 (by simpa using n4)).trans f.xF, f.ro.of_eq (k.block _ l6 (by simpa using n5)), f.rs.of_eq (k.block _ l7 (by simpa using n6)), ok.keep _ _ f.sw (k.weaken (Nat.le_refl _) fun b hb _ => by simp only [List.mem_singleton] at hb; subst hb; simp [Fi.own])⟩
theorem FSt.below {d : Fi} {w w' : World} {ow : Nat → Int} {seen : Nat → Bool} {met : List Nat} (ok : FiOk d) (f : FSt d w ow seen met) (hb : Below w.heap.size w w') : FSt d w' ow seen met := by
  obtain ⟨mv, h1, h2⟩ := f.xM
  exact f.keep ok (KeepB.of_below hb f.big) ⟨mv, blk_keep h1 hb, h2.below hb⟩
theorem FSt.seen {d : Fi} {w : World} {ow : Nat → Int} {seen : Nat → Bool} {met : List Nat} (ok : FiOk d) (f : FSt d w ow seen met) {k : Nat} (hk : k < d.n) : FSt d (w.setCell ⟨d.bsn, k, none⟩ (.bool true)) ow (upd seen k true) met := by
  obtain ⟨⟨l1, l2, l3, l4, l5⟩, l6, l7⟩ := ok.lt
  obtain ⟨n1, n2, n3, n4, n5, n6⟩ := ok.neM
  obtain ⟨m1, m2, m3, m4, m5⟩ := ok.neW
  obtain ⟨s1, s2, s3, s4⟩ := ok.neS
  have oth : ∀ b, b ≠ d.bsn → (w.setCell ⟨d.bsn, k, none⟩ (.bool true)).heap[b]? = w.heap[b]? := fun b hb => heap_setCell_other _ _ _ _ (show _ ≠ _ by simpa using hb)
  obtain ⟨mv, h1, h2⟩ := f.xM
  refine ⟨by simpa [World.setCell] using f.big, ⟨mv, (oth _ (Ne.symm n6)).trans h1, h2.wide, ?_⟩, (oth _ s1).trans f.xO, (oth _ s2).trans f.xS, (oth _ s3).trans f.xC, (oth _ s4).trans f.xF, f.ro.other (Ne.symm m5) _, (f.rs.set hk (.bool true)).congr fun j hj => ?_, ok.keep _ _ f.sw ((KeepB.refl _ _ _).set (.inl (by simp [Fi.own])) _)⟩
  · have hl := h2.lt
    obtain ⟨a1, a2⟩ := h2.own
    refine ⟨a1, ?_⟩
    rcases a2 with a2 | ⟨g, cap, cur, e, hg, hc, h3⟩
    · exact .inl a2
    · exact .inr ⟨g, cap, cur, e, hg, (oth g (by omega)).trans hc, h3⟩
  · by_cases e : j = k
    · subst e; simp [upd_same]
    · simp [upd_ne _ _ e]
theorem FSt.give {d : Fi} {w : World} {ow : Nat → Int} {seen : Nat → Bool} {met : List Nat} (ok : FiOk d) (f : FSt d w ow seen met) {k : Nat} (hk : k < d.n) (r : Int) : FSt d (w.setCell ⟨d.bow, k, none⟩ (.int .i64 r)) (upd ow k r) seen met := by
  obtain ⟨⟨l1, l2, l3, l4, l5⟩, l6, l7⟩ := ok.lt
  obtain ⟨n1, n2, n3, n4, n5, n6⟩ := ok.neM
  obtain ⟨m1, m2, m3, m4, m5⟩ := ok.neW
  have oth : ∀ b, b ≠ d.bow → (w.setCell ⟨d.bow, k, none⟩ (.int .i64 r)).heap[b]? = w.heap[b]? := fun b hb => heap_setCell_other _ _ _ _ (show _ ≠ _ by simpa using hb)
  obtain ⟨mv, h1, h2⟩ := f.xM
  refine ⟨by simpa [World.setCell] using f.big, ⟨mv, (oth _ (Ne.symm n5)).trans h1, h2.wide, ?_⟩, (oth _ m1).trans f.xO, (oth _ m2).trans f.xS, (oth _ m3).trans f.xC, (oth _ m4).trans f.xF, (f.ro.set hk (.int .i64 r)).congr fun j hj => ?_, f.rs.other m5 _, ok.keep _ _ f.sw ((KeepB.refl _ _ _).set (.inl (by simp [Fi.own])) _)⟩
  · obtain ⟨a1, a2⟩ := h2.own
    refine ⟨a1, ?_⟩
    rcases a2 with a2 | ⟨g, cap, cur, e, hg, hc, h3⟩
    · exact .inl a2
    · exact .inr ⟨g, cap, cur, e, hg, (oth g (by omega)).trans hc, h3⟩
  · by_cases e : j = k
    · subst e; simp [upd_same]
    · simp [upd_ne _ _ e]
/-- Who is named as an owner is a row. -/
def OwV (d : Fi) (ow : Nat → Int) : Prop := ∀ k, k < d.n → ow k = -1 ∨ ∃ i : Nat, ow k = i ∧ i < d.m
theorem OwV.put {d : Fi} {ow : Nat → Int} (v : OwV d ow) {k r : Nat} (hr : r < d.m) : OwV d (upd ow k (r : Int)) := fun j hj => by
  by_cases e : j = k
  · subst e; exact .inr ⟨r, upd_same _ _ _, hr⟩
  · rw [upd_ne _ _ e]; exact v j hj
/-- What a search from r has done. -/
def FindPost (d : Fi) (r : Nat) (ow : Nat → Int) (seen : Nat → Bool) (met : List Nat) (w : World) (e : Ending) (w' : World) : Prop :=
  ∃ (ok : Bool) (ow' : Nat → Int) (seen' : Nat → Bool) (ms : List Nat), e = .returned (.bool ok) ∧ FSt d w' ow' seen' (met ++ ms) ∧ KeepB d.B d.own w w' ∧ OwV d ow' ∧ ms.length + cnt seen' d.n ≤ cnt seen d.n + 1 ∧ (∀ x ∈ ms, x < d.m) ∧
    ((ok = true ∧ Yes d.can d.n seen r ow ow') ∨ (ok = false ∧ ow' = ow ∧ ∃ ks, ms = r :: rows ow ks ∧ No d.can d.n ow seen seen' r d.n ks))
/-- What the loop over the columns knows. -/
def FindInv (d : Fi) (r : Nat) (ow : Nat → Int) (seen : Nat → Bool) (met : List Nat) (w0 : World) (j : Nat) (w : World) : Prop :=
  ∃ (seen' : Nat → Bool) (ks : List Nat), FSt d w ow seen' (met ++ r :: rows ow ks) ∧ KeepB d.B d.own w0 w ∧ (rows ow ks).length + cnt seen' d.n ≤ cnt seen d.n ∧ No d.can d.n ow seen seen' r j ks
end Go.Proofs.YtehdhbnbajfanaaGreat


/- The search that match.finder makes, walked. -/
namespace Go.Proofs.YtehdhbnbajfanaaGreat
set_option linter.unusedSimpArgs false
set_option linter.unusedVariables false
open Go.RowKit Go.Sort

theorem eltMet : Elt Tryz.prog 24 3 1 8 metRow := ⟨Tryz.underlying24, ⟨.int .i64 0, by kernel_rfl, rfl⟩, by decide, by decide, fun _ => rfl, fun x u hu => by simp [metRow, inRow] at hu; subst hu; rfl⟩
theorem OwnR.put {w : World} {B : Nat} {E : TypeId} {sz : Nat} {v : Value} {rows : List (List Value)} (ow : OwnR w B E sz v rows) {p : Addr} (hp : p.block < B) (u : Value) : OwnR (w.setCell p u) B E sz v rows := by
  refine ⟨ow.wide, ?_⟩
  obtain ⟨a1, a2⟩ := ow.own
  refine ⟨a1, ?_⟩
  rcases a2 with a2 | ⟨g, cap, cur, e, hg, hc, h3⟩
  · exact .inl a2
  · exact .inr ⟨g, cap, cur, e, hg, (heap_setCell_other _ _ _ _ (show _ ≠ _ by omega)).trans hc, h3⟩
theorem find_start {d : Fi} (D : FiOk d) {w w1 : World} {ow : Nat → Int} {seen : Nat → Bool} {met : List Nat} {r : Nat} {a1 : Option Addr} {L1 c1 : Nat} {mv : Value} (F : FSt d w ow seen met) (K : KeepB d.B [] w w1)
    (x1 : w1.heap[d.bM]? = some (.cells #[mv] 24 (0, 0))) (o1 : OwnR w1 d.B 3 1 (.slice a1 L1 c1) ((met ++ [r]).map metRow)) : FSt d (w1.setCell ⟨d.bM, 0, none⟩ (.slice a1 L1 c1)) ow seen (met ++ [r]) ∧ KeepB d.B d.own w (w1.setCell ⟨d.bM, 0, none⟩ (.slice a1 L1 c1)) := by
  have K2 : KeepB d.B [d.bM] w (w1.setCell ⟨d.bM, 0, none⟩ (.slice a1 L1 c1)) := (K.weaken (Nat.le_refl _) (fun k hk => by simp at hk)).set (.inl (by simp)) _
  refine ⟨F.keep D K2 ⟨_, heap_setCell_same _ _ _ _ _ _ x1, o1.put D.lt.1.1 _⟩, K2.weaken (Nat.le_refl _) fun b hb _ => by simp only [List.mem_singleton] at hb; subst hb; simp [Fi.own]⟩
theorem find_unseen {can : Nat → Nat → Bool} {n r j : Nat} {ow : Nat → Int} {seen seen' : Nat → Bool} {ks : List Nat} (N : No can n ow seen seen' r j ks) {k : Nat} (hs : seen' k = false) : seen k = false := by
  cases e : seen k with
  | false => rfl
  | true => rw [(N.seen k).2 (.inl e)] at hs; cases hs
theorem find_sub {can : Nat → Nat → Bool} {n r j : Nat} {ow : Nat → Int} {seen seen' : Nat → Bool} {ks : List Nat} (N : No can n ow seen seen' r j ks) {k i : Nat} (hs : upd seen' i true k = false) : seen k = false := by
  by_cases e : k = i
  · subst e; rw [upd_same] at hs; cases hs
  · rw [upd_ne _ _ e] at hs; exact find_unseen N hs
theorem find_rows {d : Fi} {r j : Nat} {ow : Nat → Int} {seen seen' : Nat → Bool} {ks : List Nat} (V : OwV d ow) (hr : r < d.m) (N : No d.can d.n ow seen seen' r j ks) : ∀ x ∈ r :: rows ow ks, x < d.m := by
  intro x hx
  rcases List.mem_cons.1 hx with rfl | hx
  · exact hr
  · obtain ⟨k, hk, e⟩ := List.mem_map.1 hx
    obtain ⟨a, _, c⟩ := N.lt k hk
    rcases V k a with b | ⟨i, b, b2⟩
    · omega
    · omega
theorem find_met {ow : Nat → Int} {met ks ks2 : List Nat} {r j i : Nat} (ho : ow j = (i : Int)) : met ++ r :: rows ow (ks ++ j :: ks2) = met ++ (r :: rows ow ks ++ i :: rows ow ks2) := by
  simp [rows, ho]
set_option maxRecDepth 100000 in
set_option maxHeartbeats 4000000 in
theorem find_any (d : Fi) (D : FiOk d) : ∀ (u : Nat) (r : Nat) (ow : Nat → Int) (seen : Nat → Bool) (met : List Nat) (w : World), cnt seen d.n ≤ u → r < d.m → OwV d ow → met.length + cnt seen d.n ≤ 200000 →
    (∀ k, k < d.n → seen k = false → 0 ≤ ow k → d.can (ow k).toNat k = true) → FSt d w ow seen met →
    Calls Tryz.prog 92 #[.int .i64 r, .pointer (some ⟨d.bM, 0, none⟩), .pointer (some ⟨d.bO, 0, none⟩), .pointer (some ⟨d.bS, 0, none⟩), .pointer (some ⟨d.bC, 0, none⟩), .pointer (some ⟨d.bF, 0, none⟩)] w (FindPost d r ow seen met w) := by
  intro u
  induction u using Nat.strongRecOn with
  | _ u IH =>
  intro r ow seen met w hu hr hv hmet hcan F
  have HI := Lib.hid IH; have HD := Lib.hid D; have HV := Lib.hid hv; have HC := Lib.hid hcan; have HU := Lib.hid hu
  obtain ⟨hn, hm⟩ := D.small
  have heg := D.enter
  obtain ⟨n1, n2, n3, n4, n5, n6⟩ := D.neM
  obtain ⟨mv, xm, om⟩ := F.xM
  have HO := Lib.hid om
  have hcM := box_cells xm; have hfM := box_free xm; have HXM := Lib.hid xm
  have hbig := F.big
  have hF := Lib.hid F
  clear IH D hv hcan hu xm om F
  go_enter Tryz.func92, Tryz.ntmps92
  go_wp2_with ((at_builtin; refine appE eltMet rfl (.tmp 9) (.tmp 11) rfl d.B _ met rfl (HO.out.below ((Below.refl _ _).alloc (Nat.le_refl _) _)) _ _ _ [r] rfl rfl (fun e => by cases e) (eltMet.new _ _ _ _ rfl) (by simp; omega) (by simp; omega) ?_; intro v1 w1 ho1 hg1; obtain ⟨a1, c1, e1, _, _⟩ := ho1.slAt; generalize (List.map metRow (met ++ [r])).length = L1 at e1; subst e1; have HO1 := Lib.hid ho1; have hk1 := (KeepB.of_below (S := []) ((Below.refl w.heap.size w).alloc (Nat.le_refl _) _) hbig).grown hg1 (by simp; omega) (fun k hk => (HO.out.lt k hk).1); have x1 := (hk1.block d.bM (by have := HD.out.lt.1.1; omega) (by simp)).trans HXM.out; clear ho1 hg1; have hcM1 := box_cells x1; have hfM1 := box_free x1; have HX1 := Lib.hid x1; have HK1 := Lib.hid hk1; have y1 := (hk1.block d.bO (by have := HD.out.lt.1.2.1; omega) (by simp)).trans hF.out.xO; have hcO1 := box_cells y1; clear x1 hk1 y1))
  obtain ⟨F1, K1⟩ := find_start HD.out hF.out HK1.out HX1.out HO1.out
  generalize w1.setCell ⟨d.bM, 0, none⟩ (.slice a1 L1 c1) = W at *
  have HF1 := Lib.hid F1; have HK := Lib.hid K1
  clear F1 K1 hcM1 hfM1 hcO1 hcM hfM
  go_loopw [15] (fun i wr => ∃ j : Nat, j ≤ d.n ∧ i = .int .i64 j ∧ FindInv d r ow seen met w j wr) (fun i _ => d.n - (intOf i).toNat)
  case atStart => exact ⟨0, Nat.zero_le _, rfl, seen, [], HF1.out, HK.out, by simp [rows], No.start _ _ _ _ _⟩
  case round =>
    obtain ⟨j, hj, rfl, seen', ks, F, K, C, N⟩ := hrel
    have HF := Lib.hid F; have HK2 := Lib.hid K; have HN := Lib.hid N; have HCn := Lib.hid C
    clear K N C
    have hcO := box_cells F.xO; have hcS := box_cells F.xS; have hcC := box_cells F.xC; have hcF := box_cells F.xF; unfold findV at hcF
    clear F
    by_cases hlt : j < d.n
    · have hsj := HF.out.rs.cell hlt
      have hfj := HF.out.rs.free j
      cases hs : seen' j
      · rw [hs] at hsj
        have HS := Lib.hid hs; clear hs
        go_wp2_with (fail)
        refine (HD.out.can _ _ _ HF.out.sw hr hlt).mono ?_; rintro e w2 ⟨rfl, hb⟩
        have HF2 := Lib.hid (HF.out.below HD.out hb)
        replace HK2 := Lib.hid (HK2.out.trans (KeepB.of_below hb HF.out.big))
        clear hb hcO hcS hcC hcF hsj hfj
        have F := HF2.out
        have hcO := box_cells F.xO; have hcS := box_cells F.xS; have hcC := box_cells F.xC; have hcF := box_cells F.xF; unfold findV at hcF
        clear F HF
        cases hc : d.can r j
        · have HCC := Lib.hid hc; clear hc
          go_wp2
          go_roundw
          case rel => exact ⟨j + 1, by omega, by go_num, seen', ks, HF2.out, HK2.out, HCn.out, HN.out.skip (.inr HCC.out)⟩
          case measure => simp [intOf]; omega
        · have HCC := Lib.hid hc; clear hc
          have hfs := HF2.out.rs.free j
          have hcs := HF2.out.rs.cell hlt
          go_wp2
          have HF3 := Lib.hid (HF2.out.seen HD.out hlt)
          have HK3 := Lib.hid (HK2.out.set (p := ⟨d.bsn, j, none⟩) (.inl (by simp [Fi.own])) (.bool true))
          generalize w2.setCell ⟨d.bsn, j, none⟩ (.bool true) = w3 at *
          clear hcO hcS hcC hcF hfs hcs HF2 HK2
          have F := HF3.out
          have hcO := box_cells F.xO; have hcS := box_cells F.xS; have hcC := box_cells F.xC; have hcF := box_cells F.xF; unfold findV at hcF
          have hcw := F.ro.cell hlt
          have hfw := F.ro.free j
          clear F
          have hcnt := cnt_upd seen' j d.n hlt HS.out
          rcases HV.out j hlt with ho | ⟨i, ho, him⟩
          · rw [ho] at hcw
            have HOj := Lib.hid ho; clear ho
            have g0 := cell_regrown (hcO 0); have g1 := cell_regrown hcw
            refine wp_quietB (by kernel_rfl) (by kernel_rfl) ?_
            repeat (go_big_quiet_step (fail))
            refine wpQuiet_nil ?_
            intro w4 hb
            clear g0 g1 hcO hcS hcC hcF hcw hfw
            have HF4 := Lib.hid (HF3.out.below HD.out hb)
            have HK4 := Lib.hid (HK3.out.trans (KeepB.of_below hb HF3.out.big))
            clear hb
            have F := HF4.out
            have hcO := box_cells F.xO; have hcS := box_cells F.xS; have hcC := box_cells F.xC; have hcF := box_cells F.xF; unfold findV at hcF
            have hcw := F.ro.cell hlt
            have hfw := F.ro.free j
            clear F
            go_wp2
            go_ret
            exact ⟨true, upd ow j (r : Int), upd seen' j true, r :: rows ow ks, rfl, HF4.out.give HD.out hlt _, HK4.out.set (.inl (by simp [Fi.own])) _, HV.out.put hr, by have := HCn.out; simp; omega, find_rows HV.out hr HN.out, .inl ⟨rfl, yes_free hlt (find_unseen HN.out HS.out) HCC.out (by rw [HOj.out]; decide)⟩⟩
          · rw [ho] at hcw
            have HOj := Lib.hid ho; clear ho
            have hng : decide ((i : Int) < 0) = false := by simp <;> omega
            have g0 := cell_regrown (hcO 0); have g1 := cell_regrown hcw; have g2 := cell_regrown (hcF 0)
            refine wp_tailB 11 (by kernel_rfl) (by kernel_rfl) ?_
            simp only [List.take_succ_cons, List.take_zero, List.drop_succ_cons, List.drop_zero]
            repeat (go_big_quiet_step (fail))
            refine wpQuiet_nil ?_
            intro w4 hb
            clear g0 g1 g2
            clear hcO hcS hcC hcF hcw hfw
            have HF4 := Lib.hid (HF3.out.below HD.out hb)
            have HK4 := Lib.hid (HK3.out.trans (KeepB.of_below hb HF3.out.big))
            clear hb
            go_wp2_with (fail)
            refine (HI.out (cnt (upd seen' j true) d.n) (by have := HCn.out; have := HU.out; omega) i ow (upd seen' j true) (met ++ r :: rows ow ks) w4 (Nat.le_refl _) him HV.out (by have := HCn.out; simp; omega) (fun k hk hsk ho => HC.out k hk (find_sub HN.out hsk) ho) HF4.out).mono ?_
            rintro e w5 ⟨ok, ow', seen2, ms2, rfl, F5, K5, V5, C5, R5, Y5⟩
            have HF5 := Lib.hid F5
            have HK5 := Lib.hid (HK4.out.trans K5)
            have HV5 := Lib.hid V5; have HC5 := Lib.hid C5; have HR5 := Lib.hid R5
            clear F5 K5 V5 C5 R5
            have F := HF5.out
            have hcO := box_cells F.xO; have hcS := box_cells F.xS; have hcC := box_cells F.xC; have hcF := box_cells F.xF; unfold findV at hcF
            have hcw := F.ro.cell hlt
            have hfw := F.ro.free j
            clear F
            rcases Y5 with ⟨rfl, Y⟩ | ⟨rfl, rfl, ks2, rfl, N2⟩
            · have HY := Lib.hid Y; clear Y
              go_wp2
              go_ret
              exact ⟨true, upd ow' j (r : Int), seen2, (r :: rows ow ks) ++ ms2, rfl, by rw [← List.append_assoc]; exact HF5.out.give HD.out hlt _, HK5.out.set (.inl (by simp [Fi.own])) _, HV5.out.put hr, by have := HCn.out; have := HC5.out; simp; omega, fun x hx => (List.mem_append.1 hx).elim (find_rows HV.out hr HN.out x) (HR5.out x), .inl ⟨rfl, yes_deep hlt (fun k hk => (HN.out.seen k).2 (.inl hk)) HS.out HCC.out HOj.out HY.out⟩⟩
            · have HN2 := Lib.hid N2; clear N2
              go_wp2
              go_roundw
              case rel => exact ⟨j + 1, by omega, by go_num, seen2, ks ++ j :: ks2, by rw [find_met HOj.out, ← List.append_assoc]; exact HF5.out, HK5.out, by have := HCn.out; have := HC5.out; simp [rows] at *; omega, HN.out.deep hlt HS.out HCC.out HOj.out HC.out HN2.out⟩
              case measure => simp [intOf]; omega
      · rw [hs] at hsj
        have HS := Lib.hid hs; clear hs
        go_wp2
        go_roundw
        case rel => exact ⟨j + 1, by omega, by go_num, seen', ks, HF.out, HK2.out, HCn.out, HN.out.skip (.inl HS.out)⟩
        case measure => simp [intOf]; omega
    · have hjn : j = d.n := by omega
      have HJ := Lib.hid hjn; clear hjn
      go_wp2
      go_ret
      exact ⟨false, ow, seen', r :: rows ow ks, rfl, HF.out, HK2.out, HV.out, by simp; have := HCn.out; omega, find_rows HV.out hr HN.out, .inr ⟨rfl, rfl, ks, rfl, HJ.out ▸ HN.out⟩⟩
end Go.Proofs.YtehdhbnbajfanaaGreat


/- The function that match.finder hands back, and match.finder: contracts. -/
namespace Go.Proofs.YtehdhbnbajfanaaGreat
set_option linter.unusedSimpArgs false
set_option linter.unusedVariables false
open Go.RowKit Go.Sort

/-- Where a finder's variables lie, and what is asked of the function that says who can have what. -/
structure Gi where
  n : Nat
  m : Nat
  B : Nat
  bO : Nat
  bC : Nat
  bR : Nat
  bow : Nat
  cf : Nat
  caps : Array Value
  can : Nat → Nat → Bool
  S : World → Prop
structure GiOk (g : Gi) : Prop where
  small : g.n ≤ 100000 ∧ g.m ≤ 100000
  lt : g.bO < g.B ∧ g.bC < g.B ∧ g.bR < g.B ∧ g.bow < g.B
  ne : g.bO ≠ g.bow ∧ g.bC ≠ g.bow ∧ g.bR ≠ g.bow
  keep : ∀ w w', g.S w → KeepB g.B [g.bow] w w' → g.S w'
  enter : ∀ args w, (callFunc g.cf args).run Tryz.prog w = .ok (.enter g.cf args) w
  can : ∀ w (i k : Nat), g.S w → i < g.m → k < g.n → Calls Tryz.prog g.cf (#[.int .i64 i, .int .i64 k] ++ g.caps) w fun e w' => e = .returned (.bool (g.can i k)) ∧ Below w.heap.size w w'
/-- A finder's variables in memory. -/
structure GSt (g : Gi) (w : World) (ow : Nat → Int) : Prop where
  big : g.B ≤ w.heap.size
  xO : w.heap[g.bO]? = some (.cells #[.slice (some ⟨g.bow, 0, none⟩) g.n g.n] 24 (0, 0))
  xC : w.heap[g.bC]? = some (.cells #[.func (Fn.func g.cf) #[] g.caps] 111 (0, 0))
  xR : w.heap[g.bR]? = some (.cells #[.int .i64 (g.m : Int)] 3 (0, 0))
  ro : RowAt w g.bow g.n 3 (fun k => .int .i64 (ow k))
  sw : g.S w
theorem GSt.keep {g : Gi} {w w' : World} {ow : Nat → Int} (ok : GiOk g) (f : GSt g w ow) (k : KeepB g.B [] w w') : GSt g w' ow := by
  obtain ⟨l1, l2, l3, l4⟩ := ok.lt
  exact ⟨Nat.le_trans f.big k.size, (k.block _ l1 (by simp)).trans f.xO, (k.block _ l2 (by simp)).trans f.xC, (k.block _ l3 (by simp)).trans f.xR, f.ro.of_eq (k.block _ l4 (by simp)), ok.keep _ _ f.sw (k.weaken (Nat.le_refl _) (fun b hb => by simp at hb))⟩
theorem GSt.below {g : Gi} {w w' : World} {ow : Nat → Int} (ok : GiOk g) (f : GSt g w ow) (hb : Below w.heap.size w w') : GSt g w' ow := f.keep ok (KeepB.of_below hb f.big)
/-- What a search of a finder says. -/
def GPost (g : Gi) (r : Nat) (ow : Nat → Int) (w : World) (e : Ending) (w' : World) : Prop :=
  ∃ (ok : Bool) (ow' : Nat → Int) (mv : Value) (met : List Nat), e = .returned (.tuple #[mv, .bool ok]) ∧ GSt g w' ow' ∧ KeepB w.heap.size [g.bow] w w' ∧ OwnR w' w.heap.size 3 1 mv (met.map metRow) ∧
    (∀ k, k < g.n → ow' k = -1 ∨ ∃ i : Nat, ow' k = i ∧ i < g.m) ∧ met.length ≤ g.n + 1 ∧
    ((ok = true ∧ Yes g.can g.n (fun _ => false) r ow ow') ∨ (ok = false ∧ ow' = ow ∧ ∃ ks seen', met = r :: rows ow ks ∧ No g.can g.n ow (fun _ => false) seen' r g.n ks))
theorem OwnR.lower {w : World} {B B' : Nat} {E : TypeId} {sz : Nat} {v : Value} {rows : List (List Value)} (o : OwnR w B E sz v rows) (hB : B' ≤ B) : OwnR w B' E sz v rows := by
  refine ⟨o.wide, ?_⟩
  obtain ⟨a1, a2⟩ := o.own
  refine ⟨a1, ?_⟩
  rcases a2 with a2 | ⟨g, cap, cur, e, hg, hc, h3⟩
  · exact .inl a2
  · exact .inr ⟨g, cap, cur, e, Nat.le_trans hB hg, hc, h3⟩
def Gi.fi (g : Gi) (b : Nat) : Fi := { n := g.n, m := g.m, B := b + 4, bM := b + 1 + 1, bO := g.bO, bS := b + 1, bC := g.bC, bF := b + 1 + 1 + 1, bow := g.bow, bsn := b, cf := g.cf, caps := g.caps, can := g.can, S := g.S }
theorem fi_ok {g : Gi} (G : GiOk g) {b : Nat} (hb : g.B ≤ b) : FiOk (g.fi b) := by
  obtain ⟨l1, l2, l3, l4⟩ := G.lt
  obtain ⟨n1, n2, n3⟩ := G.ne
  refine ⟨G.small, ⟨⟨?_, ?_, ?_, ?_, ?_⟩, ?_, ?_⟩, ⟨?_, ?_, ?_, ?_, ?_, ?_⟩, ⟨n1, ?_, n2, ?_, ?_⟩, ⟨?_, ?_, ?_, ?_⟩, fun w w' hs k => G.keep _ _ hs (k.weaken (show g.B ≤ b + 4 by omega) fun x hx hlt => ?_), G.enter, G.can⟩
  all_goals try (simp only [Gi.fi]; omega)
  simp only [Gi.fi, Fi.own, List.mem_cons, List.not_mem_nil, or_false] at hx ⊢
  omega
theorem fst_start {g : Gi} (G : GiOk g) {w : World} {ow : Nat → Int} (F : GSt g w ow) : FSt (g.fi w.heap.size) ((((w.alloc (.cells (madeCells #[.bool false] g.n) 4)).alloc (.cells #[.slice (some ⟨w.heap.size, 0, none⟩) g.n g.n] 78)).alloc (.cells #[.slice none 0 0] 24)).alloc
    (.cells #[findV (g.fi w.heap.size)] 93)) ow (fun _ => false) [] := by
  have hb : Below w.heap.size w ((((w.alloc (.cells (madeCells #[.bool false] g.n) 4)).alloc (.cells #[.slice (some ⟨w.heap.size, 0, none⟩) g.n g.n] 78)).alloc (.cells #[.slice none 0 0] 24)).alloc (.cells #[findV (g.fi w.heap.size)] 93)) :=
    ((((Below.refl w.heap.size w).alloc (Nat.le_refl _) _).alloc (by simp) _).alloc (by simp; omega) _).alloc (by simp; omega) _
  have x0 := RowAt.made w g.n 4 (.bool false)
  have x1 : ((w.alloc (.cells (madeCells #[.bool false] g.n) 4)).alloc (.cells #[.slice (some ⟨w.heap.size, 0, none⟩) g.n g.n] 78)).heap[w.heap.size + 1]? = some _ := at_alloc _ _ (by simp)
  have x2 : (((w.alloc (.cells (madeCells #[.bool false] g.n) 4)).alloc (.cells #[.slice (some ⟨w.heap.size, 0, none⟩) g.n g.n] 78)).alloc (.cells #[.slice none 0 0] 24)).heap[w.heap.size + 1 + 1]? = some _ := at_alloc _ _ (by simp)
  refine ⟨by simp [Gi.fi], ⟨_, up_alloc x2 _, OwnR.nil _ _ _ _⟩, blk_keep F.xO hb, up_alloc (up_alloc x1 _) _, blk_keep F.xC hb, at_alloc _ _ (by simp [Gi.fi]), F.ro.below hb, ?_, G.keep _ _ F.sw (KeepB.of_below hb F.big)⟩
  exact ((x0.below ((Below.refl _ _).alloc (Nat.le_refl _) _)).below ((Below.refl _ _).alloc (Nat.le_refl _) _)).below ((Below.refl _ _).alloc (Nat.le_refl _) _)
set_option maxRecDepth 100000 in
set_option maxHeartbeats 4000000 in
theorem search_any (g : Gi) (G : GiOk g) (r : Nat) (ow : Nat → Int) (w : World) (hr : r < g.m) (hv : ∀ k, k < g.n → ow k = -1 ∨ ∃ i : Nat, ow k = i ∧ i < g.m ∧ g.can i k = true) (F : GSt g w ow) :
    Calls Tryz.prog 91 #[.int .i64 r, .pointer (some ⟨g.bO, 0, none⟩), .pointer (some ⟨g.bC, 0, none⟩), .pointer (some ⟨g.bR, 0, none⟩)] w (GPost g r ow w) := by
  obtain ⟨hn, hm⟩ := G.small
  have hmk := fun w => run_make_row' (P := Tryz.prog) 78 4 (.bool false) 1 Tryz.underlying78 (by kernel_rfl) rfl .i64 .i64 g.n (by omega) (by omega) w
  have hcO := box_cells F.xO; have hcC := box_cells F.xC; have hcR := box_cells F.xR
  have hl1 := lt_blk F.xO; have hl2 := lt_blk F.xC; have hl3 := lt_blk F.xR; have hl4 := F.ro.lt
  have HB4 := Lib.hid (fun o1 o2 o3 o4 => ((((Below.refl w.heap.size w).alloc (Nat.le_refl _) o1).alloc (by simp) o2).alloc (by simp; omega) o3).alloc (by simp; omega) o4)
  have hR4 := fun o1 o2 o3 o4 => ((HB4.out o1 o2 o3 o4).cell (p := ⟨g.bR, 0, none⟩) hl3).trans (hcR 0)
  simp only [List.getElem?_toArray, List.getElem?_cons_zero] at hR4
  have hbig := F.big
  have HF := Lib.hid F; have HG := Lib.hid G; have HV := Lib.hid hv
  clear F G hv
  go_enter Tryz.func91, Tryz.ntmps91
  go_wp2_with (fail)
  refine (find_any (g.fi w.heap.size) (fi_ok HG.out hbig) _ r ow (fun _ => false) [] _ (Nat.le_refl _) hr (fun k hk => ?_) ?_ (fun k hk _ ho => ?_) (fst_start HG.out HF.out)).mono ?_
  · rcases HV.out k hk with e | ⟨i, e, e2, _⟩
    · exact .inl e
    · exact .inr ⟨i, e, e2⟩
  · have := cnt_le (fun _ => false) g.n
    show [].length + cnt (fun _ => false) g.n ≤ 200000
    simp; omega
  · rcases HV.out k hk with e | ⟨i, e, _, e3⟩
    · omega
    · rw [e]; exact e3
  rintro e w5 ⟨ok, ow', seen', ms, rfl, F5, K5, V5, C5, R5, Y5⟩
  have K6 : KeepB w.heap.size [g.bow] w w5 := (KeepB.of_below' (HB4.out _ _ _ _)).trans (K5.weaken (show w.heap.size ≤ w.heap.size + 4 by omega) fun x hx hlt => by simp only [Gi.fi, Fi.own, List.mem_cons, List.not_mem_nil, or_false] at hx ⊢; omega)
  obtain ⟨l1, l2, l3, l4⟩ := HG.out.lt
  obtain ⟨n1, n2, n3⟩ := HG.out.ne
  have G5 : GSt g w5 ow' := ⟨Nat.le_trans hbig K6.size, F5.xO, F5.xC, (K6.block _ (by omega) (by simpa using n3)).trans HF.out.xR, F5.ro, F5.sw⟩
  obtain ⟨mv, xm, om⟩ := F5.xM
  have hcM := box_cells xm
  have HK := Lib.hid K6; have HG5 := Lib.hid G5; have HY := Lib.hid Y5; have HV5 := Lib.hid V5; have HC5 := Lib.hid C5; have HOM := Lib.hid om
  clear K6 G5 Y5 V5 C5 om F5 K5 R5 xm hR4 hmk hcO hcC hcR
  simp only [Gi.fi] at hcM
  go_wp2
  go_ret2
  refine ⟨ok, ow', mv, ms, rfl, HG5.out, HK.out, ?_, HV5.out, ?_, ?_⟩
  · exact OwnR.lower HOM.out (show w.heap.size ≤ w.heap.size + 4 by omega)
  · have h1 := HC5.out
    have h2 := cnt_le (fun _ => false) g.n
    simp only [Gi.fi] at h1
    omega
  · rcases HY.out with ⟨h1, h2⟩ | ⟨h1, h2, ks, h3, h4⟩
    · exact .inl ⟨h1, h2⟩
    · exact .inr ⟨h1, h2, ks, seen', h3, h4⟩
end Go.Proofs.YtehdhbnbajfanaaGreat


/- A slice of slices of integers in memory; contracts of match.formed, match.wide, match.nobody. -/
namespace Go.Proofs.YtehdhbnbajfanaaGreat
set_option linter.unusedSimpArgs false
set_option linter.unusedVariables false
open Go.RowKit Go.Sort

/-- A slice as it is in every row of a slice of slices: of its address nothing is known where it is empty. -/
structure SlOk0 (a : Option Addr) (n cap : Nat) : Prop where
  le : n ≤ cap
  none : a = none → cap = 0
theorem SlOk.weak {a : Option Addr} {n cap : Nat} (h : SlOk a n cap) : SlOk0 a n cap := ⟨h.le, h.none⟩
/-- The rows c lie in memory, their slices in the row at a. -/
structure MatAt (w : World) (a : Option Addr) (c : List (List Int)) : Prop where
  at_ : ∃ vs : List Value, SlAt w a 1 (vs.map fun v => [v]) ∧ vs.length = c.length ∧ ∀ i (hi : i < c.length), ∃ ai cap, vs[i]? = some (.slice ai (c[i]).length cap) ∧ SlOk0 ai (c[i]).length cap ∧ InAt w ai c[i]
theorem MatAt.below {w w' : World} {a : Option Addr} {c : List (List Int)} (m : MatAt w a c) (hb : Below w.heap.size w w') : MatAt w' a c := by
  obtain ⟨vs, h1, h2, h3⟩ := m.at_
  refine ⟨vs, h1.below hb, h2, fun i hi => ?_⟩
  obtain ⟨ai, cap, g1, g2, g3⟩ := h3 i hi
  exact ⟨ai, cap, g1, g2, g3.below hb⟩
theorem MatAt.get {w : World} {a : Option Addr} {c : List (List Int)} (m : MatAt w a c) (i : Nat) (hi : i < c.length) : ∃ b off ai cap, a = some ⟨b, off, none⟩ ∧ w.cell? ⟨b, off + i, none⟩ = some (.slice ai (c[i]).length cap) ∧ SlOk0 ai (c[i]).length cap ∧ InAt w ai c[i] := by
  obtain ⟨vs, h1, h2, h3⟩ := m.at_
  obtain ⟨ai, cap, g1, g2, g3⟩ := h3 i hi
  obtain ⟨b, off, e, _, _, hc⟩ := h1 i [.slice ai (c[i]).length cap] (by rw [List.getElem?_map, g1]; rfl)
  have := hc 0 _ rfl
  rw [Nat.mul_one, Nat.add_zero] at this
  exact ⟨b, off, ai, cap, e, this, g2, g3⟩
/-- The first row of a slice of slices. -/
theorem MatAt.none {w : World} {c : List (List Int)} (m : MatAt w .none c) : c = [] := by
  cases c with
  | nil => rfl
  | cons l c =>
    obtain ⟨b, off, ai, cap, e, _⟩ := m.get 0 (by simp)
    cases e
def wideL (c : List (List Int)) : Nat := (c.head?.map List.length).getD 0
def costOk (n : Int) : Bool := decide (-1 ≤ n) && decide (n ≤ 1000000)
def rowOk (k : Nat) (l : List Int) : Bool := decide (l.length = k) && l.all costOk
/-- The error of costs. -/
def formE (c : List (List Int)) : Int := if decide (c.length ≤ 200) && c.all (fun l => decide (l.length ≤ 200)) then (if c.all (rowOk (wideL c)) then 0 else 1) else 2
theorem formE_ok {c : List (List Int)} (e : formE c = 0) : c.length ≤ 200 ∧ wideL c ≤ 200 ∧ (∀ l ∈ c, l.length = wideL c) ∧ ∀ l ∈ c, ∀ n ∈ l, -1 ≤ n ∧ n ≤ 1000000 := by
  unfold formE at e
  split at e
  · rename_i h1
    split at e
    · rename_i h2
      simp only [Bool.and_eq_true, decide_eq_true_eq, List.all_eq_true] at h1 h2
      have h3 : ∀ l ∈ c, l.length = wideL c ∧ ∀ n ∈ l, -1 ≤ n ∧ n ≤ 1000000 := fun l hl => by
        have := h2 l hl
        simp only [rowOk, Bool.and_eq_true, decide_eq_true_eq, List.all_eq_true, costOk] at this
        exact this
      refine ⟨h1.1, ?_, fun l hl => (h3 l hl).1, fun l hl => (h3 l hl).2⟩
      cases c with
      | nil => simp [wideL]
      | cons l c => exact (h1.2 l (by simp))
    · omega
  · omega
theorem long_any (a : Option Addr) (n cap : Nat) (w : World) : Calls Tryz.prog 103 #[.slice a n cap] w fun e w' => e = .returned (.bool (decide (200 < n))) ∧ w = w' := by
  go_enter Tryz.func103, Tryz.ntmps103
  go_wp2
  go_ret
  exact ⟨by simp; omega, rfl⟩
theorem cost_any (n : Int) (w : World) : Calls Tryz.prog 105 #[.int .i64 n] w fun e w' => e = .returned (.bool (!costOk n)) ∧ w = w' := by
  go_enter Tryz.func105, Tryz.ntmps105
  go_wp2
  all_goals (go_ret; exact ⟨congrArg Ending.returned (congrArg Value.bool (by rw [Bool.eq_iff_iff]; simp [costOk] <;> omega)), rfl⟩)
/-- An index, or -1. -/
def IdxPost {α : Type} (l : List α) (p : α → Bool) (w : World) (e : Ending) (w' : World) : Prop := ∃ i : Int, e = .returned (.int .i64 i) ∧ ((i = -1 ∧ l.any p = false) ∨ (0 ≤ i ∧ l.any p = true)) ∧ w = w'
theorem any_take_no {α : Type} (l : List α) (p : α → Bool) (h : ∀ i (hi : i < l.length), p l[i] = false) : l.any p = false := by
  rw [List.any_eq_false]
  intro x hx
  obtain ⟨i, hi, rfl⟩ := List.mem_iff_getElem.1 hx
  rw [h i hi]; simp
set_option maxHeartbeats 1000000 in
theorem idxRows_any (a : Option Addr) (cap : Nat) (c : List (List Int)) (w : World) (hl : c.length ≤ 100000000000000) (hm : MatAt w a c) (hs : SlOk a c.length cap) :
    Calls Tryz.prog 112 #[.slice a c.length cap, .func (Fn.func 103) #[] #[]] w (IdxPost c (fun l => decide (200 < l.length)) w) := by
  have HS := Lib.hid hs; have HM := Lib.hid hm; clear hs hm
  go_enter Tryz.func112, Tryz.ntmps112
  go_wp2
  go_loop [8] (fun i => ∃ k : Nat, k ≤ c.length ∧ i = .int .i64 k ∧ ∀ j (hj : j < c.length), j < k → decide (200 < (c[j]).length) = false) (fun i => c.length - (intOf i).toNat)
  case atStart => exact ⟨0, Nat.zero_le _, rfl, fun j hj hk => by omega⟩
  case round =>
    obtain ⟨k, hk, rfl, hall⟩ := hrel
    have HA := Lib.hid hall; clear hall
    by_cases hlt : k < c.length
    · obtain ⟨b, off, ai, ci, rfl, c0, _, _⟩ := HM.out.get k hlt
      cases hd : decide (200 < (c[k]).length)
      · have HDD := Lib.hid hd
        go_wp2_with (fail)
        refine (long_any _ _ _ _).mono ?_; rintro e w' ⟨rfl, rfl⟩
        go_wp2
        go_round
        case rel => exact ⟨k + 1, by omega, by go_num, fun j hj hjk => by
          by_cases e : j = k
          · subst e; exact HDD.out
          · exact HA.out j hj (by omega)⟩
        case measure => simp [intOf]; omega
      · have HDD := Lib.hid hd
        go_wp2_with (fail)
        refine (long_any _ _ _ _).mono ?_; rintro e w' ⟨rfl, rfl⟩
        go_wp2
        go_ret
        exact ⟨k, rfl, .inr ⟨by omega, List.any_eq_true.2 ⟨c[k], List.getElem_mem _, HDD.out⟩⟩, rfl⟩
    · go_wp2
      go_ret
      exact ⟨-1, rfl, .inl ⟨rfl, any_take_no _ _ fun i hi => HA.out i hi (by omega)⟩, rfl⟩
set_option maxHeartbeats 1000000 in
theorem idxInts_any (a : Option Addr) (cap : Nat) (l : List Int) (w : World) (hl : l.length ≤ 100000000000000) (hm : InAt w a l) (hs : SlOk0 a l.length cap) :
    Calls Tryz.prog 78 #[.slice a l.length cap, .func (Fn.func 105) #[] #[]] w (IdxPost l (fun n => !costOk n) w) := by
  have HS := Lib.hid hs; have HM := Lib.hid hm; clear hs hm
  go_enter Tryz.func78, Tryz.ntmps78
  go_wp2
  go_loop [8] (fun i => ∃ k : Nat, k ≤ l.length ∧ i = .int .i64 k ∧ ∀ j (hj : j < l.length), j < k → (!costOk l[j]) = false) (fun i => l.length - (intOf i).toNat)
  case atStart => exact ⟨0, Nat.zero_le _, rfl, fun j hj hk => by omega⟩
  case round =>
    obtain ⟨k, hk, rfl, hall⟩ := hrel
    have HA := Lib.hid hall; clear hall
    by_cases hlt : k < l.length
    · obtain ⟨b, off, rfl, c0⟩ := HM.out.get k hlt
      cases hd : costOk l[k]
      · have HDD := Lib.hid hd
        go_wp2_with (fail)
        refine (cost_any _ _).mono ?_; rintro e w' ⟨rfl, rfl⟩
        go_wp2
        go_ret
        exact ⟨k, rfl, .inr ⟨by omega, List.any_eq_true.2 ⟨l[k], List.getElem_mem _, by rw [HDD.out]; rfl⟩⟩, rfl⟩
      · have HDD := Lib.hid hd
        go_wp2_with (fail)
        refine (cost_any _ _).mono ?_; rintro e w' ⟨rfl, rfl⟩
        go_wp2
        go_round
        case rel => exact ⟨k + 1, by omega, by go_num, fun j hj hjk => by
          by_cases e : j = k
          · subst e; rw [HDD.out]; rfl
          · exact HA.out j hj (by omega)⟩
        case measure => simp [intOf]; omega
    · go_wp2
      go_ret
      exact ⟨-1, rfl, .inl ⟨rfl, any_take_no _ _ fun i hi => HA.out i hi (by omega)⟩, rfl⟩
theorem hasRows_any (a : Option Addr) (cap : Nat) (c : List (List Int)) (w : World) (hl : c.length ≤ 100000000000000) (hm : MatAt w a c) (hs : SlOk a c.length cap) :
    Calls Tryz.prog 104 #[.slice a c.length cap, .func (Fn.func 103) #[] #[]] w fun e w' => e = .returned (.bool (c.any fun l => decide (200 < l.length))) ∧ w = w' := by
  have HS := Lib.hid hs; have HM := Lib.hid hm; clear hs hm
  generalize hA : (c.any fun l => decide (200 < l.length)) = A
  have HA := Lib.hid hA; clear hA
  go_enter Tryz.func104, Tryz.ntmps104
  go_wp2_with (fail)
  refine (idxRows_any a cap c w hl HM.out HS.out).mono ?_; rintro e w' ⟨i, rfl, hi, rfl⟩
  rw [HA.out] at hi
  rcases hi with ⟨rfl, rfl⟩ | ⟨hi, rfl⟩
  · go_wp2
    go_ret
    exact ⟨rfl, rfl⟩
  · go_wp2
    go_ret
    exact ⟨by simp [hi], rfl⟩
theorem hasInts_any (a : Option Addr) (cap : Nat) (l : List Int) (w : World) (hl : l.length ≤ 100000000000000) (hm : InAt w a l) (hs : SlOk0 a l.length cap) :
    Calls Tryz.prog 63 #[.slice a l.length cap, .func (Fn.func 105) #[] #[]] w fun e w' => e = .returned (.bool (l.any fun n => !costOk n)) ∧ w = w' := by
  have HS := Lib.hid hs; have HM := Lib.hid hm; clear hs hm
  generalize hA : (l.any fun n => !costOk n) = A
  have HA := Lib.hid hA; clear hA
  go_enter Tryz.func63, Tryz.ntmps63
  go_wp2_with (fail)
  refine (idxInts_any a cap l w hl HM.out HS.out).mono ?_; rintro e w' ⟨i, rfl, hi, rfl⟩
  rw [HA.out] at hi
  rcases hi with ⟨rfl, rfl⟩ | ⟨hi, rfl⟩
  · go_wp2
    go_ret
    exact ⟨rfl, rfl⟩
  · go_wp2
    go_ret
    exact ⟨by simp [hi], rfl⟩
end Go.Proofs.YtehdhbnbajfanaaGreat
