import Derived.WalkSpells
import Derived.WalkLawsBesides
import Derived.Lib.Hide
import Derived.BigQuiet
import Derived.Lib.QuietBelow
import Derived.Deep.RegionHeld3
import Derived.Deep.DeepCutAuto
import Derived.Laws.AppendOwnNone
import Derived.StillTail
import Derived.Deep.OwnRows
import Derived.RangeFuncRecord
set_option linter.unusedSimpArgs false
set_option linter.unusedVariables false
set_option maxRecDepth 100000
set_option maxHeartbeats 16000000
namespace Go.Proofs.YtajijcfikihhjaaGreatDoor
open Go.RowKit Go.Sort
def inB (n lo hi : Int) : Bool := decide (lo ≤ n) && decide (n ≤ hi)
theorem QK {k : IntKind} {a b : Int} (h : a = b) : Ending.returned (.int k a) = .returned (.int k b) := by rw [h]
theorem ret_ibi {j k : IntKind} {a a' c c' : Int} {b b' : Bool} (h1 : a = a') (h2 : b = b') (h3 : c = c') : Ending.returned (.tuple #[.int j a, .bool b, .int k c]) = .returned (.tuple #[.int j a', .bool b', .int k c']) := by rw [h1, h2, h3]
theorem Qf {a b : Bool} (h : a = b) : Ending.returned (.bool a) = .returned (.bool b) := by rw [h]
theorem len_take {α : Type} (l : List α) (k : Nat) (h : k ≤ l.length) : k = (l.take k).length := by simp; omega
theorem take_eq_succ {α : Type} (l r : List α) (k : Nat) (h : k < l.length) (h' : k < r.length) (hp : l.take k = r.take k) (he : l[k] = r[k]) : l.take (k + 1) = r.take (k + 1) := by
 rw [List.take_succ_eq_append_getElem h, List.take_succ_eq_append_getElem h', hp, he]
theorem ne_at {α : Type} (l r : List α) (k : Nat) (h : k < l.length) (h' : k < r.length) (he : l[k] ≠ r[k]) : l ≠ r := fun e => by subst e; exact he rfl
theorem Ut {b : Bool} (h : (!b) = true) : b = false := by simpa using h
theorem Uu {b : Bool} (h : (!b) = false) : b = true := by simpa using h
theorem Zg (n lo hi : Int) : inB n lo hi = true ↔ lo ≤ n ∧ n ≤ hi := by simp [inB]
theorem Zf (n lo hi : Int) : inB n lo hi = false ↔ n < lo ∨ hi < n := by
 rw [← Bool.not_eq_true, Zg]; omega
def SlAt (w : World) (a : Option Addr) (sz : Nat) (rows : List (List Value)) : Prop :=
 ∀ i r, rows[i]? = some r → ∃ b off, a = some ⟨b, off, none⟩ ∧ b < w.heap.size ∧ r.length = sz ∧ ∀ j v, r[j]? = some v → w.cell? ⟨b, off + i * sz + j, none⟩ = some v
structure SlOk (a : Option Addr) (n cap : Nat) : Prop where
 le : n ≤ cap
 none : a = none → cap = 0
 spot : ∀ ad, a = some ad → cap ≠ 0 → ad.spot = Option.none
theorem SlOk.nil : SlOk .none 0 0 := ⟨Nat.le_refl _, fun _ => rfl, fun _ h => by cases h⟩
theorem SlAt.nil (w : World) (a : Option Addr) (sz : Nat) : SlAt w a sz [] := fun i r h => by simp at h
theorem SlAt.below {w w' : World} {a : Option Addr} {sz : Nat} {rows : List (List Value)} (h : SlAt w a sz rows) (hb : Below w.heap.size w w') : SlAt w' a sz rows := fun i r hr => by
 obtain ⟨b, off, e, hlt, hl, hc⟩ := h i r hr
 exact ⟨b, off, e, Nat.lt_of_lt_of_le hlt hb.size, hl, fun j v hv => (hb.cell (p := ⟨b, _, none⟩) hlt).trans (hc j v hv)⟩
theorem SlAt.take {w : World} {a : Option Addr} {sz : Nat} {rows : List (List Value)} (h : SlAt w a sz rows) (k : Nat) : SlAt w a sz (rows.take k) := fun i r hr => by
 rw [List.getElem?_take] at hr
 split at hr
 ·exact h i r hr
 ·cases hr
theorem SlAt.alloc {w : World} {a : Option Addr} {sz : Nat} {rows : List (List Value)} (h : SlAt w a sz rows) (o : Obj) : SlAt (w.alloc o) a sz rows := h.below ((Below.refl _ _).alloc (Nat.le_refl _) _)
theorem Qn {P : Program} {id : Nat} {Q : Exit → Act → World → Prop} {a : Act} {w : World} {l : List Oper} (hm : P.follows .mixedOrders = true) (hB : Region.lexB .any l.toArray = true)
  (h : wpQuiet P l.toArray (fun w' => ∃ p : Regrown, w' = grow (redrawn w p.d) p.os) (fun a' => ∀ w', Below w.heap.size w w' → Q .normal a' w') l a) : (Code.region id l.toArray true).wp P Q a w := by
 refine wp_region_quiet_below hm hB ?_
 have e : (fun a' => ∀ w', (∃ p : Regrown, w' = grow (redrawn w p.d) p.os) → Q .normal a' w') = fun a' => ∀ w', Below w.heap.size w w' → Q .normal a' w' := by
  funext a'
  refine propext ⟨fun h w' hb => h w' (regrown_of_below hb), fun h w' ⟨p, hp⟩ => h w' (hp ▸ below_regrown w p.d p.os)⟩
 rw [e]
 exact h
theorem Qc {w w' : World} {b : Nat} {o : Obj} (h : w.heap[b]? = some o) (hb : Below w.heap.size w w') : w'.heap[b]? = some o := (hb.block b (Array.getElem?_eq_some_iff.1 h).1).trans h
theorem Qa {p : Prop} (h : p) : Hid p := Lib.hid h
theorem bu {w w1 w2 : World} (h : Hid (Below w.heap.size w w1)) (k : Below w1.heap.size w1 w2) : Hid (Below w.heap.size w w2) := Lib.hid (h.out.trans (k.mono h.out.size))
theorem bk {b : Nat} {o : Obj} {w w1 : World} (h : Hid (w.heap[b]? = some o)) (k : Below w.heap.size w w1) : Hid (w1.heap[b]? = some o) := Lib.hid (Qc h.out k)
theorem QG {w w1 w2 : World} {b : Nat} {o : Obj} (h : w.heap[b]? = some o) (h1 : Below w.heap.size w w1) (hb : Below w1.heap.size w1 w2) : w2.heap[b]? = some o := Qc (Qc h h1) hb
theorem Qj {w : World} {b : Nat} {o : Obj} (h : w.heap[b]? = some o) (o' : Obj) : (w.alloc o').heap[b]? = some o := Qc h ((Below.refl _ _).alloc (Nat.le_refl _) _)
theorem QJ (w : World) (o : Obj) {k : Nat} (h : k = w.heap.size) : (w.alloc o).heap[k]? = some o := by subst h; exact heap_alloc_new w o
theorem box_below {w w' : World} {o : Obj} (hb : Below (w.alloc o).heap.size (w.alloc o) w') : w'.heap[w.heap.size]? = some o := Qc (heap_alloc_new w o) hb
theorem Qb {w : World} {b : Nat} {cs : Array Value} {T : TypeId} {fr : Nat × Nat} (h : w.heap[b]? = some (.cells cs T fr)) : ∀ j, w.cell? ⟨b, j, none⟩ = cs[j]? := fun j => by simp [World.cell?, h]
theorem Qe {w : World} {b : Nat} {cs : Array Value} {T : TypeId} (h : w.heap[b]? = some (.cells cs T (0, 0))) : ∀ j, w.frozen? ⟨b, j, none⟩ = false := fun j => by simp [World.frozen?, h]
theorem JB (rows : List (List Value)) (sz : Nat) (h : ∀ r ∈ rows, r.length = sz) (i j : Nat) (r : List Value) (v : Value) (hr : rows[i]? = some r) (hv : r[j]? = some v) : rows.flatten[i * sz + j]? = some v := by
 induction rows generalizing i with
 | nil => simp at hr
 | cons x rows ih =>
  have hx := h x (by simp)
  cases i with
  | zero =>
   simp at hr; subst hr
   rw [List.flatten_cons, Nat.zero_mul, Nat.zero_add, List.getElem?_append_left (List.getElem?_eq_some_iff.1 hv).1]; exact hv
  | succ i =>
   have hr' : rows[i]? = some r := by simpa using hr
   rw [List.flatten_cons, List.getElem?_append_right (by rw [hx, Nat.succ_mul]; omega), hx, show (i + 1) * sz + j - sz = i * sz + j by rw [Nat.succ_mul]; omega]
   exact ih (fun r hm => h r (by simp [hm])) i hr'
theorem flat_inv (rows : List (List Value)) (sz : Nat) (h : ∀ r ∈ rows, r.length = sz) (k : Nat) (u : Value) (hk : rows.flatten[k]? = some u) : ∃ i j r, rows[i]? = some r ∧ r[j]? = some u ∧ k = i * sz + j := by
 induction rows generalizing k with
 | nil => simp at hk
 | cons x rows ih =>
  have hx := h x (by simp)
  rw [List.flatten_cons] at hk
  by_cases hlt : k < x.length
  ·rw [List.getElem?_append_left hlt] at hk
   exact ⟨0, k, x, by simp, hk, by omega⟩
  ·rw [List.getElem?_append_right (by omega)] at hk
   obtain ⟨i, j, r, h1, h2, h3⟩ := ih (fun r hm => h r (by simp [hm])) _ hk
   exact ⟨i + 1, j, r, by simpa using h1, h2, by rw [Nat.succ_mul]; omega⟩
theorem JA (rows : List (List Value)) (sz : Nat) (h : ∀ r ∈ rows, r.length = sz) : rows.flatten.length = rows.length * sz := by
 induction rows with
 | nil => simp
 | cons x rows ih => rw [List.flatten_cons, List.length_append, ih (fun r hm => h r (by simp [hm])), h x (by simp), List.length_cons, Nat.succ_mul]; omega
structure OwnR (w : World) (B : Nat) (E : TypeId) (sz : Nat) (v : Value) (rows : List (List Value)) : Prop where
 wide : ∀ r ∈ rows, r.length = sz
 own : w.ownsRow B E sz v rows.length rows.flatten
theorem OwnR.nil (w : World) (B : Nat) (E : TypeId) (sz : Nat) : OwnR w B E sz (.slice none 0 0) [] := ⟨by simp, World.ownsRow_nil w B E sz⟩
theorem ownsRow_below {w w' : World} {B n : Nat} {E : TypeId} {sz : Nat} {v : Value} {xs : List Value} (h : w.ownsRow B E sz v n xs) (hb : Below w.heap.size w w') : w'.ownsRow B E sz v n xs := by
 obtain ⟨h1, h2⟩ := h
 refine ⟨h1, ?_⟩
 rcases h2 with h2 | ⟨g, cap, cur, e, hg, hc, h3⟩
 ·exact .inl h2
 ·exact .inr ⟨g, cap, cur, e, hg, (hb.block g (Array.getElem?_eq_some_iff.1 hc).1).trans hc, h3⟩
theorem OwnR.below {w w' : World} {B : Nat} {E : TypeId} {sz : Nat} {v : Value} {rows : List (List Value)} (h : OwnR w B E sz v rows) (hb : Below w.heap.size w w') : OwnR w' B E sz v rows := ⟨h.wide, ownsRow_below h.own hb⟩
theorem OwnR.kept {w w' : World} {B : Nat} {E : TypeId} {sz : Nat} {v : Value} {rows : List (List Value)} {row : Option Nat} (h : OwnR w B E sz v rows) (hg : w.grownBy w' row) (hne : v.ownBlock = none ∨ v.ownBlock ≠ row) : OwnR w' B E sz v rows := ⟨h.wide, h.own.kept hg hne⟩
theorem OwnR.lt {w : World} {B : Nat} {E : TypeId} {sz : Nat} {v : Value} {rows : List (List Value)} (h : OwnR w B E sz v rows) : ∀ k, v.ownBlock = some k → B ≤ k ∧ k < w.heap.size := h.own.lt
theorem OwnR.slAt {w : World} {B : Nat} {E : TypeId} {sz : Nat} {v : Value} {rows : List (List Value)} (h : OwnR w B E sz v rows) :
  ∃ a cap, v = .slice a rows.length cap ∧ SlOk a rows.length cap ∧ SlAt w a sz rows := by
 obtain ⟨hw, hl, h2⟩ := h
 rcases h2 with ⟨rfl, hn⟩ | ⟨g, cap, cur, rfl, hB, hc, hle, _, hsz, htk⟩
 ·obtain rfl : rows = [] := List.length_eq_zero_iff.1 hn
  exact ⟨none, 0, rfl, SlOk.nil, SlAt.nil _ _ _⟩
 ·refine ⟨_, cap, rfl, ⟨hle, (fun e => by cases e), (fun ad e _ => by cases e; rfl)⟩, fun i r hr => ⟨g, 0, rfl, (Array.getElem?_eq_some_iff.1 hc).1, hw r (List.mem_of_getElem? hr), fun j u hu => ?_⟩⟩
  have hf := JB rows sz hw i j r u hr hu
  rw [← htk, List.getElem?_take] at hf
  split at hf
  ·rw [World.cell?, hc, Nat.zero_add]
   simpa using hf
  ·cases hf
theorem SlAt.flat {w : World} {sz : Nat} {rows : List (List Value)} {b off : Nat} (h : SlAt w (some ⟨b, off, none⟩) sz rows) : ∀ j u, rows.flatten[j]? = some u → w.cell? ((⟨b, off, none⟩ : Addr).add j) = some u := by
 intro k u hk
 have hw : ∀ r ∈ rows, r.length = sz := fun r hr => by
  obtain ⟨i, hi⟩ := List.getElem?_of_mem hr
  obtain ⟨_, _, _, _, hl, _⟩ := h i r hi
  exact hl
 obtain ⟨i, j, r, h1, h2, h3⟩ := flat_inv rows sz hw k u hk
 obtain ⟨b', off', e, _, _, hc⟩ := h i r h1
 cases e
 have := hc j u h2
 subst h3
 unfold Addr.add
 split
 ·rename_i h0
  have e : off + i * sz + j = off := by omega
  rw [e] at this; exact this
 ·rw [show off + (i * sz + j) = off + i * sz + j by omega]; exact this
theorem Z1 {rows : List (List Value)} (h : ∀ r ∈ rows, ∀ u ∈ r, u.oneCell' = true) : ∀ u ∈ rows.flatten, u.oneCell' = true := fun u hu => by
 obtain ⟨r, hr, hur⟩ := List.mem_flatten.1 hu
 exact h r hr u hur
theorem wpList_appendR {P : Program} {w : World} {ops : Array Oper} {rest : List Oper} {o : Oper} {a : Act} {Q : Exit → Act → World → Prop} (hgd : o.guard = none) (s x : Operand) (t : TypeId)
  (ho : o.op = .call { callee := .builtin .append, args := #[s, x], argTypes := #[t, t] })
  (B : Nat) (E : TypeId) (z : Value) (sz bytes : Nat) (ht : P.underlying t = some (.slice E)) (hinfo : (P.info? E).map (fun i => (i.zero, i.size, i.bytes)) = some (some z, sz, bytes))
  (hzs : z.cells.size = sz) (hsz : 0 < sz)
  (v : Value) (rows : List (List Value)) (hs : a.eval s = v) (hown : OwnR w B E sz v rows)
  (ad : Option Addr) (m c : Nat) (news : List (List Value)) (hx : a.eval x = .slice ad m c) (hm : m = news.length) (hc0 : ad = none → c = 0) (hnews : SlAt w ad sz news) (h1 : ∀ r ∈ news, ∀ u ∈ r, u.oneCell' = true)
  (hlen : rows.length + news.length ≤ 1048576) (hbytes : bytes ≤ 1048576) (hbase : B ≤ w.heap.size)
  (h : ∀ v' w', OwnR w' B E sz v' (rows ++ news) → w.grownBy w' v.ownBlock → wpList P ops Q rest (a.put o.dst v') w') : wpList P ops Q (o :: rest) a w := by
 obtain ⟨i, hi, hz0, hz1, hz2⟩ := info_parts hinfo
 have hw : ∀ r ∈ news, r.length = sz := fun r hr => by
  obtain ⟨k, hk⟩ := List.getElem?_of_mem hr
  obtain ⟨_, _, _, _, hl, _⟩ := hnews k r hk
  exact hl
 have hww : ∀ r ∈ rows ++ news, r.length = sz := fun r hr => by
  rcases List.mem_append.1 hr with hr | hr
  ·exact hown.wide r hr
  ·exact hw r hr
 subst hm
 cases ad with
 | none =>
  have hn : news = [] := by
   cases news with
   | nil => rfl
   | cons r news => obtain ⟨_, _, e, _⟩ := hnews 0 r rfl; cases e
  subst hn
  obtain rfl := hc0 rfl
  refine wpList_append_own_none hgd s x t ho B E i sz ht hi v rows.length rows.flatten hs hown.own hx (h v w (by rw [List.append_nil]; exact hown) (World.grownBy.refl w _))
 | some ad =>
  have hcell : ∀ j u, news.flatten[j]? = some u → w.cell? (ad.add j) = some u := by
   intro j u hj
   obtain ⟨i', j', r, g1, _, _⟩ := flat_inv news sz hw j u hj
   obtain ⟨b, off, e, _⟩ := hnews i' r g1
   cases e
   exact hnews.flat j u hj
  refine wpList_append_own w hgd s x t ho B E i z sz bytes ht hi hz0 hz1 hz2 hzs hsz v rows.length rows.flatten hs hown.own ad news.length c news.flatten hx (JA news sz hw) hcell (Z1 h1) (by unfold maxLen; omega)
   (Nat.le_trans (Nat.mul_le_mul hlen hbytes) (by decide)) hbase fun v' w' ho' hg _ => h v' w' ⟨hww, by rw [List.length_append, List.flatten_append]; exact ho'⟩ hg
theorem SlAt.new (w : World) (cs : List Value) (E : TypeId) (sz : Nat) (rows : List (List Value)) (hw : ∀ r ∈ rows, r.length = sz) (hf : rows.flatten = cs) : SlAt (w.alloc (.cells cs.toArray E)) (some ⟨w.heap.size, 0, none⟩) sz rows := fun i r hr =>
 ⟨w.heap.size, 0, rfl, by simp, hw r (List.mem_of_getElem? hr), fun j u hu => by
  have := JB rows sz hw i j r u hr hu
  have hn := heap_alloc_new w (.cells cs.toArray E)
  simp only [World.cell?, hn, Nat.zero_add]
  rw [← hf]
  simpa using this⟩
def RetSlI (sz : Nat) (rows : List (List Value)) (err : Int) (w : World) (e : Ending) (w' : World) : Prop :=
 ∃ a cap, e = .returned (.tuple #[.slice a rows.length cap, .int .i64 err]) ∧ SlOk a rows.length cap ∧ SlAt w' a sz rows ∧ Below w.heap.size w w'
theorem RetSlI.none {sz : Nat} {err : Int} {w w' : World} (hb : Below w.heap.size w w') : RetSlI sz [] err w (.returned (.tuple #[.slice none 0 0, .int .i64 err])) w' := ⟨_, _, rfl, SlOk.nil, SlAt.nil _ _ _, hb⟩
structure Elt (P : Program) (T E : TypeId) (sz bytes : Nat) {α : Type} (f : α → List Value) : Prop where
 ty : P.underlying T = some (.slice E)
 info : ∃ z, (P.info? E).map (fun i => (i.zero, i.size, i.bytes)) = some (some z, sz, bytes) ∧ z.cells.size = sz
 pos : 0 < sz
 small : bytes ≤ 1048576
 len : ∀ x, (f x).length = sz
 one : ∀ x, ∀ u ∈ f x, u.oneCell' = true
theorem appE {P : Program} {w : World} {ops : Array Oper} {rest : List Oper} {o : Oper} {a : Act} {Q : Exit → Act → World → Prop} {T E : TypeId} {sz bytes : Nat} {α : Type} {f : α → List Value} (he : Elt P T E sz bytes f)
  (hgd : o.guard = none) (s x : Operand) (ho : o.op = .call { callee := .builtin .append, args := #[s, x], argTypes := #[T, T] })
  (B : Nat) (v : Value) (l : List α) (hs : a.eval s = v) (hown : OwnR w B E sz v (l.map f))
  (ad : Option Addr) (m c : Nat) (news : List α) (hx : a.eval x = .slice ad m c) (hm : m = news.length) (hc0 : ad = none → c = 0) (hnews : SlAt w ad sz (news.map f))
  (hlen : l.length + news.length ≤ 1048576) (hbase : B ≤ w.heap.size)
  (h : ∀ v' w', OwnR w' B E sz v' ((l ++ news).map f) → w.grownBy w' v.ownBlock → wpList P ops Q rest (a.put o.dst v') w') : wpList P ops Q (o :: rest) a w := by
 obtain ⟨z, hi, hz⟩ := he.info
 exact wpList_appendR hgd s x T ho B E z sz bytes he.ty hi hz he.pos v (l.map f) hs hown ad m c (news.map f) hx (by rw [List.length_map]; exact hm) hc0 hnews
  (fun r hr u hu => by obtain ⟨y, _, rfl⟩ := List.mem_map.1 hr; exact he.one y u hu) (by rw [List.length_map, List.length_map]; exact hlen) he.small hbase
  (fun v' w' h1 h2 => h v' w' (by rw [List.map_append]; exact h1) h2)
theorem Elt.new {P : Program} {T E : TypeId} {sz bytes : Nat} {α : Type} {f : α → List Value} (he : Elt P T E sz bytes f) (w : World) (x : α) (cs : List Value) (E' : TypeId) (hc : cs = f x) : SlAt (w.alloc (.cells cs.toArray E')) (some ⟨w.heap.size, 0, none⟩) sz ([x].map f) := by
 subst hc
 exact SlAt.new w (f x) E' sz _ (by simp [he.len]) (by simp)
theorem Zy {w0 w w' : World} {v : Value} {E : TypeId} {sz : Nat} {rows : List (List Value)} {B : Nat} (hb : Below B w0 w) (ho : OwnR w B E sz v rows) (hB : B ≤ w.heap.size) (hg : w.grownBy w' v.ownBlock) : Below B w0 w' :=
 hb.grown hg hB fun k hk => (ho.lt k hk).1
def inRow (n : Int) : List Value := [.int .i64 n]
def InAt (w : World) (a : Option Addr) (l : List Int) : Prop := SlAt w a 1 (l.map inRow)
theorem InAt.get {w : World} {a : Option Addr} {l : List Int} (h : InAt w a l) (i : Nat) (hi : i < l.length) : ∃ b off, a = some ⟨b, off, none⟩ ∧ w.cell? ⟨b, off + i, none⟩ = some (.int .i64 l[i]) := by
 obtain ⟨b, off, e, _, _, hc⟩ := h i (inRow l[i]) (by simp [List.getElem?_eq_getElem hi])
 have := hc 0 _ rfl
 rw [Nat.mul_one, Nat.add_zero] at this
 exact ⟨b, off, e, this⟩
theorem InAt.below {w w' : World} {a : Option Addr} {l : List Int} (h : InAt w a l) (hb : Below w.heap.size w w') : InAt w' a l := SlAt.below h hb
theorem SlAt.drop {w : World} {b off : Nat} {sz : Nat} {rows : List (List Value)} (h : SlAt w (some ⟨b, off, none⟩) sz rows) (k : Nat) : SlAt w (some ⟨b, off + k * sz, none⟩) sz (rows.drop k) := fun i r hr => by
 rw [List.getElem?_drop] at hr
 obtain ⟨b', o', e, h1, h2, h3⟩ := h _ r hr
 cases e
 exact ⟨b, off + k * sz, rfl, h1, h2, fun j v hv => by rw [show off + k * sz + i * sz + j = off + (k + i) * sz + j by rw [Nat.add_mul]; omega]; exact h3 j v hv⟩
section
variable {P : Program} {ops : Array Oper} {md : Region.Mode} {C : World → Prop}
def Jm (P : Program) (md : Region.Mode) (ops : Array Oper) (C : World → Prop) (n : Nat) (L : Array Bool → Act → Prop) : Nat → Array Bool → Act → Prop
 | 0, listed, a => L listed a
 | f + 1, listed, a => Region.ready md ops listed ≠ [] ∧ ∀ i ∈ Region.ready md ops listed, i < n ∧ qOp P ops C i (Jm P md ops C n L f (listed.setIfInBounds i true)) a
theorem wpAny_of_headQ {n g : Nat} {L : Array Bool → Act → Prop} {Q' : Exit → Act → World → Prop} (hL : ∀ listed a w, C w → L listed a → wpAny P md ops Q' g listed a w) :
  ∀ (f : Nat) (listed : Array Bool) (a : Act) (w : World), C w → Jm P md ops C n L f listed a → wpAny P md ops Q' (f + g) listed a w
 | 0, listed, a, w, hw, h => by rw [Nat.zero_add]; exact hL _ _ _ hw h
 | f + 1, listed, a, w, hw, h => by
  rw [show f + 1 + g = (f + g) + 1 by omega]
  exact ⟨fun h0 => absurd h0 h.1, fun i hi => wpOp_of_qOp hw (fun a' w' hw' h' => wpAny_of_headQ hL f _ a' w' hw' h') (h.2 i hi).2⟩
theorem wpAnyLQ_first {n i : Nat} {oi : Oper} {v : Value} {L : Array Bool → Act → Prop} (hi : ops[i]? = some oi) (hsel : ∀ (j : Nat) (o : Oper) cs b, ops[j]? = some o → o.op ≠ .select cs b)
  (hs : Region.sinkB md ops n = true) (hc : Region.chainB md ops n = true) (hn : n < ops.size) (hin : i < n)
  (hdone : ∀ listed a, L listed a → ∀ j ∈ Region.ready md ops listed, n ≤ j) :
  ∀ (f : Nat) (listed : Array Bool) (a : Act), HeadInv md ops n listed →
   (∀ j oj, ops[j]? = some oj → j ≠ i → listed.getD j true = false → (∀ e ∈ oj.after, Region.binds md e = true → e.on ≠ i) → oi.apart ops oj = true) →
   i ∈ Region.ready md ops listed → YieldsIn P ops C oi v a →
   Jm P md ops C n L f (listed.setIfInBounds i true) (a.put oi.dst v) → Jm P md ops C n L (f + 1) listed a := by
 intro f
 induction f with
 | zero =>
  intro listed a inv _ hr hy H
  have hun := (mem_ready.1 hr).1
  refine ⟨fun h => (by rw [h] at hr; cases hr), fun j hj => ?_⟩
  have hjn : j < n := by
   rcases Nat.lt_or_ge j n with h | h
   ·exact h
   ·exact absurd hj (tail_waits hs hc hn inv _ i rfl hin hun j h)
  refine ⟨hjn, ?_⟩
  by_cases hji : j = i
  ·subst hji; exact hy.qOp hi H
  ·have := hdone _ _ H j (ready_mono hj hji)
   omega
 | succ f ih =>
  intro listed a inv hfree hr hy H
  have hun := (mem_ready.1 hr).1
  refine ⟨fun h => (by rw [h] at hr; cases hr), fun j hj => ?_⟩
  have hjn : j < n := by
   rcases Nat.lt_or_ge j n with h | h
   ·exact h
   ·exact absurd hj (tail_waits hs hc hn inv _ i rfl hin hun j h)
  refine ⟨hjn, ?_⟩
  by_cases hji : j = i
  ·subst hji; exact hy.qOp hi H
  ·have h1 := (H.2 j (ready_mono hj hji)).2
   obtain ⟨hjun, oj, hoj, hall⟩ := mem_ready.1 hj
   have hnot : ∀ e ∈ oj.after, Region.binds md e = true → e.on ≠ i := fun e he hb heq => by
    have h1 := hall e he hb
    rw [heq, getD_both hun] at h1
    cases h1
   have h2 := qOp_put hoj (hfree j oj hoj hji hjun hnot) (fun cs b => hsel i oi cs b hi) (fun cs b => hsel j oj cs b hoj) hy h1
   have hfree' : ∀ k ok, ops[k]? = some ok → k ≠ i → (listed.setIfInBounds j true).getD k true = false →
     (∀ e ∈ ok.after, Region.binds md e = true → e.on ≠ i) → oi.apart ops ok = true := fun k ok hk hki hun hno => by
    refine hfree k ok hk hki ?_ hno
    by_cases hjk : j = k
    ·subst hjk; exact hjun
    ·rw [getD_set_ne true hjk] at hun; exact hun
   refine qOp_mono (fun a' h3 => ih (listed.setIfInBounds j true) a' (inv.set hj hjn) hfree' (ready_mono hr (Ne.symm hji)) h3.1 ?_) h2
   rw [Array.setIfInBounds_comm _ _ hji]
   exact h3.2
theorem wpAnyLQ_lex {n g : Nat} {Lq : Act → Prop} (hsel : Region.noSelect ops = true) (hs : Region.sinkB md ops n = true) (hc : Region.chainB md ops n = true) (hn : n < ops.size) :
  ∀ (l : List Oper) (k : Nat) (listed : Array Bool) (a : Act), (∀ j, j < l.length → l[j]? = ops[k + j]?) → k + l.length = n → HeadInv md ops n listed →
  Region.lexHead md ops g l.length k listed = true → wpQuiet P ops C Lq l a →
  Jm P md ops C n (fun listed' a' => Region.seqB md ops g n listed' = true ∧ Lq a') l.length listed a
 | [], k, listed, a, _, hk, _, hB, h => by
  have : k = n := by simpa using hk
  subst this
  exact ⟨by simpa [Region.lexHead] using hB, h⟩
 | o :: l, k, listed, a, hl, hk, inv, hB, h => by
  have h0 : ops[k]? = some o := by simpa using (hl 0 (by simp)).symm
  simp only [List.length_cons, Region.lexHead, Bool.and_eq_true] at hB
  obtain ⟨⟨hr, hf⟩, hB'⟩ := hB
  have hkn : k < n := by simp only [List.length_cons] at hk; omega
  have hr' : k ∈ Region.ready md ops listed := by simpa using hr
  have hst : qOp P ops C k (wpQuiet P ops C Lq l) a := by unfold qOp; simp only [h0]; exact h
  obtain ⟨v, hy, hK⟩ := yieldsIn_of_qOp h0 hst
  exact wpAnyLQ_first h0 (Region.noSelect_spec hsel) hs hc hn hkn (fun listed' a' hL => seqB_ready hL.1) l.length listed a inv (Region.free_spec h0 hf) hr' hy
   (wpAnyLQ_lex hsel hs hc hn l (k + 1) _ _ (fun j hj => by have := hl (j + 1) (by simp; omega); simpa [Nat.add_assoc, Nat.add_comm 1 j] using this) (by simp only [List.length_cons] at hk; omega) (inv.set hr' hkn) hB' hK)
theorem wp_region_quiet_tail {id : Nat} {Q : Exit → Act → World → Prop} {a : Act} {w : World} {l : List Oper} (n : Nat) (hm : P.follows .mixedOrders = true) (hB : Region.lexTailB .any l.toArray n = true) (hC : C { w with drawn := w.drawn + 1 })
  (h : wpQuiet P l.toArray C (fun a' => ∀ w', C w' → wpList P l.toArray Q (l.drop n) a' w') (l.take n) a) : (Code.region id l.toArray true).wp P Q a w := by
 simp only [Region.lexTailB, Bool.and_eq_true, decide_eq_true_eq] at hB
 obtain ⟨⟨⟨⟨hsel, hn⟩, hs⟩, hc⟩, hlex⟩ := hB
 have hn' : n < l.length := by simpa using hn
 have htl : (l.take n).length = n := by simp; omega
 have hdl : (l.drop n).length = l.toArray.size - n := by simp
 have inv0 : HeadInv .any l.toArray n (Array.replicate l.toArray.size false) :=
  ⟨by simp, fun j oj _ hl => (by rw [getD_replicate_false] at hl; cases hl), fun t _ ht => getD_in (by simpa using ht) (getD_replicate_false _ _)⟩
 have H := wpAnyLQ_lex (md := .any) (g := l.toArray.size - n) hsel hs hc hn (l.take n) 0 _ a (fun j hj => by
  have hj' : j < n := by rw [htl] at hj; exact hj
  simp [hj']) (by simpa using htl) inv0 (by rw [htl]; exact hlex) h
 refine wp_region_any hm ?_
 have := wpAny_of_headQ (Q' := Q) (g := l.toArray.size - n) (fun listed a' w' hw' hL => by
  have := wpAny_of_seq (md := .any) (Q' := Q) (l.drop n) n listed a' w' (fun j => by simp [List.getElem?_drop]) (by rw [hdl]; exact hL.1) (hL.2 w' hw')
  rwa [hdl] at this) _ _ _ _ hC H
 rw [htl, show n + (l.toArray.size - n) = l.toArray.size by omega] at this
 exact this
end
theorem wp_tailB {P : Program} {id : Nat} {Q : Exit → Act → World → Prop} {a : Act} {w : World} {l : List Oper} (n : Nat) (hm : P.follows .mixedOrders = true) (hB : Region.lexTailB .any l.toArray n = true)
  (h : wpQuiet P l.toArray (fun w' => ∃ p : Regrown, w' = grow (redrawn w p.d) p.os) (fun a' => ∀ w', Below w.heap.size w w' → wpList P l.toArray Q (l.drop n) a' w') (l.take n) a) : (Code.region id l.toArray true).wp P Q a w := by
 refine wp_region_quiet_tail (C := fun w' => ∃ p : Regrown, w' = grow (redrawn w p.d) p.os) n hm hB ⟨⟨w.drawn + 1, #[]⟩, by rw [grow_empty]; rfl⟩ ?_
 have e : (fun a' => ∀ w', (∃ p : Regrown, w' = grow (redrawn w p.d) p.os) → wpList P l.toArray Q (l.drop n) a' w') = fun a' => ∀ w', Below w.heap.size w w' → wpList P l.toArray Q (l.drop n) a' w' := by
  funext a'
  refine propext ⟨fun h w' hb => h w' (regrown_of_below hb), fun h w' ⟨p, hp⟩ => h w' (hp ▸ below_regrown w p.d p.os)⟩
 rw [e]
 exact h
end Go.Proofs.YtajijcfikihhjaaGreatDoor
namespace Go.Proofs.YtajijcfikihhjaaGreatDoor
open Go.RowKit Go.Sort
theorem Q3 {w w' : World} (hb : Below w.drew.heap.size w.drew w') : Below w.heap.size w w' := ((Below.refl w.heap.size w).drew).trans hb
theorem Qd {w : World} {b : Nat} {o : Obj} (hx : w.heap[b]? = some o) : b < w.heap.size := (Array.getElem?_eq_some_iff.1 hx).1
theorem ZX {w w' : World} {o : Obj} (hb : Below (w.alloc o).heap.size (w.alloc o) w') : Below w.heap.size w w' := ((Below.refl w.heap.size w).alloc (Nat.le_refl _) o).trans (hb.mono (by simp))
theorem box2 {w w' : World} {A B : Obj} (hb : Below ((w.alloc A).alloc B).heap.size ((w.alloc A).alloc B) w') : w'.heap[w.heap.size]? = some A ∧ w'.heap[w.heap.size + 1]? = some B ∧ Below w.heap.size w w' := by
 have e : (w.alloc A).heap.size = w.heap.size + 1 := by simp
 refine ⟨Qc (Qj (heap_alloc_new w A) B) hb, Qc (e ▸ heap_alloc_new (w.alloc A) B) hb, (((Below.refl _ _).alloc (Nat.le_refl _) _).alloc (by simp) _).trans (hb.mono (by simp; omega))⟩
theorem box3 {w w' : World} {A B C : Obj} (hb : Below (((w.alloc A).alloc B).alloc C).heap.size (((w.alloc A).alloc B).alloc C) w') : w'.heap[w.heap.size]? = some A ∧ w'.heap[w.heap.size + 1]? = some B ∧ w'.heap[w.heap.size + 2]? = some C ∧ Below w.heap.size w w' := by
 have e : (w.alloc A).heap.size = w.heap.size + 1 := by simp
 have e2 : ((w.alloc A).alloc B).heap.size = w.heap.size + 2 := by simp
 refine ⟨Qc (Qj (Qj (heap_alloc_new w A) B) C) hb, Qc (Qj (e ▸ heap_alloc_new (w.alloc A) B) C) hb, Qc (e2 ▸ heap_alloc_new ((w.alloc A).alloc B) C) hb, ((((Below.refl _ _).alloc (Nat.le_refl _) _).alloc (by simp) _).alloc (by simp; omega) _).trans (hb.mono (by simp; omega))⟩
structure KeepB (B : Nat) (S : List Nat) (w w' : World) : Prop where
 os : w'.os = w.os
 tape : w'.tape = w.tape
 output : w'.output = w.output
 size : w.heap.size ≤ w'.heap.size
 block : ∀ k, k < B → k ∉ S → w'.heap[k]? = w.heap[k]?
theorem KeepB.refl (B : Nat) (S : List Nat) (w : World) : KeepB B S w w := ⟨rfl, rfl, rfl, Nat.le_refl _, fun _ _ _ => rfl⟩
theorem KeepB.trans {B : Nat} {S : List Nat} {w w1 w2 : World} (a : KeepB B S w w1) (b : KeepB B S w1 w2) : KeepB B S w w2 :=
 ⟨b.os.trans a.os, b.tape.trans a.tape, b.output.trans a.output, Nat.le_trans a.size b.size, fun k hk hn => (b.block k hk hn).trans (a.block k hk hn)⟩
theorem KeepB.of_below {B : Nat} {S : List Nat} {w w' : World} (hb : Below w.heap.size w w') (hB : B ≤ w.heap.size) : KeepB B S w w' := ⟨hb.os, hb.tape, hb.output, hb.size, fun k hk _ => hb.block k (by omega)⟩
theorem KeepB.of_below' {B : Nat} {S : List Nat} {w w' : World} (hb : Below B w w') : KeepB B S w w' := ⟨hb.os, hb.tape, hb.output, hb.size, fun k hk _ => hb.block k hk⟩
theorem KeepB.set {B : Nat} {S : List Nat} {w w' : World} (a : KeepB B S w w') {p : Addr} (hp : p.block ∈ S ∨ B ≤ p.block) (v : Value) : KeepB B S w (w'.setCell p v) :=
 ⟨a.os, a.tape, a.output, by simpa [World.setCell] using a.size, fun k hk hn => (heap_setCell_other _ _ _ _ (show _ ≠ _ by rintro rfl; rcases hp with hp | hp; exact hn hp; omega)).trans (a.block k hk hn)⟩
theorem KeepB.weaken {B B' : Nat} {S S' : List Nat} {w w' : World} (a : KeepB B S w w') (hB : B' ≤ B) (hs : ∀ k ∈ S, k < B' → k ∈ S') : KeepB B' S' w w' :=
 ⟨a.os, a.tape, a.output, a.size, fun k hk hn => a.block k (by omega) (fun hm => hn (hs k hm hk))⟩
end Go.Proofs.YtajijcfikihhjaaGreatDoor
namespace Go.Proofs.YtajijcfikihhjaaGreatDoor
open Go.RowKit Go.Sort
structure R3 where
 x : Int
 y : Int
 z : Int
 deriving DecidableEq, Inhabited
def R3.cells (r : R3) : List Value := [.int .i64 r.x, .int .i64 r.y, .int .i64 r.z]
def R3At (w : World) (a : Option Addr) (l : List R3) : Prop := SlAt w a 3 (l.map R3.cells)
theorem R3At.below {w w' : World} {a : Option Addr} {l : List R3} (h : R3At w a l) (hb : Below w.heap.size w w') : R3At w' a l := SlAt.below h hb
theorem R3At.get {w : World} {a : Option Addr} {l : List R3} (h : R3At w a l) (i : Nat) (hi : i < l.length) : ∃ b off, a = some ⟨b, off, none⟩ ∧ b < w.heap.size ∧ w.cell? ⟨b, off + i * 3, none⟩ = some (.int .i64 l[i].x) ∧ w.cell? ⟨b, off + i * 3 + 1, none⟩ = some (.int .i64 l[i].y) ∧ w.cell? ⟨b, off + i * 3 + 2, none⟩ = some (.int .i64 l[i].z) := by
 obtain ⟨b, off, e, hb, _, hc⟩ := h i l[i].cells (by simp [hi])
 exact ⟨b, off, e, hb, hc 0 _ rfl, hc 1 _ rfl, hc 2 _ rfl⟩
theorem R3At.take {w : World} {a : Option Addr} {l : List R3} (h : R3At w a l) (k : Nat) : R3At w a (l.take k) := by
 unfold R3At; rw [List.map_take]; exact SlAt.take h k
structure Fo where
 bars : Int
 reps : List R3
 ends : List R3
 jump : R3
 cuts : List R3
 deriving DecidableEq, Inhabited
structure Fp where
 ra : Option Addr
 rc : Nat
 ea : Option Addr
 ec : Nat
 ca : Option Addr
 cc : Nat
structure FoAt (w : World) (f : Fo) (q : Fp) : Prop where
 reps : R3At w q.ra f.reps
 ends : R3At w q.ea f.ends
 cuts : R3At w q.ca f.cuts
 okr : SlOk q.ra f.reps.length q.rc
 oke : SlOk q.ea f.ends.length q.ec
 okc : SlOk q.ca f.cuts.length q.cc
theorem FoAt.below {w w' : World} {f : Fo} {q : Fp} (h : FoAt w f q) (hb : Below w.heap.size w w') : FoAt w' f q := ⟨h.reps.below hb, h.ends.below hb, h.cuts.below hb, h.okr, h.oke, h.okc⟩
structure FoFew (f : Fo) : Prop where
 bars : f.bars ≤ 1000
 reps : f.reps.length ≤ 1000
 ends : f.ends.length ≤ 1000
 cuts : f.cuts.length ≤ 1000
def QO (l : List R3) (bar : Int) : Bool := l.any fun r => decide (r.x < bar) && decide (bar < r.y)
def badR (bars last : Int) (r : R3) : Bool := decide (r.x < last) || decide (r.y ≤ r.x) || decide (bars < r.y) || decide (r.z < 1) || decide (9 < r.z)
def Zp (bars : Int) : Int → List R3 → Bool
 | _, [] => true
 | last, r :: l => !badR bars last r && Zp bars r.y l
def Ys (f : Fo) : Bool := Zp f.bars 0 f.reps && decide (f.reps.length ≤ 100)
def Ze (l : List R3) (a b : Int) : Bool := l.any fun r => decide (r.x ≤ a) && decide (b ≤ r.y)
def badE (l : List R3) (last : Int) (x : R3) : Bool := decide (x.x < last) || decide (x.y ≤ x.x) || !Ze l x.x x.y || decide (x.z < 1) || decide (9 < x.z)
def Zx (l : List R3) : Int → List R3 → Bool
 | _, [] => true
 | last, x :: r => !badE l last x && Zx l x.y r
def JC (f : Fo) : Bool := Zx f.reps 0 f.ends && decide (f.ends.length ≤ 100)
def badJ (f : Fo) : Bool := decide (f.jump.x < 1) || decide (f.bars < f.jump.x) || decide (f.jump.y < 0) || decide (f.jump.x ≤ f.jump.y) || decide (f.jump.z ≤ f.jump.y) || decide (f.bars < f.jump.z)
def Q5 (f : Fo) : Bool := decide (f.jump = ⟨0, 0, 0⟩) || (!badJ f && (!QO f.reps f.jump.x && !QO f.reps f.jump.y && !QO f.reps f.jump.z))
def cutB (f : Fo) (c : R3) : Bool := decide (0 ≤ c.x) && decide (c.x < c.y) && decide (c.y ≤ f.bars) && decide (0 ≤ c.z) && decide (c.z ≤ 20)
def ZZ (f : Fo) : Bool := f.cuts.all (cutB f) && decide f.cuts.Nodup && decide (f.cuts.length ≤ 100)
def endB (l : List R3) (bar pass : Int) : Bool := l.any fun x => decide (x.x ≤ bar) && decide (bar < x.y) && decide (x.z ≠ pass)
def upI (a : Int) : Nat → List Int
 | 0 => []
 | n + 1 => a :: upI (a + 1) n
def rowI (f : Fo) (pass i : Int) (n : Nat) : List Int := (upI i n).filter fun b => !endB f.ends b pass
def ZJ (f : Fo) (r : R3) (pass : Int) : Nat → List Int
 | 0 => []
 | m + 1 => rowI f pass r.x (r.y - r.x).toNat ++ ZJ f r (pass + 1) m
def Zw (all : Bool) (r : R3) : Int := if all then 1 else r.z
def Ui (f : Fo) (all : Bool) (r : R3) : List Int := ZJ f r (Zw all r) (r.z - Zw all r + 1).toNat
def Z4 (l : List R3) (bar : Int) : Option R3 := l.find? fun r => r.x == bar
def ZV (f : Fo) (all : Bool) (u : Int) : Nat → Int → List Int
 | 0, _ => []
 | n + 1, bar => if bar < u then (match Z4 f.reps bar with
  | none => bar :: ZV f all u n (bar + 1)
  | some r => Ui f all r ++ ZV f all u n r.y) else []
def Qu (f : Fo) (all : Bool) (bar u : Int) : List Int := ZV f all u (u - bar).toNat bar
def QS (f : Fo) : Int := if f.jump.x = 0 then f.bars else f.jump.x
def Zi (f : Fo) : List Int := Qu f true 0 (QS f) ++ Qu f false f.jump.y f.jump.z
theorem repsC_ok (bars : Int) : ∀ (l : List R3) (last : Int), 0 ≤ last → Zp bars last l = true → ∀ r ∈ l, 0 ≤ r.x ∧ r.x < r.y ∧ r.y ≤ bars ∧ 1 ≤ r.z ∧ r.z ≤ 9
 | [], _, _, _ => fun r h => by cases h
 | r :: l, last, h0, h => by
  simp only [Zp, badR, Bool.and_eq_true, Bool.not_eq_true', Bool.or_eq_false_iff, decide_eq_false_iff_not] at h
  obtain ⟨⟨⟨⟨⟨h1, h2⟩, h3⟩, h4⟩, h5⟩, h6⟩ := h
  intro s hs
  rcases List.mem_cons.1 hs with rfl | hs
  ·exact ⟨by omega, by omega, by omega, by omega, by omega⟩
  ·exact repsC_ok bars l r.y (by omega) h6 s hs
theorem ZN {f : Fo} (h : Ys f = true) : ∀ r ∈ f.reps, 0 ≤ r.x ∧ r.x < r.y ∧ r.y ≤ f.bars ∧ 1 ≤ r.z ∧ r.z ≤ 9 := by
 unfold Ys at h
 rw [Bool.and_eq_true] at h
 exact repsC_ok _ _ _ (Int.le_refl 0) h.1
theorem ZI {l : List R3} {bar : Int} {r : R3} (h : Z4 l bar = some r) : r ∈ l ∧ r.x = bar := by
 unfold Z4 at h
 exact ⟨List.mem_of_find?_eq_some h, by have := List.find?_some h; simpa using this⟩
theorem Jd (f : Fo) (all : Bool) (u : Int) : ∀ (n : Nat) (bar : Int), ¬ bar < u → ZV f all u n bar = []
 | 0, _, _ => rfl
 | n + 1, bar, h => by rw [ZV, if_neg h]
theorem Je {f : Fo} (hr : ∀ r ∈ f.reps, r.x < r.y) (all : Bool) (u : Int) : ∀ (n m : Nat) (bar : Int), (u - bar).toNat ≤ n → (u - bar).toNat ≤ m → ZV f all u n bar = ZV f all u m bar
 | 0, m, bar, h, _ => by rw [Jd f all u m bar (by omega)]; rfl
 | n + 1, 0, bar, _, h => by rw [Jd f all u (n + 1) bar (by omega)]; rfl
 | n + 1, m + 1, bar, h1, h2 => by
  rw [ZV, ZV]
  by_cases hb : bar < u
  ·rw [if_pos hb, if_pos hb]
   cases e : Z4 f.reps bar with
   | none => simp only; rw [Je hr all u n m (bar + 1) (by omega) (by omega)]
   | some r =>
    obtain ⟨hm, hx⟩ := ZI e
    have := hr r hm
    simp only
    rw [Je hr all u n m r.y (by omega) (by omega)]
  ·rw [if_neg hb, if_neg hb]
theorem Yy {f : Fo} {all : Bool} {bar u : Int} (h : ¬ bar < u) : Qu f all bar u = [] := Jd _ _ _ _ _ h
theorem partL_none {f : Fo} {all : Bool} {bar u : Int} (h : bar < u) (e : Z4 f.reps bar = none) : Qu f all bar u = bar :: Qu f all (bar + 1) u := by
 unfold Qu
 obtain ⟨n, hn⟩ : ∃ n, (u - bar).toNat = n + 1 := ⟨(u - bar).toNat - 1, by omega⟩
 rw [hn, ZV, if_pos h, e, show (u - (bar + 1)).toNat = n by omega]
theorem partL_some {f : Fo} (hr : ∀ r ∈ f.reps, r.x < r.y) {all : Bool} {bar u : Int} {r : R3} (h : bar < u) (e : Z4 f.reps bar = some r) : Qu f all bar u = Ui f all r ++ Qu f all r.y u := by
 unfold Qu
 obtain ⟨n, hn⟩ : ∃ n, (u - bar).toNat = n + 1 := ⟨(u - bar).toNat - 1, by omega⟩
 obtain ⟨hm, hx⟩ := ZI e
 have := hr r hm
 rw [hn, ZV, if_pos h, e]
 simp only
 rw [Je hr all u n (u - r.y).toNat r.y (by omega) (Nat.le_refl _)]
theorem U2 (a : Int) (n : Nat) : upI a (n + 1) = a :: upI (a + 1) n := rfl
theorem upI_len (a : Int) (n : Nat) : (upI a n).length = n := by
 induction n generalizing a with
 | zero => rfl
 | succ n ih => rw [U2, List.length_cons, ih]
theorem upI_mem {a b : Int} {n : Nat} (h : b ∈ upI a n) : a ≤ b ∧ b < a + n := by
 induction n generalizing a with
 | zero => cases h
 | succ n ih =>
  rw [U2] at h
  rcases List.mem_cons.1 h with rfl | h
  ·omega
  ·have := ih h; omega
theorem rowI_len (f : Fo) (pass i : Int) (n : Nat) : (rowI f pass i n).length ≤ n := by
 unfold rowI
 exact Nat.le_trans (List.length_filter_le _ _) (by rw [upI_len]; exact Nat.le_refl _)
theorem rowI_succ (f : Fo) (pass i : Int) (n : Nat) : rowI f pass i (n + 1) = if endB f.ends i pass then rowI f pass (i + 1) n else i :: rowI f pass (i + 1) n := by
 unfold rowI
 rw [U2, List.filter_cons]
 cases endB f.ends i pass <;> simp
theorem Jc (f : Fo) (r : R3) (pass : Int) (m : Nat) : ZJ f r pass (m + 1) = rowI f pass r.x (r.y - r.x).toNat ++ ZJ f r (pass + 1) m := rfl
theorem passI_len (f : Fo) (r : R3) (pass : Int) : ∀ m, (ZJ f r pass m).length ≤ m * (r.y - r.x).toNat
 | 0 => by simp [ZJ]
 | m + 1 => by
  rw [Jc, List.length_append, Nat.succ_mul]
  have h1 := rowI_len f pass r.x (r.y - r.x).toNat
  have h2 := passI_len f r (pass + 1) m
  omega
theorem passL_len {f : Fo} {all : Bool} {r : R3} {B : Nat} (h1 : 1 ≤ r.z ∧ r.z ≤ 9) (h2 : (r.y - r.x).toNat ≤ B) : (Ui f all r).length ≤ 9 * B := by
 unfold Ui
 refine Nat.le_trans (passI_len _ _ _ _) (Nat.mul_le_mul ?_ h2)
 unfold Zw
 split <;> omega
theorem YV {f : Fo} {B : Nat} (hr : ∀ r ∈ f.reps, (1 ≤ r.z ∧ r.z ≤ 9) ∧ (r.y - r.x).toNat ≤ B) (hB : 1 ≤ B) (all : Bool) (u : Int) : ∀ (n : Nat) (bar : Int), (ZV f all u n bar).length ≤ n * (9 * B)
 | 0, _ => by simp [ZV]
 | n + 1, bar => by
  rw [ZV, Nat.succ_mul]
  split
  ·cases e : Z4 f.reps bar with
   | none =>
    have := YV hr hB all u n (bar + 1)
    simp only [List.length_cons]; omega
   | some r =>
    obtain ⟨hm, _⟩ := ZI e
    have h1 := YV hr hB all u n r.y
    have h2 := passL_len (f := f) (all := all) (hr r hm).1 (hr r hm).2
    simp only [List.length_append]; omega
  ·simp
def visP : List Int → List Int → List (Int × Int)
 | _, [] => []
 | pre, b :: l => (b, (pre.count b : Int) + 1) :: visP (pre ++ [b]) l
def visL (l : List Int) : List (Int × Int) := visP [] l
theorem visP_len (l : List Int) : ∀ pre, (visP pre l).length = l.length := by
 induction l with
 | nil => intro pre; rfl
 | cons b l ih => intro pre; rw [visP, List.length_cons, ih, List.length_cons]
theorem visP_append (l : List Int) (b : Int) : ∀ pre, visP pre (l ++ [b]) = visP pre l ++ [(b, ((pre ++ l).count b : Int) + 1)] := by
 induction l with
 | nil => intro pre; simp [visP]
 | cons x l ih => intro pre; rw [List.cons_append, visP, visP, ih, List.cons_append]; simp
theorem visL_append (l : List Int) (b : Int) : visL (l ++ [b]) = visL l ++ [(b, (l.count b : Int) + 1)] := by
 unfold visL; rw [visP_append]; simp
theorem JX (l : List Int) : (visL l).length = l.length := visP_len l []
def Z5 (f : Fo) : Bool := decide ((Zi f).length ≤ 20000)
def Qy (f : Fo) : Bool := decide (1 ≤ f.bars) && decide (f.bars ≤ 4000) && Ys f && JC f && Q5 f && ZZ f && Z5 f
def ZO (v : Int × Int) (c : R3) : Bool := decide (c.x ≤ v.1) && decide (v.1 < c.y) && (decide (c.z = 0) || decide (c.z = v.2))
def unfL (f : Fo) : List (Int × Int) := (visL (Zi f)).filter fun v => !f.cuts.any (ZO v)
def unfR (f : Fo) : List (Int × Int) × Int := if Qy f then (unfL f, 0) else ([], 1)
def Yi (f : Fo) (v : Int × Int) : (Int × Bool) × Int := if Qy f then (match (unfL f).findIdx? (fun x => x == v) with | some i => (((i : Nat), true), 0) | none => ((0, false), 0)) else ((0, false), 1)
def cutR (f : Fo) (c : R3) : Fo × Int := if !(Qy f && cutB f c) then (⟨0, [], [], ⟨0, 0, 0⟩, []⟩, 1) else if c ∈ f.cuts then (⟨0, [], [], ⟨0, 0, 0⟩, []⟩, 5) else if f.cuts.length = 100 then (⟨0, [], [], ⟨0, 0, 0⟩, []⟩, 2) else ({ f with cuts := f.cuts ++ [c] }, 0)
def Zj (f : Fo) (c : R3) : Fo × Int := if !Qy f then (⟨0, [], [], ⟨0, 0, 0⟩, []⟩, 1) else if c ∈ f.cuts then ({ f with cuts := f.cuts.erase c }, 0) else (⟨0, [], [], ⟨0, 0, 0⟩, []⟩, 4)
def QC (f : Fo) (k : Nat) (t : Int) : Fo := { f with reps := f.reps.modify k fun r => { r with z := t } }
def QW (f : Fo) (k t : Int) : Fo × Int := if !Qy f then (⟨0, [], [], ⟨0, 0, 0⟩, []⟩, 1) else if k < 0 ∨ (f.reps.length : Int) ≤ k then (⟨0, [], [], ⟨0, 0, 0⟩, []⟩, 4) else if t < 1 ∨ 9 < t then (⟨0, [], [], ⟨0, 0, 0⟩, []⟩, 1) else if Z5 (QC f k.toNat t) then (QC f k.toNat t, 0) else (⟨0, [], [], ⟨0, 0, 0⟩, []⟩, 2)
theorem whole_len {f : Fo} (h1 : 1 ≤ f.bars) (h2 : f.bars ≤ 4000) (hr : ∀ r ∈ f.reps, 0 ≤ r.x ∧ r.x < r.y ∧ r.y ≤ f.bars ∧ 1 ≤ r.z ∧ r.z ≤ 9) (hj : Q5 f = true) : (Zi f).length ≤ 300000000 := by
 have hr' : ∀ r ∈ f.reps, (1 ≤ r.z ∧ r.z ≤ 9) ∧ (r.y - r.x).toNat ≤ 4000 := fun r hm => by have := hr r hm; exact ⟨this.2.2.2, by omega⟩
 unfold Zi
 rw [List.length_append]
 have a := YV hr' (by decide) true (QS f) (QS f - 0).toNat 0
 have b := YV hr' (by decide) false f.jump.z (f.jump.z - f.jump.y).toNat f.jump.y
 have hu : (QS f - 0).toNat ≤ 4000 ∧ (f.jump.z - f.jump.y).toNat ≤ 4000 := by
  unfold Q5 at hj
  rw [Bool.or_eq_true] at hj
  rcases hj with hj | hj
  ·have e := of_decide_eq_true hj
   unfold QS
   rw [e]; simp; omega
  ·simp only [badJ, Bool.and_eq_true, Bool.not_eq_true', Bool.or_eq_false_iff, decide_eq_false_iff_not] at hj
   unfold QS
   split <;> omega
 unfold Qu
 have := Nat.mul_le_mul_right (9 * 4000) hu.1
 have := Nat.mul_le_mul_right (9 * 4000) hu.2
 omega
theorem Z8 {f : Fo} (hr : ∀ r ∈ f.reps, r.x < r.y ∧ r.y ≤ f.bars ∧ 1 ≤ r.z ∧ r.z ≤ 9) (all : Bool) (u : Int) (hu : u ≤ f.bars) : ∀ (n : Nat) (bar : Int), (ZV f all u n bar).length ≤ 9 * (f.bars - bar).toNat
 | 0, _ => by simp [ZV]
 | n + 1, bar => by
  rw [ZV]
  split
  ·cases e : Z4 f.reps bar with
   | none =>
    have := Z8 hr all u hu n (bar + 1)
    simp only [List.length_cons]; omega
   | some r =>
    obtain ⟨hm, hx⟩ := ZI e
    have h := hr r hm
    have h1 := Z8 hr all u hu n r.y
    have h2 := passL_len (f := f) (all := all) (r := r) (B := (r.y - r.x).toNat) h.2.2 (Nat.le_refl _)
    simp only [List.length_append]; omega
  ·simp
theorem Zz {f : Fo} (h2 : f.bars ≤ 1000) (hr : ∀ r ∈ f.reps, 0 ≤ r.x ∧ r.x < r.y ∧ r.y ≤ f.bars ∧ 1 ≤ r.z ∧ r.z ≤ 9) (hj : Q5 f = true) : (Zi f).length ≤ 20000 := by
 have hr' : ∀ r ∈ f.reps, r.x < r.y ∧ r.y ≤ f.bars ∧ 1 ≤ r.z ∧ r.z ≤ 9 := fun r hm => (hr r hm).2
 unfold Zi
 rw [List.length_append]
 unfold Q5 at hj
 rw [Bool.or_eq_true] at hj
 rcases hj with hj | hj
 ·have e := of_decide_eq_true hj
  have a := Z8 hr' true f.bars (Int.le_refl _) (f.bars - 0).toNat 0
  have hu : QS f = f.bars := by unfold QS; rw [e]; rfl
  have hb : Qu f false f.jump.y f.jump.z = [] := by rw [e]; exact Yy (by simp)
  rw [hu, hb]
  unfold Qu
  simp only [List.length_nil]; omega
 ·simp only [badJ, Bool.and_eq_true, Bool.not_eq_true', Bool.or_eq_false_iff, decide_eq_false_iff_not] at hj
  have hu : QS f ≤ f.bars := by unfold QS; split <;> omega
  have a := Z8 hr' true (QS f) hu (QS f - 0).toNat 0
  have b := Z8 hr' false f.jump.z (by omega) (f.jump.z - f.jump.y).toNat f.jump.y
  unfold Qu
  omega
end Go.Proofs.YtajijcfikihhjaaGreatDoor
namespace Go.Proofs.YtajijcfikihhjaaGreatDoor
open Go.RowKit Go.Sort
def Q4 {κ : Type} [DecidableEq κ] : List (κ × Value) → κ → Nat → Option (Nat × Value)
 | [], _, _ => none
 | p :: m, k, i => if k = p.1 then some (i, p.2) else Q4 m k (i + 1)
structure KeyOk (P : Program) (K : TypeId) {κ : Type} [DecidableEq κ] (enc : κ → Value) : Prop where
 find : ∀ (k : κ) (es : List MapEntry) (m : List (κ × Value)), es.map (fun e => (e.key, e.val)) = m.map (fun p => (enc p.1, p.2)) → ∀ w : World, (Instr.findKey K (enc k) es).run P w = .ok (Q4 m k 0) w
 bits : ∀ a, Instr.sameBits 10000 (enc a) (enc a) = true
 check : ∀ (a : κ) (b : Bool) (w : World), (Instr.checkKey b 10000 K (enc a)).run P w = .ok () w
section
variable {κ : Type} [DecidableEq κ] {enc : κ → Value} {P : Program} {w : World}
structure MapAt (w : World) (enc : κ → Value) (r : Nat) (m : List (κ × Value)) : Prop where
 ex : ∃ es clock, w.heap[r]? = some (.map es clock) ∧ es.toList.map (fun e => (e.key, e.val)) = m.map (fun p => (enc p.1, p.2)) ∧ (∀ e ∈ es.toList, e.born < clock) ∧ (es.toList.map (·.born)).Nodup
 nodup : (m.map Prod.fst).Nodup
def mget (m : List (κ × Value)) (k : κ) : Option Value := (m.find? fun p => decide (p.1 = k)).map Prod.snd
def mput (m : List (κ × Value)) (k : κ) (v : Value) : List (κ × Value) := if (mget m k).isSome then m.map (fun p => if p.1 = k then (k, v) else p) else m ++ [(k, v)]
def mdel (m : List (κ × Value)) (k : κ) : List (κ × Value) := m.filter fun p => decide (p.1 ≠ k)
theorem Q2 (k : κ) : mget [] k = none := rfl
theorem QE (p : κ × Value) (m : List (κ × Value)) (k : κ) : mget (p :: m) k = if p.1 = k then some p.2 else mget m k := by
 unfold mget; rw [List.find?_cons]; by_cases h : p.1 = k <;> simp [h]
theorem mget_append (m r : List (κ × Value)) (k : κ) : mget (m ++ r) k = (mget m k).or (mget r k) := by
 induction m with
 | nil => simp [Q2]
 | cons p m ih => rw [List.cons_append, QE, QE, ih]; split <;> simp
theorem mget_map (m : List (κ × Value)) (k k' : κ) (v : Value) : mget (m.map fun p => if p.1 = k then (k, v) else p) k' = if k' = k then (mget m k).map (fun _ => v) else mget m k' := by
 induction m with
 | nil => simp [Q2]
 | cons p m ih =>
  rw [List.map_cons, QE, QE, QE, ih]
  by_cases h : p.1 = k
  ·by_cases h' : k' = k
   ·simp [h, h']
   ·have h'' : ¬ k = k' := fun e => h' e.symm
    simp [h, h', h'']
  ·by_cases h' : k' = k
   ·subst h'; simp [h]
   ·simp [h, h']
theorem ZB (m : List (κ × Value)) (k k' : κ) (v : Value) : mget (mput m k v) k' = if k' = k then some v else mget m k' := by
 unfold mput
 split
 ·rename_i h
  rw [mget_map]
  obtain ⟨x, hx⟩ := Option.isSome_iff_exists.1 h
  rw [hx]; rfl
 ·rename_i h
  have h0 : mget m k = none := by simpa using h
  rw [mget_append, QE, Q2]
  by_cases e : k' = k
  ·subst e; simp [h0]
  ·have e' : ¬ k = k' := fun x => e x.symm
   simp [e, e']
theorem mget_mdel (m : List (κ × Value)) (k k' : κ) : mget (mdel m k) k' = if k' = k then none else mget m k' := by
 unfold mdel
 induction m with
 | nil => simp [Q2]
 | cons p m ih =>
  rw [List.filter_cons]
  by_cases h : p.1 = k
  ·rw [if_neg (by simp [h]), ih, QE]
   by_cases e : k' = k
   ·simp [e]
   ·have e' : ¬ p.1 = k' := fun x => e (x.symm.trans h)
    simp [e, e']
  ·rw [if_pos (by simp [h]), QE, QE, ih]
   by_cases e : k' = k
   ·subst e; simp [h]
   ·simp [e]
theorem mget_isSome (m : List (κ × Value)) (k : κ) : (mget m k).isSome = true ↔ k ∈ m.map Prod.fst := by
 induction m with
 | nil => simp [Q2]
 | cons p m ih =>
  rw [QE]
  by_cases h : p.1 = k
  ·simp [h]
  ·have : ¬ k = p.1 := fun e => h e.symm
   rw [if_neg h, ih]; simp [this]
theorem mput_len (m : List (κ × Value)) (k : κ) (v : Value) : (mput m k v).length ≤ m.length + 1 := by
 unfold mput; split <;> simp
omit [DecidableEq κ] in
theorem MapAt.lt {r : Nat} {m : List (κ × Value)} (h : MapAt w enc r m) : r < w.heap.size := by
 obtain ⟨es, c, hb, _⟩ := h.ex; exact (Array.getElem?_eq_some_iff.1 hb).1
omit [DecidableEq κ] in
theorem MapAt.below {w' : World} {r : Nat} {m : List (κ × Value)} (h : MapAt w enc r m) (hb : Below w.heap.size w w') : MapAt w' enc r m := by
 obtain ⟨⟨es, c, h1, h2⟩, h3⟩ := h; exact ⟨⟨es, c, Qc h1 hb, h2⟩, h3⟩
omit [DecidableEq κ] in
theorem MapAt.kept {w' : World} {r : Nat} {m : List (κ × Value)} {row : Option Nat} (h : MapAt w enc r m) (hg : w.grownBy w' row) (hne : row ≠ some r) : MapAt w' enc r m := by
 have hlt := h.lt
 obtain ⟨⟨es, c, h1, h2⟩, h3⟩ := h; exact ⟨⟨es, c, (hg.block r hlt (fun e => hne e.symm)).trans h1, h2⟩, h3⟩
omit [DecidableEq κ] in
theorem MapAt.new (w : World) (enc : κ → Value) : MapAt (w.alloc (.map #[] 0)) enc w.heap.size [] := ⟨⟨#[], 0, heap_alloc_new _ _, rfl, by simp, by simp⟩, by simp⟩
theorem map_eraseIdx {α β : Type} (f : α → β) (l : List α) (i : Nat) : (l.eraseIdx i).map f = (l.map f).eraseIdx i := by
 induction l generalizing i with
 | nil => rfl
 | cons x l ih => cases i with
  | zero => rfl
  | succ i => simp [ih]
theorem YG (m : List (κ × Value)) (k : κ) (i : Nat) : (Q4 m k i).map Prod.snd = mget m k := by
 induction m generalizing i with
 | nil => rfl
 | cons p m ih =>
  rw [QE, Q4]
  by_cases h : k = p.1
  ·rw [if_pos h, if_pos h.symm]; rfl
  ·rw [if_neg h, if_neg (fun e => h e.symm), ih]
theorem whereIs_get (m : List (κ × Value)) (k : κ) (i j : Nat) (v : Value) (h : Q4 m k i = some (j, v)) : ∃ t, j = i + t ∧ m[t]? = some (k, v) ∧ ∀ s, s < t → ∀ p, m[s]? = some p → p.1 ≠ k := by
 induction m generalizing i with
 | nil => cases h
 | cons p m ih =>
  rw [Q4] at h
  by_cases e : k = p.1
  ·rw [if_pos e] at h
   cases h
   exact ⟨0, rfl, by simp [e], fun s hs => by omega⟩
  ·rw [if_neg e] at h
   obtain ⟨t, h1, h2, h3⟩ := ih _ h
   refine ⟨t + 1, by omega, by simpa using h2, fun s hs q hq => ?_⟩
   cases s with
   | zero => simp at hq; subst hq; exact fun x => e x.symm
   | succ s => exact h3 s (by omega) q (by simpa using hq)
theorem findNow_eq {d : TypeDesc} (hnow : ∀ a b, Instr.sameNow d (enc a) (enc b) = some (decide (a = b))) (k : κ) (es : List MapEntry) (m : List (κ × Value)) (h : es.map (fun e => (e.key, e.val)) = m.map (fun p => (enc p.1, p.2))) (i : Nat) :
  Instr.findNow d (enc k) es i = some (Q4 m k i) := by
 induction es generalizing m i with
 | nil => cases m with
  | nil => rfl
  | cons p m => simp at h
 | cons e es ih =>
  cases m with
  | nil => simp at h
  | cons p m =>
   simp only [List.map_cons, List.cons.injEq, Prod.mk.injEq] at h
   obtain ⟨⟨h1, h2⟩, h3⟩ := h
   rw [Instr.findNow, h1, hnow, Q4]
   by_cases e' : k = p.1
   ·simp [e', h2]
   ·simp [e', ih m h3 (i + 1)]
theorem find_now {K : TypeId} (hk : ∃ d, P.underlying K = some d ∧ (∀ a b, Instr.sameNow d (enc a) (enc b) = some (decide (a = b)))) (k : κ) (es : List MapEntry) (m : List (κ × Value)) (h : es.map (fun e => (e.key, e.val)) = m.map (fun p => (enc p.1, p.2))) (w : World) :
  (Instr.findKey K (enc k) es).run P w = .ok (Q4 m k 0) w := by
 obtain ⟨d, hd, hnow⟩ := hk
 unfold Instr.findKey
 simp [run_underlying hd, findNow_eq hnow k es m h 0, Result.andThen]
theorem YM {K : TypeId} (hk : KeyOk P K enc) (k : κ) (es : List MapEntry) (m : List (κ × Value)) (h : es.map (fun e => (e.key, e.val)) = m.map (fun p => (enc p.1, p.2))) (w : World) :
  (Instr.findKey K (enc k) es).run P w = .ok (Q4 m k 0) w := hk.find k es m h w
theorem find_ask {K : TypeId} {d : TypeDesc} (hd : P.underlying K = some d) (hs : ∀ a b, Instr.sameNow d (enc a) (enc b) = none) (he : ∀ a b (w : World), (Op.equal K (enc a) (enc b)).run P w = .ok (decide (a = b)) w) (k : κ) (es : List MapEntry) (m : List (κ × Value)) (h : es.map (fun e => (e.key, e.val)) = m.map (fun p => (enc p.1, p.2))) (w : World) :
  (Instr.findKey K (enc k) es).run P w = .ok (Q4 m k 0) w := by
 have ask : ∀ (es : List MapEntry) (m : List (κ × Value)) (i : Nat), es.map (fun e => (e.key, e.val)) = m.map (fun p => (enc p.1, p.2)) → (Instr.findAsking K (enc k) es i).run P w = .ok (Q4 m k i) w := by
  intro es
  induction es with
  | nil => intro m i h; cases m with
   | nil => simp [Instr.findAsking, Q4]
   | cons p m => simp at h
  | cons e es ih =>
   intro m i h
   cases m with
   | nil => simp at h
   | cons p m =>
    simp only [List.map_cons, List.cons.injEq, Prod.mk.injEq] at h
    obtain ⟨⟨h1, h2⟩, h3⟩ := h
    unfold Instr.findAsking
    simp only [Sem.run_bind, h1, he, Result.andThen]
    rw [Q4]
    by_cases hkp : k = p.1
    ·simp [hkp, h2]
    ·simp [hkp, ih m (i + 1) h3]
 unfold Instr.findKey
 cases es with
 | nil =>
  cases m with
  | nil => simp [run_underlying hd, Instr.findNow, Q4, Result.andThen]
  | cons p m => simp at h
 | cons e es =>
  cases m with
  | nil => simp at h
  | cons p m =>
   have h1 : e.key = enc p.1 := by simp only [List.map_cons, List.cons.injEq, Prod.mk.injEq] at h; exact h.1.1
   simp only [Sem.run_bind, run_underlying hd, Result.andThen, Instr.findNow, h1, hs]
   exact ask _ _ 0 h
theorem QF {t K E : TypeId} (ht : P.underlying t = some (.map K E)) (hk : KeyOk P K enc) {z : Value} (hz : ∀ w, (zeroValue E).run P w = .ok z w) {r : Nat} {m : List (κ × Value)} (h : MapAt w enc r m) (k : κ) (ok : Bool) :
  (Instr.lookup t (.map (some r)) (enc k) ok).run P w = .ok (if ok then .tuple #[(mget m k).getD z, .bool (mget m k).isSome] else (mget m k).getD z) w := by
 obtain ⟨es, c, hb, he, _, _⟩ := h.ex
 have hf := YM hk k es.toList m he w
 have hs := YG m k 0
 cases hw : Q4 m k 0 with
 | none =>
  rw [hw] at hf hs
  have hs' : mget m k = none := hs.symm
  cases ok <;> simp [Instr.lookup, run_underlying ht, MapKept.run_getObj_map hb, hk.check, hf, hs', hz, Result.andThen]
 | some x =>
  obtain ⟨i, v⟩ := x
  rw [hw] at hf hs
  have hs' : mget m k = some v := hs.symm
  cases ok <;> simp [Instr.lookup, run_underlying ht, MapKept.run_getObj_map hb, hk.check, hf, hs', Result.andThen]
theorem ZP (w : World) (r : Nat) (o : Obj) : w.grownBy { w with heap := w.heap.setIfInBounds r o } (some r) :=
 ⟨rfl, rfl, rfl, by simp, fun k _ hne => by simp only; rw [Array.getElem?_setIfInBounds_ne (fun e => hne (by rw [e]))]⟩
theorem map_set_entry (m : List (κ × Value)) (k : κ) (v v0 : Value) (i : Nat) (hi : m[i]? = some (k, v0)) (hn : (m.map Prod.fst).Nodup) : m.set i (k, v) = m.map (fun p => if p.1 = k then (k, v) else p) := by
 induction m generalizing i with
 | nil => simp at hi
 | cons p m ih =>
  simp only [List.map_cons, List.nodup_cons] at hn
  cases i with
  | zero =>
   simp at hi; subst hi
   simp only [List.set_cons_zero, List.map_cons, if_true]
   congr 1
   symm
   conv => rhs; rw [← List.map_id m]
   refine List.map_congr_left fun q hq => ?_
   rw [if_neg]; rfl
   exact fun e => hn.1 (by rw [← e]; exact List.mem_map.2 ⟨q, hq, rfl⟩)
  | succ i =>
   have hi' : m[i]? = some (k, v0) := by simpa using hi
   rw [List.set_cons_succ, List.map_cons, if_neg, ih i hi' hn.2]
   intro e
   exact hn.1 (by rw [e]; exact List.mem_map.2 ⟨(k, v0), List.mem_of_getElem? hi', rfl⟩)
theorem run_update_at {t K E : TypeId} (ht : P.underlying t = some (.map K E)) (hk : KeyOk P K enc) {r : Nat} {m : List (κ × Value)} (h : MapAt w enc r m) (k : κ) (v : Value) :
  ∃ w', (Instr.mapUpdate t (.map (some r)) (enc k) v).run P w = .ok () w' ∧ MapAt w' enc r (mput m k v) ∧ w.grownBy w' (some r) := by
 have hlt := h.lt
 obtain ⟨⟨es, c, hb, he, hbn, hnd⟩, hn⟩ := h
 have hf := YM hk k es.toList m he w
 have hs := YG m k 0
 cases hw : Q4 m k 0 with
 | none =>
  rw [hw] at hf hs
  have hs' : mget m k = none := hs.symm
  refine ⟨_, by simp [Instr.mapUpdate, run_underlying ht, MapKept.run_getObj_map hb, hk.check, hf, MapKept.run_setObj_map _ hb, Result.andThen]; rfl, ?_, ZP w r _⟩
  refine ⟨⟨es.push { key := enc k, val := v, born := c }, c + 1, by simp [hlt], ?_, ?_, ?_⟩, ?_⟩
  ·unfold mput; simp [hs', he]
  ·intro e hme
   simp only [Array.toList_push, List.mem_append, List.mem_singleton] at hme
   rcases hme with hme | rfl
   ·have := hbn e hme; omega
   ·simp
  ·simp only [Array.toList_push, List.map_append, List.map_cons, List.map_nil]
   refine List.nodup_append.2 ⟨hnd, by simp, fun x hx y hy e => ?_⟩
   obtain ⟨e', he', rfl⟩ := List.mem_map.1 hx
   simp at hy; subst hy
   have := hbn e' he'; omega
  ·unfold mput; simp only [hs', Option.isSome_none, Bool.false_eq_true, if_false, List.map_append, List.map_cons, List.map_nil]
   refine List.nodup_append.2 ⟨hn, by simp, fun x hx y hy e => ?_⟩
   simp at hy; subst hy; subst e
   have := (mget_isSome m x).2 hx
   rw [hs'] at this; cases this
 | some x =>
  obtain ⟨i, v0⟩ := x
  rw [hw] at hf hs
  have hs' : mget m k = some v0 := hs.symm
  obtain ⟨t', e1, hget, _⟩ := whereIs_get m k 0 i v0 hw
  obtain rfl : i = t' := by omega
  have hi : i < es.size := by
   have h1 := congrArg List.length he
   simp only [List.length_map, Array.length_toList] at h1
   rw [h1]; exact (List.getElem?_eq_some_iff.1 hget).1
  have hkey : es[i].key = enc k := by
   have h1 := congrArg (fun l => l[i]?) he
   simp only [List.getElem?_map, hget, Array.getElem?_toList, Array.getElem?_eq_getElem hi, Option.map_some, Option.some.injEq, Prod.mk.injEq] at h1
   exact h1.1
  have hkey' : (Option.map (fun e => e.key) es[i]?).getD (enc k) = enc k := by
   rw [Array.getElem?_eq_getElem hi]; exact hkey
  refine ⟨_, by simp [Instr.mapUpdate, run_underlying ht, MapKept.run_getObj_map hb, hk.check, hf, Instr.keyThatStays, hkey', hk.bits, MapKept.run_setObj_map _ hb, Result.andThen]; rfl, ?_, ZP w r _⟩
  have hmod : (es.modify i fun e => { e with key := enc k, val := v }).toList = es.toList.set i ⟨enc k, v, es[i].born⟩ := by
   apply List.ext_getElem?
   intro j
   rw [Array.getElem?_toList, Array.getElem?_modify, List.getElem?_set, Array.getElem?_toList]
   by_cases e : i = j
   ·subst e; simp [hi]
   ·simp [e]
  refine ⟨⟨_, c, by simp [hlt]; rfl, ?_, ?_, ?_⟩, ?_⟩
  ·rw [hmod, List.map_set, he]
   unfold mput
   rw [hs', ← map_set_entry m k v v0 i hget hn, if_pos (show (some v0).isSome = true from rfl), List.map_set]
  ·intro e hme
   rw [hmod] at hme
   rcases List.mem_or_eq_of_mem_set hme with hme | rfl
   ·exact hbn e hme
   ·exact hbn es[i] (by simp)
  ·rw [hmod, List.map_set]
   have : (es.toList.map (·.born)).set i es[i].born = es.toList.map (·.born) := by
    apply List.ext_getElem?
    intro j
    rw [List.getElem?_set]
    split
    ·rename_i e; subst e; simp [hi]
    ·rfl
   rw [this]; exact hnd
  ·unfold mput; rw [hs']; simp only [Option.isSome_some, if_true, List.map_map]
   have : (Prod.fst ∘ fun p : κ × Value => if p.1 = k then (k, v) else p) = Prod.fst := by
    funext p; simp only [Function.comp]; split
    ·rename_i e; exact e.symm
    ·rfl
   rw [this]; exact hn
theorem erase_entry (m : List (κ × Value)) (k : κ) (v0 : Value) (i : Nat) (hi : m[i]? = some (k, v0)) (hn : (m.map Prod.fst).Nodup) : m.eraseIdx i = mdel m k := by
 unfold mdel
 induction m generalizing i with
 | nil => simp at hi
 | cons p m ih =>
  simp only [List.map_cons, List.nodup_cons] at hn
  cases i with
  | zero =>
   simp at hi; subst hi
   rw [List.eraseIdx_cons_zero, List.filter_cons, if_neg (by simp)]
   symm
   refine List.filter_eq_self.2 fun q hq => ?_
   simp only [ne_eq, decide_not, Bool.not_eq_eq_eq_not, Bool.not_true, decide_eq_false_iff_not]
   exact fun e => hn.1 (by rw [← e]; exact List.mem_map.2 ⟨q, hq, rfl⟩)
  | succ i =>
   have hi' : m[i]? = some (k, v0) := by simpa using hi
   rw [List.eraseIdx_cons_succ, List.filter_cons, if_pos, ih i hi' hn.2]
   simp only [ne_eq, decide_not, Bool.not_eq_eq_eq_not, Bool.not_true, decide_eq_false_iff_not]
   intro e
   exact hn.1 (by rw [e]; exact List.mem_map.2 ⟨(k, v0), List.mem_of_getElem? hi', rfl⟩)
theorem run_delete_at {t K E : TypeId} (ht : P.underlying t = some (.map K E)) (hk : KeyOk P K enc) {r : Nat} {m : List (κ × Value)} (h : MapAt w enc r m) (k : κ) (ty : TypeId) :
  ∃ w', (Builtin.delete_ #[t, K] ty #[.map (some r), enc k]).run P w = .ok (.tuple #[]) w' ∧ MapAt w' enc r (mdel m k) ∧ w.grownBy w' (some r) := by
 have hlt := h.lt
 obtain ⟨⟨es, c, hb, he, hbn, hnd⟩, hn⟩ := h
 have hf := YM hk k es.toList m he w
 have hs := YG m k 0
 cases hw : Q4 m k 0 with
 | none =>
  rw [hw] at hf hs
  have hs' : mget m k = none := hs.symm
  have hsame : mdel m k = m := by
   unfold mdel
   refine List.filter_eq_self.2 fun q hq => ?_
   simp only [ne_eq, decide_not, Bool.not_eq_eq_eq_not, Bool.not_true, decide_eq_false_iff_not]
   intro e
   have := (mget_isSome m k).2 (by rw [← e]; exact List.mem_map.2 ⟨q, hq, rfl⟩)
   rw [hs'] at this; cases this
  refine ⟨_, by simp [Builtin.delete_, run_underlying ht, MapKept.run_getObj_map hb, hk.check, hf, MapKept.run_setObj_map _ hb, Result.andThen]; rfl, ?_, ZP w r _⟩
  rw [hsame]
  exact ⟨⟨es, c, by simp [hlt], he, hbn, hnd⟩, hn⟩
 | some x =>
  obtain ⟨i, v0⟩ := x
  rw [hw] at hf
  obtain ⟨t', e1, hget, _⟩ := whereIs_get m k 0 i v0 hw
  obtain rfl : i = t' := by omega
  have hi : i < es.size := by
   have h1 := congrArg List.length he
   simp only [List.length_map, Array.length_toList] at h1
   rw [h1]; exact (List.getElem?_eq_some_iff.1 hget).1
  refine ⟨_, by simp [Builtin.delete_, run_underlying ht, MapKept.run_getObj_map hb, hk.check, hf, MapKept.run_setObj_map _ hb, Result.andThen]; rfl, ?_, ZP w r _⟩
  have hmod : (es.eraseIdxIfInBounds i).toList = es.toList.eraseIdx i := by simp [Array.eraseIdxIfInBounds, hi]
  refine ⟨⟨_, c, by simp [hlt]; rfl, ?_, ?_, ?_⟩, ?_⟩
  ·rw [hmod, map_eraseIdx, he, ← map_eraseIdx, erase_entry m k v0 i hget hn]
  ·intro e hme
   rw [hmod] at hme
   exact hbn e (List.mem_of_mem_eraseIdx hme)
  ·rw [hmod]
   exact hnd.sublist (List.Sublist.map _ (List.eraseIdx_sublist _ _))
  ·exact hn.sublist (List.Sublist.map _ (List.filter_sublist))
section
variable {ops : Array Oper} {rest : List Oper} {o : Oper} {a : Act} {Q : Exit → Act → World → Prop}
theorem wpList_lookup_at (hg : o.guard = none) (mo x : Operand) (t : TypeId) (ok : Bool) (hop : o.op = Op.lookup t mo x ok) {K E : TypeId} (ht : P.underlying t = some (.map K E)) (hk : KeyOk P K enc) {z : Value} (hz : ∀ w, (zeroValue E).run P w = .ok z w)
  (r : Nat) (m : List (κ × Value)) (hm : a.eval mo = .map (some r)) (h : MapAt w enc r m) (k : κ) (hx : a.eval x = enc k)
  (hK : wpList P ops Q rest (a.put o.dst (if ok then .tuple #[(mget m k).getD z, .bool (mget m k).isSome] else (mget m k).getD z)) w) : wpList P ops Q (o :: rest) a w := by
 refine wpList_plain hg fun K' hK' => ?_
 have hrun := QF ht hk hz h k ok
 unfold Oper.wp
 simp only [execOp, hop, hm, hx]
 simp [hrun, Result.andThen]
 exact hK' _ _ hK
theorem Qm (hg : o.guard = none) (mo x v : Operand) (t : TypeId) (hop : o.op = Op.mapUpdate t mo x v ∨ o.op = Op.insert t mo x v) {K E : TypeId} (ht : P.underlying t = some (.map K E)) (hk : KeyOk P K enc)
  (r : Nat) (m : List (κ × Value)) (hm : a.eval mo = .map (some r)) (h : MapAt w enc r m) (k : κ) (hx : a.eval x = enc k) (val : Value) (hv : a.eval v = val)
  (hK : ∀ w', MapAt w' enc r (mput m k val) → w.grownBy w' (some r) → wpList P ops Q rest (a.put o.dst undef) w') : wpList P ops Q (o :: rest) a w := by
 refine wpList_plain hg fun K' hK' => ?_
 obtain ⟨w', hrun, r1, r2⟩ := run_update_at ht hk h k val
 unfold Oper.wp
 rcases hop with hop | hop <;>
  (simp only [execOp, hop, hm, hx, hv]
   simp [hrun, Result.andThen]
   exact hK' _ _ (hK w' r1 r2))
theorem wpList_delete_at (hg : o.guard = none) (mo x : Operand) (t : TypeId) {K : TypeId} (hop : o.op = Op.call { callee := Callee.builtin Builtin.delete, args := #[mo, x], argTypes := #[t, K] }) {E : TypeId} (ht : P.underlying t = some (.map K E)) (hk : KeyOk P K enc)
  (r : Nat) (m : List (κ × Value)) (hm : a.eval mo = .map (some r)) (h : MapAt w enc r m) (k : κ) (hx : a.eval x = enc k)
  (hK : ∀ w', MapAt w' enc r (mdel m k) → w.grownBy w' (some r) → wpList P ops Q rest (a.put o.dst (.tuple #[])) w') : wpList P ops Q (o :: rest) a w := by
 refine wpList_plain hg fun K' hK' => ?_
 obtain ⟨w', hrun, r1, r2⟩ := run_delete_at ht hk h k o.type
 unfold Oper.wp
 simp [execOp, hop, resolve, invoke, builtin, hm, hx, hrun, Result.andThen]
 exact hK' _ _ (hK w' r1 r2)
end
end
theorem checkKey_int {P : Program} {K : TypeId} (hK : P.underlying K = some (.int .i64)) (n : Nat) (a : Int) (b : Bool) (w : World) : (Instr.checkKey b (n + 1) K (.int .i64 a)).run P w = .ok () w := by
 simp [Instr.checkKey, run_underlying hK]
theorem Uy {P : Program} {K : TypeId} (hK : P.underlying K = some (.int .i64)) : KeyOk P K (fun n : Int => Value.int .i64 n) :=
 ⟨find_now ⟨_, hK, fun a b => by simp [Instr.sameNow]; by_cases h : a = b <;> simp [h]⟩, fun a => by simp [Instr.sameBits], fun a b w => checkKey_int hK 9999 a b w⟩
end Go.Proofs.YtajijcfikihhjaaGreatDoor
