/- Small laws for the walk of match.raise: labels, the nearest column, prices, one column at a time. -/
import Derived.Test.YtkpgphadgomifaaMatchShort3
import Derived.Test.YtkpgphadgomifaaMatchHung2
namespace Go.Proofs.Ytkpgphadgomifaa
set_option linter.unusedSimpArgs false
set_option linter.unusedVariables false
open Go.RowKit Go.Sort Go.Shelf

def cc (c : List (List Int)) (i k : Nat) : Int := (c.getD i []).getD k (-1)
theorem can_cc (c : List (List Int)) : canC c = may (cc c) := rfl
theorem cc_get {c : List (List Int)} {i k : Nat} (hi : i < c.length) (hk : k < (c[i]).length) : cc c i k = (c[i])[k] := by simp [cc, List.getD, hi, hk]
def iv (f : Nat → Int) : Nat → Value := fun k => .int .i64 (f k)
theorem iv_upd (f : Nat → Int) (k : Nat) (x : Int) : upd (iv f) k (.int .i64 x) = iv (upd f k x) := by
  funext j
  by_cases e : j = k
  · subst e; simp [iv, upd_same]
  · simp [iv, upd_ne _ _ e]
section
variable {C : Nat → Nat → Int} {u v dist frm : Nat → Int} {ord : List Nat} {base now : Int} {cur j : Nat}
theorem rdist_zero : rdist C u v ord base cur dist 0 = dist := by
  funext k; unfold rdist rlx; simp
theorem rfrm_zero : rfrm C u v ord base cur dist frm now 0 = frm := by
  funext k; unfold rfrm rlx; simp
theorem rlx_ne {k : Nat} (h : k ≠ j) : rlx C u v ord base cur dist (j + 1) k = rlx C u v ord base cur dist j k := by
  rw [Bool.eq_iff_iff, rlx_iff, rlx_iff]
  constructor
  · rintro ⟨a, b⟩; exact ⟨by omega, b⟩
  · rintro ⟨a, b⟩; exact ⟨by omega, b⟩
theorem rlx_self : rlx C u v ord base cur dist j j = false := by
  rw [Bool.eq_false_iff]; intro h; have := (rlx_iff.1 h).1; omega
theorem rdist_at : rdist C u v ord base cur dist j j = dist j := by unfold rdist; rw [rlx_self]; simp
theorem rdist_no (h : ¬ (0 ≤ C cur j ∧ j ∉ ord ∧ base + C cur j - u cur - v j < dist j)) : rdist C u v ord base cur dist (j + 1) = rdist C u v ord base cur dist j ∧ rfrm C u v ord base cur dist frm now (j + 1) = rfrm C u v ord base cur dist frm now j := by
  have e : rlx C u v ord base cur dist (j + 1) j = false := by
    rw [Bool.eq_false_iff]; intro a; exact h (rlx_iff.1 a).2
  constructor
  all_goals
    funext k
    by_cases hk : k = j
    · subst hk; simp only [rdist, rfrm, e, rlx_self]
    · simp only [rdist, rfrm, rlx_ne hk]
theorem rdist_yes (h1 : 0 ≤ C cur j) (h2 : j ∉ ord) (h3 : base + C cur j - u cur - v j < dist j) : rdist C u v ord base cur dist (j + 1) = upd (rdist C u v ord base cur dist j) j (base + C cur j - u cur - v j) ∧ rfrm C u v ord base cur dist frm now (j + 1) = upd (rfrm C u v ord base cur dist frm now j) j now := by
  have e : rlx C u v ord base cur dist (j + 1) j = true := rlx_iff.2 ⟨by omega, h1, h2, h3⟩
  constructor
  all_goals
    funext k
    by_cases hk : k = j
    · subst hk; simp [rdist, rfrm, e, upd_same]
    · simp [rdist, rfrm, rlx_ne hk, upd_ne _ _ hk]
theorem Sel.start : Sel dist ord 0 (-1) := .inl ⟨rfl, fun k hk => by omega⟩
theorem Sel.done (s : Sel dist ord j now) (h : j ∈ ord) : Sel dist ord (j + 1) now := by
  rcases s with ⟨e, s⟩ | ⟨k0, e, e2, e3, e4⟩
  · refine .inl ⟨e, fun k hk => ?_⟩
    by_cases q : k = j
    · subst q; exact h
    · exact s k (by omega)
  · refine .inr ⟨k0, e, by omega, e3, fun k hk hno => e4 k ?_ hno⟩
    have : k ≠ j := fun q => hno (q ▸ h)
    omega
theorem Sel.first (s : Sel dist ord j (-1)) (h : j ∉ ord) : Sel dist ord (j + 1) (j : Int) := by
  rcases s with ⟨e, s⟩ | ⟨k0, e, _⟩
  · refine .inr ⟨j, rfl, by omega, h, fun k hk hno => ?_⟩
    by_cases q : k = j
    · subst q; exact Int.le_refl _
    · exact absurd (s k (by omega)) hno
  · omega
theorem Sel.less {k0 : Nat} (s : Sel dist ord j (k0 : Int)) (h : j ∉ ord) (hl : dist j < dist k0) : Sel dist ord (j + 1) (j : Int) := by
  rcases s with ⟨e, _⟩ | ⟨k1, e, e2, e3, e4⟩
  · omega
  · have : k1 = k0 := by omega
    subst this
    refine .inr ⟨j, rfl, by omega, h, fun k hk hno => ?_⟩
    by_cases q : k = j
    · subst q; exact Int.le_refl _
    · have := e4 k (by omega) hno; omega
theorem Sel.more {k0 : Nat} (s : Sel dist ord j (k0 : Int)) (hl : ¬ dist j < dist k0) : Sel dist ord (j + 1) (k0 : Int) := by
  rcases s with ⟨e, _⟩ | ⟨k1, e, e2, e3, e4⟩
  · omega
  · have : k1 = k0 := by omega
    subst this
    refine .inr ⟨k1, rfl, by omega, e3, fun k hk hno => ?_⟩
    by_cases q : k = j
    · subst q; omega
    · exact e4 k (by omega) hno
theorem Sel.cases (s : Sel dist ord j now) : now = -1 ∨ ∃ k0 : Nat, now = (k0 : Int) ∧ k0 < j := by
  rcases s with ⟨e, _⟩ | ⟨k0, e, e2, _⟩
  · exact .inl e
  · exact .inr ⟨k0, e, e2⟩
end
/-- The new prices, for the columns below j. -/
structure NewJ (n r : Nat) (u v ow dist : Nat → Int) (ord : List Nat) (base : Int) (j : Nat) (u' v' : Nat → Int) : Prop where
  hv : ∀ k, k < n → v' k = if k < j ∧ k ∈ ord then v k - (base - dist k) else v k
  hr : u' r = u r + base
  ho : ∀ k ∈ ord, ∀ i : Nat, ow k = (i : Int) → u' i = if k < j then u i + (base - dist k) else u i
  hx : ∀ i, i ≠ r → (∀ k ∈ ord, ow k ≠ (i : Int)) → u' i = u i
section
variable {n r : Nat} {u v ow dist u' v' : Nat → Int} {ord : List Nat} {base : Int} {j : Nat}
theorem NewJ.start (hr : ∀ k ∈ ord, ∀ i : Nat, ow k = (i : Int) → i ≠ r) : NewJ n r u v ow dist ord base 0 (upd u r (u r + base)) v := by
  refine ⟨fun k hk => ?_, upd_same _ _ _, fun k hk i e => ?_, fun i hi _ => upd_ne _ _ hi⟩
  · rw [if_neg (by rintro ⟨a, _⟩; omega)]
  · rw [if_neg (by omega), upd_ne _ _ (hr k hk i e)]
theorem NewJ.skip (p : NewJ n r u v ow dist ord base j u' v') (h : j ∉ ord) : NewJ n r u v ow dist ord base (j + 1) u' v' := by
  refine ⟨fun k hk => ?_, p.hr, fun k hk i e => ?_, p.hx⟩
  · rw [p.hv k hk]
    have : (k < j ∧ k ∈ ord) = (k < j + 1 ∧ k ∈ ord) := by
      rw [eq_iff_iff]
      constructor
      · rintro ⟨a, b⟩; exact ⟨by omega, b⟩
      · rintro ⟨a, b⟩
        have : k ≠ j := fun e => h (e ▸ b)
        exact ⟨by omega, b⟩
    simp only [this]
  · rw [p.ho k hk i e]
    have : k ≠ j := fun e => h (e ▸ hk)
    have : (k < j) = (k < j + 1) := by rw [eq_iff_iff]; omega
    simp only [this]
theorem NewJ.step {i : Nat} (p : NewJ n r u v ow dist ord base j u' v') (h : j ∈ ord) (hjn : j < n) (hi : ow j = (i : Int)) (hir : i ≠ r) (inj : ∀ k ∈ ord, ∀ i : Nat, ow k = (i : Int) → ow j = (i : Int) → k = j) :
    v' j = v j ∧ u' i = u i ∧ NewJ n r u v ow dist ord base (j + 1) (upd u' i (u i + (base - dist j))) (upd v' j (v j - (base - dist j))) := by
  have h1 := p.hv j hjn
  rw [if_neg (by rintro ⟨a, _⟩; omega)] at h1
  have h2 := p.ho j h i hi
  rw [if_neg (by omega)] at h2
  refine ⟨h1, h2, ⟨fun k hk => ?_, by rw [upd_ne _ _ (Ne.symm hir)]; exact p.hr, fun k hk x e => ?_, fun x hx hno => ?_⟩⟩
  · by_cases e : k = j
    · subst e; rw [upd_same, if_pos ⟨by omega, h⟩]
    · rw [upd_ne _ _ e, p.hv k hk]
      have : (k < j) = (k < j + 1) := by rw [eq_iff_iff]; omega
      simp only [this]
  · by_cases q : k = j
    · subst q
      have : x = i := by omega
      subst this
      rw [upd_same, if_pos (by omega)]
    · have hxi : x ≠ i := fun e2 => q (inj k hk x e (by rw [hi, e2]))
      rw [upd_ne _ _ hxi, p.ho k hk x e]
      have : (k < j) = (k < j + 1) := by rw [eq_iff_iff]; omega
      simp only [this]
  · have : x ≠ i := fun e => hno j h (by rw [hi, e])
    rw [upd_ne _ _ this]; exact p.hx x hx hno
theorem NewJ.fin (p : NewJ n r u v ow dist ord base n u' v') (hl : ∀ k ∈ ord, k < n) : NewP n r u v ow dist ord base u' v' := by
  refine ⟨fun k hk => ?_, p.hr, fun k hk i e => ?_, p.hx⟩
  · rw [p.hv k hk]
    simp only [hk, true_and]
  · rw [p.ho k hk i e, if_pos (hl k hk)]
end
/-- The prices and the owners in memory. -/
structure RM (m n bp bu bv bow : Nat) (W : World) (u v ow : Nat → Int) : Prop where
  xP : W.heap[bp]? = some (.cells #[.slice (some ⟨bu, 0, none⟩) m m, .slice (some ⟨bv, 0, none⟩) n n] 48 (0, 0))
  ru : RowAt W bu m 3 (iv u)
  rv : RowAt W bv n 3 (iv v)
  ro : RowAt W bow n 3 (iv ow)
theorem RM.below {m n bp bu bv bow : Nat} {W W' : World} {u v ow : Nat → Int} (r : RM m n bp bu bv bow W u v ow) (hb : Below W.heap.size W W') : RM m n bp bu bv bow W' u v ow :=
  ⟨blk_keep r.xP hb, r.ru.below hb, r.rv.below hb, r.ro.below hb⟩
theorem RM.lt {m n bp bu bv bow : Nat} {W : World} {u v ow : Nat → Int} (r : RM m n bp bu bv bow W u v ow) : bp < W.heap.size ∧ bu < W.heap.size ∧ bv < W.heap.size ∧ bow < W.heap.size := ⟨lt_blk r.xP, r.ru.lt, r.rv.lt, r.ro.lt⟩
/-- What the prices are good for. -/
def RaisePost (c : List (List Int)) (w : World) (e : Ending) (w' : World) : Prop :=
  ∃ (u v : Nat → Int) (bu bv : Nat), e = .returned (.agg #[.slice (some ⟨bu, 0, none⟩) c.length c.length, .slice (some ⟨bv, 0, none⟩) (wideL c) (wideL c)]) ∧ (∃ ow, Pot (cc c) (wideL c) c.length (c.length * (wideL c * 1000000)) u v ow) ∧
    RowAt w' bu c.length 3 (iv u) ∧ RowAt w' bv (wideL c) 3 (iv v) ∧ Below w.heap.size w w'
def RaiseInv (c : List (List Int)) (bp bu bv bow : Nat) (w0 : World) (k : Nat) (W : World) : Prop :=
  ∃ u v ow, RM c.length (wideL c) bp bu bv bow W u v ow ∧ Pot (cc c) (wideL c) k (k * (wideL c * 1000000)) u v ow ∧ Below w0.heap.size w0 W
/-- Behind the first lines. -/
def RaiseStart (c : List (List Int)) (bp bu bv : Nat) (w1 W : World) : Prop :=
  W.heap[bp]? = some (.cells #[.slice (some ⟨bu, 0, none⟩) c.length c.length, .slice (some ⟨bv, 0, none⟩) (wideL c) (wideL c)] 48 (0, 0)) ∧ RowAt W bu c.length 3 (iv fun _ => 0) ∧ RowAt W bv (wideL c) 3 (iv fun _ => 0) ∧
    Below w1.heap.size w1 W ∧ (w1.heap.size ≤ bp ∧ w1.heap.size ≤ bu ∧ w1.heap.size ≤ bv) ∧ bp ≠ bu ∧ bp ≠ bv ∧ bu ≠ bv
theorem three (w : World) (A B C : Obj) : (((w.alloc A).alloc B).alloc C).drew.heap[w.heap.size]? = some A ∧ (((w.alloc A).alloc B).alloc C).drew.heap[w.heap.size + 1]? = some B ∧ (((w.alloc A).alloc B).alloc C).drew.heap[w.heap.size + 1 + 1]? = some C ∧ Below w.heap.size w (((w.alloc A).alloc B).alloc C).drew :=
  box3 ((Below.refl (((w.alloc A).alloc B).alloc C).heap.size _).drew)
theorem RowAt.of_made {w : World} {b n : Nat} {T : TypeId} {z : Value} (x : w.heap[b]? = some (.cells (madeCells #[z] n) T (0, 0))) : RowAt w b n T (fun _ => z) :=
  ⟨_, x, size_madeCells _ _, fun k hk => by simp [madeCells, hk, Nat.mod_one]⟩
/-- Two new rows. -/
def TwoRows (n : Nat) (w : World) (bd bf : Nat) (W : World) : Prop := RowAt W bd n 3 (iv fun _ => 0) ∧ RowAt W bf n 3 (iv fun _ => -1) ∧ Below w.heap.size w W ∧ w.heap.size ≤ bd ∧ w.heap.size ≤ bf ∧ bd ≠ bf
/-- The three rows of a search. -/
structure SM (n bd bf bo : Nat) (wr W : World) (dist frm : Nat → Int) (don : Nat → Bool) : Prop where
  rd : RowAt W bd n 3 (iv dist)
  rf : RowAt W bf n 3 (iv frm)
  rb : RowAt W bo n 4 (fun j => .bool (don j))
  bel : Below wr.heap.size wr W
theorem SM.below {n bd bf bo : Nat} {wr W W' : World} {dist frm : Nat → Int} {don : Nat → Bool} (s : SM n bd bf bo wr W dist frm don) (hb : Below W.heap.size W W') : SM n bd bf bo wr W' dist frm don :=
  ⟨s.rd.below hb, s.rf.below hb, s.rb.below hb, s.bel.trans (hb.mono s.bel.size)⟩
theorem contains_app (ord : List Nat) (k : Nat) : (fun j => (ord ++ [k]).contains j) = upd (fun j => ord.contains j) k true := by
  funext j
  by_cases e : j = k
  · subst e; simp [upd_same]
  · rw [upd_ne _ _ e]; simp [e]
theorem two_A {n bn : Nat} {w W : World} (hb : Below (w.alloc (.cells (madeCells #[.int .i64 0] n) 3)).heap.size (w.alloc (.cells (madeCells #[.int .i64 0] n) 3)) W) (hr : RowAt W bn n 3 (fun _ => .int .i64 (-1)))
    (hn : (w.alloc (.cells (madeCells #[.int .i64 0] n) 3)).heap.size ≤ bn) : TwoRows n w w.heap.size bn W := by
  simp at hn
  exact ⟨RowAt.of_made (box_below hb), hr, allocB hb, Nat.le_refl _, by omega, by omega⟩
theorem two_B {n bn : Nat} {w W : World} (hb : Below w.heap.size w W) (hr : RowAt W bn n 3 (fun _ => .int .i64 (-1))) (hn : w.heap.size ≤ bn) : TwoRows n w W.heap.size bn (W.alloc (.cells (madeCells #[.int .i64 0] n) 3)) := by
  have h1 := hb.size
  have h2 := hr.lt
  exact ⟨RowAt.made _ _ _ _, hr.below ((Below.refl _ _).alloc (Nat.le_refl _) _), hb.alloc h1 _, h1, hn, by omega⟩
/-- What the search for the least way knows, a row not looked at yet. -/
def L3Inv (c : List (List Int)) (k : Nat) (u v ow : Nat → Int) (bd bf bo : Nat) (wo : World) (g cur : Nat) (now base : Int) (W : World) : Prop :=
  ∃ (dist frm : Nat → Int) (ord : List Nat), g + ord.length = wideL c + 1 ∧ SM (wideL c) bd bf bo wo W dist frm (fun j => ord.contains j) ∧ Dj (cc c) (wideL c) k u v ow true dist frm ord base cur ∧ ((ord = [] ∧ now = -1) ∨ ∃ (k' : Nat) (ord0 : List Nat), ord = ord0 ++ [k'] ∧ now = (k' : Int))
theorem cell_b {w W : World} {p : Addr} {v : Value} (hb : Below w.heap.size w W) (hc : w.cell? p = some v) : W.cell? p = some v := (hb.cell (World.block_lt_of_cell? _ _ hc)).trans hc
theorem dj_cur {C : Nat → Nat → Int} {n r : Nat} {V : Int} {u v ow dist frm : Nat → Int} {late : Bool} {ord : List Nat} {base : Int} {cur : Nat} (p : Pot C n r V u v ow) (d : Dj C n r u v ow late dist frm ord base cur) : cur ≤ r := by
  rcases d.hcur with ⟨_, e, _⟩ | ⟨k, ord0, e, e2, _⟩
  · omega
  · have hk : k ∈ ord := by rw [e]; simp
    rcases p.own.val k (d.lt k hk).1 trivial with a | ⟨i, a, b, _⟩ <;> omega
theorem pot_small {C : Nat → Nat → Int} {n r m : Nat} {u v ow : Nat → Int} (p : Pot C n r (r * (n * 1000000)) u v ow) (hr : r ≤ m) (hm : m ≤ 200) (hn : n ≤ 200) (hC : ∀ i k, i < m → k < n → C i k ≤ 1000000) :
    ((r : Int) * (n * 1000000) ≤ 40000000000) ∧ (∀ i, 0 ≤ u i ∧ u i ≤ 40001000000) ∧ ∀ k, k < n → -40000000000 ≤ v k ∧ v k ≤ 0 := by
  have h1 : r * (n * 1000000) ≤ 200 * (200 * 1000000) := Nat.mul_le_mul (by omega) (Nat.mul_le_mul_right _ hn)
  have h2 : (r : Int) * (n * 1000000) ≤ 40000000000 := by
    have : ((r * (n * 1000000) : Nat) : Int) = (r : Int) * (n * 1000000) := by simp
    omega
  have h3 : (0 : Int) ≤ (r : Int) * (n * 1000000) := by
    have : ((r * (n * 1000000) : Nat) : Int) = (r : Int) * (n * 1000000) := by simp
    omega
  refine ⟨h2, fun i => ?_, fun k hk => ?_⟩
  · have := p.usmall (fun i k hi hk => hC i k (by omega) hk) h3 i
    omega
  · have := p.vlow k hk
    have := p.vneg k hk
    omega
theorem cc_le {c : List (List Int)} (h1 : ∀ l ∈ c, l.length = wideL c) (h2 : ∀ l ∈ c, ∀ n ∈ l, -1 ≤ n ∧ n ≤ 1000000) : ∀ i k, i < c.length → k < wideL c → -1 ≤ cc c i k ∧ cc c i k ≤ 1000000 := fun i k hi hk => by
  have hl := h1 c[i] (List.getElem_mem _)
  rw [cc_get hi (by omega)]
  exact h2 c[i] (List.getElem_mem _) _ (List.getElem_mem _)
theorem SM.set {n bd bf bo : Nat} {wr W : World} {dist frm : Nat → Int} {don : Nat → Bool} (s : SM n bd bf bo wr W dist frm don) {j : Nat} (hj : j < n) (h1 : wr.heap.size ≤ bd) (h2 : wr.heap.size ≤ bf) (n1 : bd ≠ bf) (n2 : bd ≠ bo) (n3 : bf ≠ bo) (x y : Int) :
    SM n bd bf bo wr ((W.setCell ⟨bd, j, none⟩ (.int .i64 x)).setCell ⟨bf, j, none⟩ (.int .i64 y)) (upd dist j x) (upd frm j y) don :=
  ⟨((s.rd.set hj (.int .i64 x)).other n1 _).congr fun _ _ => by rw [iv_upd], ((s.rf.other (Ne.symm n1) _).set hj (.int .i64 y)).congr fun _ _ => by rw [iv_upd], (s.rb.other (Ne.symm n2) _).other (Ne.symm n3) _, (s.bel.setCell h1 _).setCell h2 _⟩
end Go.Proofs.Ytkpgphadgomifaa
