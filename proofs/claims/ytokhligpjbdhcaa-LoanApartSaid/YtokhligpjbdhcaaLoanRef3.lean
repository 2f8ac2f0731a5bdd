/- Still more contracts of the functions of partbookref28: put, Held, Hall, Push. -/
import Derived.Test.YtokhligpjbdhcaaLoanRef2
namespace Go.Proofs.Ytokhligpjbdhcaa
set_option linter.unusedSimpArgs false
set_option linter.unusedVariables false
open Go.RowKit Go.Sort

theorem eltInt : Elt Try.prog 33 3 1 8 inRow := ⟨Try.underlying33, ⟨.int .i64 0, by kernel_rfl, rfl⟩, by decide, by decide, fun _ => rfl, fun x u hu => by simp [inRow] at hu; subst hu; rfl⟩
theorem eltLoan : Elt Try.prog 22 24 5 40 Lo.cells := ⟨Try.underlying22, ⟨.agg #[.int .i64 0, .int .i64 0, .int .i64 0, .int .i64 0, .int .i64 0], by kernel_rfl, rfl⟩, by decide, by decide, fun _ => rfl, fun x u hu => by simp [Lo.cells] at hu; rcases hu with rfl | rfl | rfl | rfl | rfl <;> rfl⟩

/-- Where n belongs among rising integers. -/
def cutAt (l : List Int) (n : Int) : Nat := l.length - (l.reverse.takeWhile fun x => decide (n ≤ x)).length
theorem takeWhile_all {α : Type} (p : α → Bool) (l : List α) (h : ∀ x ∈ l, p x = true) : l.takeWhile p = l := by
  induction l with
  | nil => rfl
  | cons x l ih => rw [List.takeWhile_cons, if_pos (h x (by simp)), ih fun y hy => h y (by simp [hy])]
theorem takeWhile_stop {α : Type} (p : α → Bool) (l : List α) (x : α) (r : List α) (h : ∀ x ∈ l, p x = true) (hx : p x = false) : (l ++ x :: r).takeWhile p = l := by
  induction l with
  | nil => rw [List.nil_append, List.takeWhile_cons, if_neg (by rw [hx]; simp)]
  | cons y l ih => rw [List.cons_append, List.takeWhile_cons, if_pos (h y (by simp)), ih fun z hz => h z (by simp [hz])]
theorem cutAt_eq (l : List Int) (n : Int) (k : Nat) (hk : k ≤ l.length) (h : ∀ x ∈ l.drop k, n ≤ x) (hs : ∀ j (hj : j < l.length), k = j + 1 → l[j] < n) : cutAt l n = k := by
  unfold cutAt
  have hp : ∀ x ∈ (l.drop k).reverse, decide (n ≤ x) = true := fun x hx => by simpa using h x (by simpa using hx)
  cases k with
  | zero =>
    rw [List.drop_zero] at hp
    rw [takeWhile_all _ _ hp]; simp
  | succ j =>
    have e : l.reverse = (l.drop (j + 1)).reverse ++ l[j] :: (l.take j).reverse := by
      conv => lhs; rw [← List.take_append_drop (j + 1) l]
      rw [List.reverse_append, List.take_succ_eq_append_getElem (by omega)]
      simp
    rw [e, takeWhile_stop _ _ _ _ hp (by have := hs j (by omega) rfl; simpa using this)]
    simp; omega
/-- Rising integers with a further one. -/
def putL (l : List Int) (n : Int) : List Int := if (l.drop (cutAt l n)).head? = some n then l else l.take (cutAt l n) ++ [n] ++ l.drop (cutAt l n)
theorem putL_len (l : List Int) (n : Int) : (putL l n).length ≤ l.length + 1 := by
  unfold putL; split
  · omega
  · simp; omega
theorem putL_hit (l : List Int) (n : Int) (k : Nat) (hk : cutAt l n = k) (hlt : k < l.length) (he : l[k] = n) : putL l n = l := by
  unfold putL; rw [hk, if_pos (by rw [List.head?_drop, List.getElem?_eq_getElem hlt, he])]
theorem putL_end (l : List Int) (n : Int) (hk : cutAt l n = l.length) : putL l n = l ++ [n] := by
  unfold putL; rw [hk, if_neg (by simp)]; simp
theorem putL_mid (l : List Int) (n : Int) (k : Nat) (hk : cutAt l n = k) (hlt : k < l.length) (he : l[k] ≠ n) : putL l n = l.take k ++ [n] ++ l.drop k := by
  unfold putL; rw [hk, if_neg (by rw [List.head?_drop, List.getElem?_eq_getElem hlt]; simpa using he)]

set_option maxHeartbeats 1000000 in
theorem put_nil (x : Int) (w : World) : Calls Try.prog 41 #[.slice none 0 0, .int .i64 x] w (RetSl 1 ((putL [] x).map inRow) w) := by
  go_enter Try.func41, Try.ntmps41
  go_wp2
  go_loop [5] (fun i => i = .int .i64 0) (fun i => (intOf i).toNat)
  case atStart => rfl
  case round =>
    subst hrel
    go_wp2_with (first | (at_builtin; refine appE eltInt rfl (.tmp 35) (.tmp 38) rfl w.heap.size _ [] rfl (OwnR.nil _ _ _ _) _ _ _ [] rfl rfl (fun _ => rfl) (SlAt.nil _ _ _) (by simp) (Nat.le_refl _) ?_; intro v1 w1 ho1 hg1; have HB1 := Lib.hid (below_grown (Below.refl _ _) (OwnR.nil _ _ 3 1) (Nat.le_refl _) hg1); have HO1 := Lib.hid ho1; clear ho1 hg1) | (at_builtin; refine appE eltInt rfl (.tmp 40) (.tmp 42) rfl w.heap.size _ [] rfl (HO1.out.below ((Below.refl _ _).alloc (Nat.le_refl _) _)) _ _ _ [x] rfl rfl (fun e => by cases e) (eltInt.new _ _ _ _ rfl) (by simp) (by have := HB1.out.size; simp; omega) ?_; intro v2 w2 ho2 hg2; have HB2 := Lib.hid (below_grown (HB1.out.alloc HB1.out.size _) (HO1.out.below ((Below.refl _ _).alloc (Nat.le_refl _) _)) (by have := HB1.out.size; simp; omega) hg2); have HO2 := Lib.hid ho2; clear ho2 hg2) | (at_builtin; refine appE eltInt rfl (.tmp 44) (.tmp 47) rfl w.heap.size _ [x] rfl HO2.out _ _ _ [] rfl rfl (fun _ => rfl) (SlAt.nil _ _ _) (by simp) (HB2.out.size) ?_; intro v3 w3 ho3 hg3; have HB3 := Lib.hid (below_grown HB2.out HO2.out HB2.out.size hg3); have HO3 := Lib.hid ho3; clear ho3 hg3))
    go_ret
    exact HO3.out.retSl rfl HB3.out

set_option maxHeartbeats 2000000 in
theorem put_any (a : Option Addr) (n cap : Nat) (l : List Int) (x : Int) (w : World) (hn : n = l.length) (hl : n ≤ 1000000) (hs : SlOk a n cap) (hr : InAt w a l) :
    Calls Try.prog 41 #[.slice a n cap, .int .i64 x] w (RetSl 1 ((putL l x).map inRow) w) := by
  subst hn
  have hcap := hs.le
  have HS := Lib.hid hs; clear hs
  rcases HS.out.cases with ⟨rfl, h1, h2⟩ | ⟨b, off, rfl⟩
  · obtain rfl : l = [] := List.eq_nil_of_length_eq_zero h1
    subst h2
    exact put_nil x w
  go_enter Try.func41, Try.ntmps41
  go_wp2
  go_loop [5] (fun i => ∃ k : Nat, k ≤ l.length ∧ i = .int .i64 k ∧ ∀ y ∈ l.drop k, x ≤ y) (fun i => (intOf i).toNat)
  case atStart => exact ⟨l.length, Nat.le_refl _, rfl, by simp⟩
  case round =>
    obtain ⟨k, hk, rfl, hall⟩ := hrel
    have H := Lib.hid hall; clear hall
    have HR := Lib.hid hr; clear hr
    by_cases hgo : ∃ j, ∃ hj : j < l.length, k = j + 1 ∧ x ≤ l[j]
    · obtain ⟨j, hj, rfl, hx⟩ := hgo
      obtain ⟨_, _, e, c0⟩ := HR.out.get j hj
      cases e
      have hk1 : ((j + 1 : Nat) : Int) - 1 = (j : Int) := by omega
      go_wp2
      refine ⟨⟨j, by omega, rfl, ?_⟩, by simp [intOf]⟩
      intro y hy
      rw [List.drop_eq_getElem_cons (by omega)] at hy
      rcases List.mem_cons.1 hy with rfl | hy
      · exact hx
      · exact H.out y hy
    have hcut : cutAt l x = k := cutAt_eq l x k hk H.out (fun j hj e => Int.not_le.1 fun hx => hgo ⟨j, hj, e, hx⟩)
    have HC := Lib.hid hcut; clear hcut
    have hend : k = 0 ∨ ∃ j, ∃ hj : j < l.length, k = j + 1 ∧ l[j] < x := by
      rcases Nat.eq_zero_or_pos k with h | h
      · exact .inl h
      · exact .inr ⟨k - 1, by omega, by omega, Int.not_le.1 fun hx => hgo ⟨k - 1, by omega, by omega, hx⟩⟩
    clear hgo
    rcases hend with h0 | ⟨j, hj, hkj, hx⟩
    · have hk0 : k < 1 := by omega
      clear h0
      by_cases hlt : k < l.length
      · obtain ⟨_, _, e, d0⟩ := HR.out.get k hlt
        cases e
        have hkc : k < cap := by omega
        by_cases heq : l[k] = x
        · have hb : (l[k] == x) = true := by simpa using heq
          have HE := Lib.hid heq; clear heq
          go_wp2
          go_ret
          refine ⟨_, cap, ret_sl (by rw [List.length_map, putL_hit l x _ HC.out hlt HE.out]), ?_, ?_, Below.refl _ _⟩
          · rw [List.length_map, putL_hit l x _ HC.out hlt HE.out]; exact HS.out
          · rw [putL_hit l x _ HC.out hlt HE.out]; exact HR.out
        · have hb : (l[k] == x) = false := by simpa using heq
          have HE := Lib.hid heq; clear heq
          go_wp2_with (first | (at_builtin; refine appE eltInt rfl (.tmp 35) (.tmp 38) rfl w.heap.size _ [] rfl (OwnR.nil _ _ _ _) _ _ _ (l.take k) rfl (len_take l _ (by omega)) (fun e => by cases e) (HR.out.take' k) (by simp; omega) (Nat.le_refl _) ?_; intro v1 w1 ho1 hg1; have HB1 := Lib.hid (below_grown (Below.refl _ _) (OwnR.nil _ _ 3 1) (Nat.le_refl _) hg1); have HO1 := Lib.hid ho1; clear ho1 hg1) | (at_builtin; refine appE eltInt rfl (.tmp 40) (.tmp 42) rfl w.heap.size _ _ rfl (HO1.out.below ((Below.refl _ _).alloc (Nat.le_refl _) _)) _ _ _ [x] rfl rfl (fun e => by cases e) (eltInt.new _ _ _ _ rfl) (by simp; omega) (by have := HB1.out.size; simp; omega) ?_; intro v2 w2 ho2 hg2; have HB2 := Lib.hid (below_grown (HB1.out.alloc HB1.out.size _) (HO1.out.below ((Below.refl _ _).alloc (Nat.le_refl _) _)) (by have := HB1.out.size; simp; omega) hg2); have HO2 := Lib.hid ho2; clear ho2 hg2) | (at_builtin; refine appE eltInt rfl (.tmp 44) (.tmp 47) rfl w.heap.size _ _ rfl HO2.out _ _ _ (l.drop k) rfl (by simp) (fun e => by cases e) ((HR.out.below (HB2.out)).drop' k) (by simp; omega) HB2.out.size ?_; intro v3 w3 ho3 hg3; have HB3 := Lib.hid (below_grown HB2.out HO2.out HB2.out.size hg3); have HO3 := Lib.hid ho3; clear ho3 hg3))
          go_ret
          exact HO3.out.retSl (by rw [putL_mid l x _ HC.out hlt HE.out]; simp) HB3.out
      · have hkl : k = l.length := by omega
        have hle : k ≤ cap := by omega
        have hge : l.length ≤ k := by omega
        have HK := Lib.hid hkl; clear hkl
        go_wp2_with (first | (at_builtin; refine appE eltInt rfl (.tmp 35) (.tmp 38) rfl w.heap.size _ [] rfl (OwnR.nil _ _ _ _) _ _ _ (l.take k) rfl (len_take l _ (by omega)) (fun e => by cases e) (HR.out.take' k) (by simp; omega) (Nat.le_refl _) ?_; intro v1 w1 ho1 hg1; have HB1 := Lib.hid (below_grown (Below.refl _ _) (OwnR.nil _ _ 3 1) (Nat.le_refl _) hg1); have HO1 := Lib.hid ho1; clear ho1 hg1) | (at_builtin; refine appE eltInt rfl (.tmp 40) (.tmp 42) rfl w.heap.size _ _ rfl (HO1.out.below ((Below.refl _ _).alloc (Nat.le_refl _) _)) _ _ _ [x] rfl rfl (fun e => by cases e) (eltInt.new _ _ _ _ rfl) (by simp; omega) (by have := HB1.out.size; simp; omega) ?_; intro v2 w2 ho2 hg2; have HB2 := Lib.hid (below_grown (HB1.out.alloc HB1.out.size _) (HO1.out.below ((Below.refl _ _).alloc (Nat.le_refl _) _)) (by have := HB1.out.size; simp; omega) hg2); have HO2 := Lib.hid ho2; clear ho2 hg2) | (at_builtin; refine appE eltInt rfl (.tmp 44) (.tmp 47) rfl w.heap.size _ _ rfl HO2.out _ _ _ ([]) rfl rfl (fun e => by split at e <;> cases e) (SlAt.nil _ _ _) (by simp; omega) HB2.out.size ?_; intro v3 w3 ho3 hg3; have HB3 := Lib.hid (below_grown HB2.out HO2.out HB2.out.size hg3); have HO3 := Lib.hid ho3; clear ho3 hg3))

        all_goals go_ret
        all_goals exact HO3.out.retSl (by rw [putL_end l x (HC.out.trans HK.out), List.take_of_length_le (by have := HK.out; omega)]; simp) HB3.out
    · obtain ⟨_, _, e, c0⟩ := HR.out.get j hj
      cases e
      have hk1 : (k : Int) - 1 = (j : Int) := by omega
      have hk0 : 0 < k := by omega
      clear hkj
      by_cases hlt : k < l.length
      · obtain ⟨_, _, e, d0⟩ := HR.out.get k hlt
        cases e
        have hkc : k < cap := by omega
        by_cases heq : l[k] = x
        · have hb : (l[k] == x) = true := by simpa using heq
          have HE := Lib.hid heq; clear heq
          go_wp2
          go_ret
          refine ⟨_, cap, ret_sl (by rw [List.length_map, putL_hit l x _ HC.out hlt HE.out]), ?_, ?_, Below.refl _ _⟩
          · rw [List.length_map, putL_hit l x _ HC.out hlt HE.out]; exact HS.out
          · rw [putL_hit l x _ HC.out hlt HE.out]; exact HR.out
        · have hb : (l[k] == x) = false := by simpa using heq
          have HE := Lib.hid heq; clear heq
          go_wp2_with (first | (at_builtin; refine appE eltInt rfl (.tmp 35) (.tmp 38) rfl w.heap.size _ [] rfl (OwnR.nil _ _ _ _) _ _ _ (l.take k) rfl (len_take l _ (by omega)) (fun e => by cases e) (HR.out.take' k) (by simp; omega) (Nat.le_refl _) ?_; intro v1 w1 ho1 hg1; have HB1 := Lib.hid (below_grown (Below.refl _ _) (OwnR.nil _ _ 3 1) (Nat.le_refl _) hg1); have HO1 := Lib.hid ho1; clear ho1 hg1) | (at_builtin; refine appE eltInt rfl (.tmp 40) (.tmp 42) rfl w.heap.size _ _ rfl (HO1.out.below ((Below.refl _ _).alloc (Nat.le_refl _) _)) _ _ _ [x] rfl rfl (fun e => by cases e) (eltInt.new _ _ _ _ rfl) (by simp; omega) (by have := HB1.out.size; simp; omega) ?_; intro v2 w2 ho2 hg2; have HB2 := Lib.hid (below_grown (HB1.out.alloc HB1.out.size _) (HO1.out.below ((Below.refl _ _).alloc (Nat.le_refl _) _)) (by have := HB1.out.size; simp; omega) hg2); have HO2 := Lib.hid ho2; clear ho2 hg2) | (at_builtin; refine appE eltInt rfl (.tmp 44) (.tmp 47) rfl w.heap.size _ _ rfl HO2.out _ _ _ (l.drop k) rfl (by simp) (fun e => by cases e) ((HR.out.below (HB2.out)).drop' k) (by simp; omega) HB2.out.size ?_; intro v3 w3 ho3 hg3; have HB3 := Lib.hid (below_grown HB2.out HO2.out HB2.out.size hg3); have HO3 := Lib.hid ho3; clear ho3 hg3))
          go_ret
          exact HO3.out.retSl (by rw [putL_mid l x _ HC.out hlt HE.out]; simp) HB3.out
      · have hkl : k = l.length := by omega
        have hle : k ≤ cap := by omega
        have hge : l.length ≤ k := by omega
        have HK := Lib.hid hkl; clear hkl
        go_wp2_with (first | (at_builtin; refine appE eltInt rfl (.tmp 35) (.tmp 38) rfl w.heap.size _ [] rfl (OwnR.nil _ _ _ _) _ _ _ (l.take k) rfl (len_take l _ (by omega)) (fun e => by cases e) (HR.out.take' k) (by simp; omega) (Nat.le_refl _) ?_; intro v1 w1 ho1 hg1; have HB1 := Lib.hid (below_grown (Below.refl _ _) (OwnR.nil _ _ 3 1) (Nat.le_refl _) hg1); have HO1 := Lib.hid ho1; clear ho1 hg1) | (at_builtin; refine appE eltInt rfl (.tmp 40) (.tmp 42) rfl w.heap.size _ _ rfl (HO1.out.below ((Below.refl _ _).alloc (Nat.le_refl _) _)) _ _ _ [x] rfl rfl (fun e => by cases e) (eltInt.new _ _ _ _ rfl) (by simp; omega) (by have := HB1.out.size; simp; omega) ?_; intro v2 w2 ho2 hg2; have HB2 := Lib.hid (below_grown (HB1.out.alloc HB1.out.size _) (HO1.out.below ((Below.refl _ _).alloc (Nat.le_refl _) _)) (by have := HB1.out.size; simp; omega) hg2); have HO2 := Lib.hid ho2; clear ho2 hg2) | (at_builtin; refine appE eltInt rfl (.tmp 44) (.tmp 47) rfl w.heap.size _ _ rfl HO2.out _ _ _ ([]) rfl rfl (fun e => by split at e <;> cases e) (SlAt.nil _ _ _) (by simp; omega) HB2.out.size ?_; intro v3 w3 ho3 hg3; have HB3 := Lib.hid (below_grown HB2.out HO2.out HB2.out.size hg3); have HO3 := Lib.hid ho3; clear ho3 hg3))

        all_goals go_ret
        all_goals exact HO3.out.retSl (by rw [putL_end l x (HC.out.trans HK.out), List.take_of_length_le (by have := HK.out; omega)]; simp) HB3.out

end Go.Proofs.Ytokhligpjbdhcaa
