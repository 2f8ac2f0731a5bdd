/- The reference's search for a column of a row (place), walked: a row of cells with room, what the search has done; the conditions are named in each. -/
import Derived.Test.YtkpgphadgomifaaMatchRaise0
namespace Go.Proofs.Ytkpgphadgomifaa
set_option linter.unusedSimpArgs false
set_option linter.unusedVariables false
open Go.RowKit Go.Sort Go.Shelf

theorem keepD {w w' : World} {p : Addr} {v : Value} (h : w.cell? p = some v) (hb : Below w.heap.size w w') : w'.cell? p = some v := (by
  have hp : p.block < w.heap.size := by
    unfold World.cell? at h
    rcases Nat.lt_or_ge p.block w.heap.size with h1 | h1
    · exact h1
    · rw [Array.getElem?_eq_none h1] at h; cases h
  rw [hb.cell hp]; exact h)
/-- Block b holds integers, cell k below n holds f k; there may be more room. -/
def RowC (w : World) (b n : Nat) (f : Nat → Int) : Prop := ∃ arr : Array Value, w.heap[b]? = some (.cells arr 3 (0, 0)) ∧ n ≤ arr.size ∧ ∀ k, k < n → arr[k]? = some (.int .i64 (f k))
theorem RowC.lt {w : World} {b n : Nat} {f : Nat → Int} (r : RowC w b n f) : b < w.heap.size := by obtain ⟨arr, e, _⟩ := r; exact lt_blk e
theorem RowC.of_eq {w w' : World} {b n : Nat} {f : Nat → Int} (r : RowC w b n f) (e : w'.heap[b]? = w.heap[b]?) : RowC w' b n f := by
  obtain ⟨arr, h1, h2⟩ := r
  exact ⟨arr, e.trans h1, h2⟩
theorem RowC.below {w w' : World} {b n : Nat} {f : Nat → Int} (r : RowC w b n f) (hb : Below w.heap.size w w') : RowC w' b n f := r.of_eq (hb.block b r.lt)
theorem RowC.cell {w : World} {b n : Nat} {f : Nat → Int} (r : RowC w b n f) {k : Nat} (hk : k < n) : w.cell? ⟨b, k, none⟩ = some (.int .i64 (f k)) := by
  obtain ⟨arr, e, _, g⟩ := r
  simp [World.cell?, e, g k hk]
theorem RowC.free {w : World} {b n : Nat} {f : Nat → Int} (r : RowC w b n f) (k : Nat) : w.frozen? ⟨b, k, none⟩ = false := by
  obtain ⟨arr, e, _, g⟩ := r
  simp [World.frozen?, e]
theorem RowC.set {w : World} {b n : Nat} {f : Nat → Int} (r : RowC w b n f) {k : Nat} (hk : k < n) (v : Int) : RowC (w.setCell ⟨b, k, none⟩ (.int .i64 v)) b n (upd f k v) := by
  obtain ⟨arr, h1, h2, h3⟩ := r
  refine ⟨arr.setIfInBounds k (.int .i64 v), heap_setCell_same _ _ _ _ _ _ h1, by simpa using h2, fun j hj => ?_⟩
  by_cases e : j = k
  · subst e; rw [upd_same]; simp [show j < arr.size by omega]
  · rw [upd_ne _ _ e, ← h3 j hj]
    rw [Array.getElem?_setIfInBounds_ne (by omega)]
theorem RowC.other {w : World} {b n c k : Nat} {f : Nat → Int} (r : RowC w b n f) (hne : b ≠ c) (v : Value) : RowC (w.setCell ⟨c, k, none⟩ v) b n f :=
  r.of_eq (heap_setCell_other _ _ _ _ (show _ ≠ _ by simpa using hne))
theorem RowC.congr {w : World} {b n : Nat} {f g : Nat → Int} (r : RowC w b n f) (e : ∀ k, k < n → f k = g k) : RowC w b n g := by
  obtain ⟨arr, h1, h2, h3⟩ := r
  exact ⟨arr, h1, h2, fun k hk => by rw [h3 k hk, e k hk]⟩
theorem RowC.of_own {w : World} {B n : Nat} {v : Value} {f : Nat → Int} (o : OwnR w B 3 1 v (((List.range n).map f).map inRow)) (hn : n ≠ 0) : ∃ g cap, v = .slice (some ⟨g, 0, none⟩) n cap ∧ B ≤ g ∧ n ≤ cap ∧ RowC w g n f := by
  have hne : (List.range n).map f ≠ [] := by simpa using hn
  obtain ⟨_, hl, h2⟩ := o
  rcases h2 with ⟨rfl, h⟩ | ⟨g, cap, cur, rfl, hg, hc, hle, h4, h5, h6⟩
  · simp at h; omega
  · have hlen : (((List.range n).map f).map inRow).length = n := by simp
    refine ⟨g, cap, by rw [hlen], hg, by rw [hlen] at hle; exact hle, cur, hc, ?_, fun j hj => ?_⟩
    · have := congrArg List.length h6
      rw [List.length_take, List.length_flatten] at this
      simp [inRow, Function.comp_def] at this
      simp at hle
      have h7 : ((List.map (fun _ => 1) (List.range n)).sum : Nat) = n := by
        rw [List.map_const', List.sum_replicate_nat]; simp
      omega
    · have e := flat_get (((List.range n).map f).map inRow) 1 (fun r hr => by obtain ⟨x, _, rfl⟩ := List.mem_map.1 hr; rfl) j 0 (inRow (f j)) (.int .i64 (f j)) (by simp [hj]) rfl
      rw [← h6, Nat.mul_one, Nat.add_zero, List.getElem?_take] at e
      split at e
      · simpa using e
      · cases e
theorem below_set {B : Nat} {w w' : World} (hb : Below B w w') {p : Addr} (hp : B ≤ p.block) (v : Value) : Below B w (w'.setCell p v) := ((KeepB.of_below' (S := []) hb).set (.inr hp) v).below
/-- Who is named as an owner is a row. -/
def PV (c : List (List Int)) (ow : Nat → Int) : Prop := ∀ k, k < wideL c → ow k = -1 ∨ ∃ i : Nat, ow k = i ∧ i < c.length
theorem PV.put {c : List (List Int)} {ow : Nat → Int} (v : PV c ow) {k r : Nat} (hr : r < c.length) : PV c (upd ow k (r : Int)) := fun j hj => by
  by_cases e : j = k
  · subst e; exact .inr ⟨r, upd_same _ _ _, hr⟩
  · rw [upd_ne _ _ e]; exact v j hj
/-- The search's variables in memory: all lies above the blocks of w0. -/
structure PSt (w0 : World) (n b bs : Nat) (w : World) (ow : Nat → Int) (seen : Nat → Bool) : Prop where
  hb : Below w0.heap.size w0 w
  ro : RowC w b n ow
  rs : RowAt w bs n 4 (fun k => .bool (seen k))
theorem PSt.below {w0 w w' : World} {n b bs : Nat} {ow : Nat → Int} {seen : Nat → Bool} (p : PSt w0 n b bs w ow seen) (hb : Below w.heap.size w w') : PSt w0 n b bs w' ow seen :=
  ⟨p.hb.trans (hb.mono p.hb.size), p.ro.below hb, p.rs.below hb⟩
theorem PSt.seen {w0 w : World} {n b bs : Nat} {ow : Nat → Int} {seen : Nat → Bool} (p : PSt w0 n b bs w ow seen) (h1 : w0.heap.size ≤ bs) (h2 : b ≠ bs) {k : Nat} (hk : k < n) : PSt w0 n b bs (w.setCell ⟨bs, k, none⟩ (.bool true)) ow (upd seen k true) :=
  ⟨below_set p.hb h1 _, p.ro.other h2 _, (p.rs.set hk (.bool true)).congr fun j hj => by
    by_cases e : j = k
    · subst e; simp [upd_same]
    · simp [upd_ne _ _ e]⟩
theorem PSt.give {w0 w : World} {n b bs : Nat} {ow : Nat → Int} {seen : Nat → Bool} (p : PSt w0 n b bs w ow seen) (h1 : w0.heap.size ≤ b) (h2 : b ≠ bs) {k : Nat} (hk : k < n) (r : Int) : PSt w0 n b bs (w.setCell ⟨b, k, none⟩ (.int .i64 r)) (upd ow k r) seen :=
  ⟨below_set p.hb h1 _, p.ro.set hk r, p.rs.other (Ne.symm h2) _⟩
theorem cnt_mono {s s' : Nat → Bool} (h : ∀ k, s k = true → s' k = true) (n : Nat) : cnt s' n ≤ cnt s n := by
  induction n with
  | zero => exact Nat.le_refl _
  | succ n ih =>
    unfold cnt
    cases e : s n
    · simp; split <;> omega
    · rw [h n e]; simpa using ih
theorem No.cnt {can : Nat → Nat → Bool} {n : Nat} {ow : Nat → Int} {seen seen' : Nat → Bool} {r j : Nat} {ks : List Nat} (h : No can n ow seen seen' r j ks) (m : Nat) : cnt seen' m ≤ cnt seen m :=
  cnt_mono (fun k hk => (h.seen k).2 (.inl hk)) m
/-- What a search from r has done. -/
def PlacePost (w0 : World) (c : List (List Int)) (b bs r : Nat) (ow : Nat → Int) (seen : Nat → Bool) (e : Ending) (w' : World) : Prop :=
  ∃ (ok : Bool) (ow' : Nat → Int) (seen' : Nat → Bool), e = .returned (.bool ok) ∧ PSt w0 (wideL c) b bs w' ow' seen' ∧ PV c ow' ∧
    ((ok = true ∧ Yes (may (cc c)) (wideL c) seen r ow ow') ∨ (ok = false ∧ ow' = ow ∧ ∃ ks, No (may (cc c)) (wideL c) ow seen seen' r (wideL c) ks))
set_option maxRecDepth 100000 in
set_option maxHeartbeats 4000000 in
theorem place_any {w0 : World} {a : Option Addr} {cap : Nat} {c : List (List Int)} {b capb : Nat} (hm : MatAt w0 a c) (h1 : c.length ≤ 200 ∧ wideL c ≤ 200) (hf : ∀ l ∈ c, l.length = wideL c) (hb0 : w0.heap.size ≤ b) :
    ∀ (u r : Nat) (ow : Nat → Int) (seen : Nat → Bool) (bs : Nat) (w : World), cnt seen (wideL c) ≤ u → r < c.length → PV c ow →
    (∀ k, k < wideL c → seen k = false → 0 ≤ ow k → may (cc c) (ow k).toNat k = true) → w0.heap.size ≤ bs → b ≠ bs → PSt w0 (wideL c) b bs w ow seen →
    Calls Try.prog 50 #[.slice a c.length cap, .int .i64 r, .slice (some ⟨b, 0, none⟩) (wideL c) capb, .slice (some ⟨bs, 0, none⟩) (wideL c) (wideL c)] w (PlacePost w0 c b bs r ow seen) := by
  intro u
  induction u using Nat.strongRecOn with
  | _ u IH =>
  intro r ow seen bs w hu hr hv hcan hbs hne P
  obtain ⟨bc, oc, ai, ci, rfl, c0, hsk, hik⟩ := hm.get r hr
  have hlen := hf c[r] (List.getElem_mem _)
  rw [hlen] at c0
  have HI := Lib.hid IH; have HV := Lib.hid hv; have HC := Lib.hid hcan; have HU := Lib.hid hu; have HBS := Lib.hid hbs; have HNE := Lib.hid hne; have HB0 := Lib.hid hb0; have HIK := Lib.hid hik; have HL := Lib.hid hlen
  obtain ⟨h200, hw200⟩ := h1
  clear IH hv hcan hu hbs hne hm hf hb0 hsk hik hlen
  have HP := Lib.hid P; clear P
  generalize hn : wideL c = n at *
  have HN := Lib.hid hn; clear hn
  go_enter Try.func50, Try.ntmps50
  go_wp2
  go_loopw [9] (fun i wr => ∃ (j : Nat) (seen' : Nat → Bool) (ks : List Nat), j ≤ n ∧ i = .int .i64 j ∧ PSt w0 n b bs wr ow seen' ∧ No (may (cc c)) n ow seen seen' r j ks) (fun i _ => n - (intOf i).toNat)
  case atStart => exact ⟨0, seen, [], Nat.zero_le _, rfl, HP.out, No.start _ _ _ _ _⟩
  case round =>
    clear HP
    obtain ⟨j, seen', ks, hj, rfl, P, N⟩ := hrel
    have HP := Lib.hid P; have HNO := Lib.hid N
    clear P N
    by_cases hlt : j < n
    · obtain ⟨b3, o3, rfl, e0⟩ := HIK.out.get j (by have := HL.out; omega)
      have hmy := may_iff (cc c) r j
      rw [← cc_get hr (by have := HL.out; omega)] at e0
      generalize hN : cc c r j = X at *
      have HMY := Lib.hid hmy; clear hmy
      have HX := Lib.hid hN; clear hN
      cases hn : decide (X < 0)
      · cases hs : seen' j
        · have HS := Lib.hid hs; clear hs
          have HC2 := Lib.hid (HMY.out.2 (by simpa using hn))
          have g0 := keepD c0 HP.out.hb; have g1 := keepD e0 HP.out.hb; have g2 := HP.out.rs.cell hlt; have g3 := HP.out.ro.cell hlt; have fs := HP.out.rs.free j; have fo := HP.out.ro.free j
          simp only [HS.out] at g2
          have HP3 := Lib.hid (HP.out.seen HBS.out HNE.out hlt)
          have g4 := HP3.out.ro.cell hlt
          have fo4 := HP3.out.ro.free j
          have hcnt := cnt_upd seen' j n hlt HS.out
          have hcn := HNO.out.cnt n
          rcases HV.out j (by rw [HN.out]; exact hlt) with ho | ⟨i, ho, him⟩
          · rw [ho] at g4
            have HOj := Lib.hid ho; clear ho
            go_wp2
            go_ret
            exact ⟨true, upd ow j (r : Int), upd seen' j true, rfl, by rw [HN.out]; exact HP3.out.give HB0.out HNE.out hlt _, HV.out.put hr, .inl ⟨rfl, by rw [HN.out]; exact yes_free hlt (find_unseen HNO.out HS.out) HC2.out (by rw [HOj.out]; decide)⟩⟩
          · rw [ho] at g4
            have HOj := Lib.hid ho; clear ho
            have hng : decide ((i : Int) < 0) = false := by simp <;> omega
            go_wp2_with (fail)
            refine (HI.out (cnt (upd seen' j true) n) (by have := HU.out; omega) i ow (upd seen' j true) bs _ (Nat.le_refl _) him HV.out (fun k hk hsk ho => HC.out k hk (find_sub HNO.out hsk) ho) HBS.out HNE.out HP3.out).mono ?_
            rintro e w5 ⟨ok, ow', seen2, rfl, P5, V5, Y5⟩
            rw [HN.out] at P5 Y5
            clear g0 g1 g2 g3 fs fo g4 fo4 HP3
            clear HP
            have HP := Lib.hid P5
            have HV5 := Lib.hid V5
            clear P5 V5
            have g3 := HP.out.ro.cell hlt
            have fo := HP.out.ro.free j
            rcases Y5 with ⟨rfl, Y⟩ | ⟨rfl, rfl, ks2, N2⟩
            · have HY := Lib.hid Y; clear Y
              go_wp2
              go_ret
              exact ⟨true, upd ow' j (r : Int), seen2, rfl, by rw [HN.out]; exact HP.out.give HB0.out HNE.out hlt _, HV5.out.put hr, .inl ⟨rfl, by rw [HN.out]; exact yes_deep hlt (fun k hk => (HNO.out.seen k).2 (.inl hk)) HS.out HC2.out HOj.out HY.out⟩⟩
            · have HN2 := Lib.hid N2; clear N2
              go_wp2
              go_roundw
              case rel => exact ⟨j + 1, seen2, ks ++ j :: ks2, by omega, by go_num, HP.out, HNO.out.deep hlt HS.out HC2.out HOj.out HC.out HN2.out⟩
              case measure => simp [intOf]; omega
        · have HS := Lib.hid hs; clear hs
          have g0 := keepD c0 HP.out.hb; have g1 := keepD e0 HP.out.hb; have g2 := HP.out.rs.cell hlt; have g3 := HP.out.ro.cell hlt; have fs := HP.out.rs.free j; have fo := HP.out.ro.free j
          simp only [HS.out] at g2
          go_wp2
          go_roundw
          case rel => exact ⟨j + 1, seen', ks, by omega, by go_num, HP.out, HNO.out.skip (.inl HS.out)⟩
          case measure => simp [intOf]; omega
      · have HC2 := Lib.hid (show may (cc c) r j = false by
          cases q : may (cc c) r j
          · rfl
          · have := HMY.out.1 q
            simp at hn; omega)
        have g0 := keepD c0 HP.out.hb; have g1 := keepD e0 HP.out.hb; have g2 := HP.out.rs.cell hlt; have g3 := HP.out.ro.cell hlt; have fs := HP.out.rs.free j; have fo := HP.out.ro.free j
        go_wp2
        go_roundw
        case rel => exact ⟨j + 1, seen', ks, by omega, by go_num, HP.out, HNO.out.skip (.inr HC2.out)⟩
        case measure => simp [intOf]; omega
    · have hjn : j = n := by omega
      have HJ := Lib.hid hjn; clear hjn
      go_wp2
      go_ret
      exact ⟨false, ow, seen', rfl, by rw [HN.out]; exact HP.out, HV.out, .inr ⟨rfl, rfl, ks, by rw [HN.out]; exact HJ.out ▸ HNO.out⟩⟩
end Go.Proofs.Ytkpgphadgomifaa
