import Derived.Test.YtajijcfikihhjaaGreatDoorAAY
set_option linter.unusedSimpArgs false
set_option linter.unusedVariables false
set_option maxRecDepth 100000
set_option maxHeartbeats 16000000
namespace Go.Proofs.YtajijcfikihhjaaGreatDoor
open Go.RowKit Go.Sort Go.Maps Go.Shelf
theorem drop_any (key : Value) (v stand : Int) (bx : Nat) (W : World) (hx : W.cell? ⟨bx, 0, none⟩ = some (.int .i64 stand)) :
  Calls Tryz.prog 83 (#[key, .int .i64 v] ++ #[.pointer (some ⟨bx, 0, none⟩)]) W fun e w' => e = .returned (.bool (decide (v ≠ stand))) ∧ w' = W := by
 go_enter Tryz.func83, Tryz.ntmps83
 go_wp2
 go_ret
 exact ⟨Qf (by by_cases e : v = stand <;> simp [e]), rfl⟩
theorem sortsA (m : Nat) : AnyZI.SortsIn Tryz.prog Lay.sortedA_ren Fence.wide m :=
 ⟨fun blk off cap ss W hH hblk hsz => callsIn_wide.2 (AnyM.slices_Sort_int Lay.sortA blk off cap ss W hH hblk hsz),
  fun p cap W => callsIn_wide.2 (AnyM.slices_Sort_int_none Lay.sortA p cap W)⟩
theorem keysA_in (mb : Option Nat) (W : World) : CallsIn Fence.wide 5 Tryz.prog 85 #[.map mb] W fun e w' => e = .returned (.func (.func 123) #[] #[.pointer (some ⟨W.heap.size, 0, none⟩)]) ∧ w' = W.alloc (.cells #[.map mb] 93) :=
 AnyZI.keys_in Lay.keysA Fence.wide 5 trivial rfl mb W
theorem sortedKeys_in {H : Type} (b nn : Nat) (D0 : DataW H) (R : Value → Option (DataW H × List MemPlace)) (w : World) (hown : w.ownsMap Tryz.prog 3 R b nn D0) (hmax : Maps.size D0 ≤ maxLen) (hbytes : Maps.size D0 * 8 ≤ 140737488355328) :
  CallsIn Fence.wide 5 Tryz.prog 84 #[.func (.func 123) #[] #[.pointer (some ⟨w.heap.size, 0, none⟩)]] (w.alloc (.cells #[.map (some b)] 93)) fun e w' => ∃ (v : Value) (ss : List Int), e = .returned v ∧ ss.Perm (intKeys D0) ∧
   w'.ownsRow (w.alloc (.cells #[.map (some b)] 93)).heap.size 3 1 v ss.length ((ss.mergeSort (fun x y => decide (x ≤ y))).map encZ) ∧ (v = .slice none 0 0 ↔ ss = []) ∧ Below (w.alloc (.cells #[.map (some b)] 93)).heap.size (w.alloc (.cells #[.map (some b)] 93)) w' := by
 have hbl := hown.lt
 have hseq : SeqGives Fence.wide 2 Tryz.prog 123 #[.pointer (some ⟨w.heap.size, 0, none⟩)] encZ (fun ss => ss.Perm (intKeys D0)) (Maps.size D0) (w.alloc (.cells #[.map (some b)] 93)) :=
  AnyZI.keys_gives (ρ := Lay.keysA_ren) { Lay.keysA with } Fence.wide _ trivial rfl (by omega) w.heap.size b nn D0 _ (by simp) (by simp) (by
   obtain ⟨es, clock, hb, Ft, hs, hD⟩ := hown
   exact ⟨es, clock, (Below.heap_alloc _ _ b hbl).trans hb, Ft, hs, hD⟩)
 exact AnyZI.sorted_in Lay.sortedA Fence.wide 5 trivial trivial trivial trivial rfl (by omega) (sortsA _) (enters_of Tryz.func122 (by kernel_rfl) rfl) 123 #[.pointer (some ⟨w.heap.size, 0, none⟩)] trivial (enters_of Tryz.func123 (by kernel_rfl) rfl) _ _ hmax hbytes _ hseq
theorem keyedI : Keyed Tryz.prog 3 := int_keyed Tryz.underlying3
theorem dropped_any (b n bx : Nat) (ds : List (Lit × DataW Unit)) (stand : Int) (w : World) (hown : w.ownsMap Tryz.prog 3 (plainElem Tryz.prog 3) b n (.map ds)) (hx : w.cell? ⟨bx, 0, none⟩ = some (.int .i64 stand)) (hne : bx ≠ b) :
  Calls Tryz.prog 82 #[.map (some b), .func (.func 83) #[] #[.pointer (some ⟨bx, 0, none⟩)]] w fun e w' => e = .returned (.tuple #[]) ∧ w'.ownsMap Tryz.prog 3 (plainElem Tryz.prog 3) b n (Lib.deleteFuncD (Qae stand) (.map ds)) ∧ w.grownBy w' (some b) :=
 AnyDf.maps_DeleteFunc Lay.delA keyedI (plainElem Tryz.prog 3) (Qae stand) 83 _ b n _ w (enters_of Tryz.func83 (by kernel_rfl) rfl) hown (fun W key val kl yd yp hgW _ hv => by
  obtain ⟨c, rfl, hy, _⟩ := plainElem_int_inv Tryz.underlying3 hv
  obtain rfl : yd = .lit (.int .i64 c) := by simpa using (congrArg Prod.fst hy)
  exact (drop_any key c stand bx W (hgW.cell hx (fun e => hne (Option.some.inj e)))).mono fun _ _ ⟨he, hw⟩ => ⟨he, hw ▸ World.grownBy.refl _ _⟩)
theorem isInts_of_row {w : World} {B : Nat} {v : Value} {l : List Int} (h : w.ownsRow B 3 1 v l.length (l.map encZ)) : IsInts w v l := by
 have ho : OwnR w B 3 1 v (l.map inRow) := by
  refine ⟨fun r hr => ?_, ?_⟩
  ·obtain ⟨x, _, rfl⟩ := List.mem_map.1 hr; rfl
  ·rw [List.length_map]
   have e : (l.map inRow).flatten = l.map encZ := by
    clear h
    induction l with
    | nil => rfl
    | cons x l ih => simp [inRow, ih]
   rw [e]; exact h
 obtain ⟨a, cap, rfl, h1, h2⟩ := ho.slAt
 rw [List.length_map] at h1 ⊢
 exact ⟨a, cap, rfl, h1, h2⟩
theorem PHeld_any (a : Option Addr) (n cap : Nat) (l : List Lo) (stand time : Int) (w : World) (hn : n = l.length) (hl : n ≤ 1000000) (hr : LoAt w a l) :
  Calls Tryz.prog 52 #[.slice a n cap, .int .i64 stand, .int .i64 time] w (RetSlI 1 ((Qaj l stand time).1.map inRow) (Qaj l stand time).2 w) := by
 subst hn
 have HL := Qa hl; clear hl
 refine (callsIn_wide (n := 6)).1 ?_
 have hf1 : Fence.wide.fn 45 := trivial
 have hf2 : Fence.wide.fn 46 := trivial
 have hf3 : Fence.wide.fn 47 := trivial
 have hf4 : Fence.wide.fn 48 := trivial
 have hf5 : Fence.wide.fn 82 := trivial
 have hf6 : Fence.wide.fn 85 := trivial
 have hf7 : Fence.wide.fn 84 := trivial
 refine callsIn_of_wp Tryz.func52 rfl trivial ?_ rfl
 simp only [Tryz.ntmps52, List.size_toArray, List.length_cons, List.length_nil, Nat.reduceAdd, Nat.reduceSub, Array.replicate_succ, Array.replicate_zero, List.push_toArray, List.append_toArray, List.nil_append, List.cons_append]
 gi_wp2_with (first | (gi_at_call 45; refine (callsIn_wide.2 (Qas _ _ _ l _ rfl HL.out (hr.alloc _))).mono ?_; rintro e w1 ⟨rfl, hb⟩; have HX1 := Qa (box_below hb); have hc1 := Qb HX1.out; have HB1 := Qa (((Below.refl _ _).alloc (Nat.le_refl _) _).trans (hb.mono (by simp))); clear hb) | (gi_at_call 46; refine (callsIn_wide.2 (Ua _ _)).mono ?_; rintro e w' ⟨rfl, rfl⟩) | (gi_at_call 47; refine (callsIn_wide.2 (Qar _ _)).mono ?_; rintro e w' ⟨rfl, rfl⟩) | (gi_at_call 48; refine (callsIn_wide.2 (at_any _ _ _ l _ _ rfl HL.out (hr.below HB1.out))).mono ?_; rintro e w2 ⟨ra, rb, rfl, hz, hb2, hra, hrb⟩; have HZ := Qa hz; have HX2 := bk HX1 hb2; have HB2 := bu HB1 hb2; clear hz hb2))
 all_goals try
  (go_ret2
   go_tidy
   have e : Qaj l stand time = ([], 1) := by simp_all [Qaj]
   rw [e]
   exact RetSlI.none HB1.out)
 have hv : QP l = true := by assumption
 have hst : inB stand 1 1000000 = true := by assumption
 have htm : inB time 0 1000000000 = true := Uu (by assumption)
 have hst1 : 1 ≤ stand := by have := hst; simp [inB] at this; omega
 have HE := Qa (show Qaj l stand time = (Qag (upTo l time) stand (upTo l time).length, 0) by simp [Qaj, hv, hst, htm])
 have hnd := HZ.out.1.nodup
 have hwf := hm_wf hv time hnd
 have hlen : (shOf (upTo l time)).hm.length ≤ 1000000 := Nat.le_trans (shOf_len _) (Nat.le_trans (U1 l time) HL.out)
 have hma := HZ.out.1.below ((Below.refl _ _).alloc (Nat.le_refl _) (.cells #[.map (some ra), .map (some rb)] 95))
 obtain ⟨ds, hown, hperm⟩ := mapOwn Tryz.underlying3 Tryz.underlying3 hma hwf (Nat.le_trans hlen (by decide))
 have hralt : ra < w2.heap.size := by obtain ⟨_, _, g, _⟩ := HZ.out.1.ex; exact lt_of_block g
 have hxlt := lt_of_block HX1.out
 have hx := Qb (Qj HX2.out (.cells #[.map (some ra), .map (some rb)] 95)) 0
 refine (callsIn_wide.2 (dropped_any ra _ w.heap.size ds stand _ hown hx (by omega))).mono ?_
 rintro e w3 ⟨rfl, hown3, hg3⟩
 have HS3 := Qa ((hg3.block w2.heap.size (by simp) (fun e => by cases e; omega)).trans (heap_alloc_new w2 (.cells #[.map (some ra), .map (some rb)] 95)))
 have hc3 := Qb HS3.out
 have HB3 := Qa (((HB2.out.alloc HB2.out.size _).grown hg3 (by have := HB2.out.size; simp; omega) (fun k hk => by cases hk; have := HB1.out.size; omega)))
 have HO3 := Qa hown3
 have HM := Qa hnd; have HW := Qa hwf; have HP := Qa hperm
 have hdl : ds.length ≤ 1000000 := by have := hperm.length_eq; rw [List.length_map] at this; omega
 have hmx : Maps.size (Lib.deleteFuncD (Qae stand) (.map ds)) ≤ 1000000 := Nat.le_trans (List.length_filter_le _ _) hdl
 clear hown hown3 hg3 hperm hwf hnd hma hx hc1
 gi_wp2_with (first | (gi_at_call 85; refine (keysA_in _ _).mono ?_; rintro e w4 ⟨rfl, rfl⟩) | (gi_at_call 84; refine (sortedKeys_in ra _ _ _ w3 HO3.out (Nat.le_trans hmx (by decide)) (by omega)).mono ?_; rintro e w5 ⟨v, ss, rfl, hS, hrow, hnil, hb5⟩))
 go_ret2
 obtain ⟨k1, k2⟩ := kept_keys HM.out HW.out stand HP.out hS
 have hk := held_keys hv stand time hst1 ss k1 k2
 rw [HE.out]
 have hlen2 : ss.length = (Qag (upTo l time) stand (upTo l time).length).length := by rw [← hk, List.length_mergeSort]
 have hrow2 : w5.ownsRow (w3.alloc (.cells #[.map (some ra)] 93)).heap.size 3 1 v (Qag (upTo l time) stand (upTo l time).length).length ((Qag (upTo l time) stand (upTo l time).length).map encZ) := by rw [← hlen2, ← hk]; exact hrow
 exact (isInts_of_row hrow2).ret ((HB3.out.alloc HB3.out.size _).trans (hb5.mono (by have := HB3.out.size; simp; omega)))
end Go.Proofs.YtajijcfikihhjaaGreatDoor
