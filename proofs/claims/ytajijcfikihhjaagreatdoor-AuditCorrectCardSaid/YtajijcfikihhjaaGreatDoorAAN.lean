import Derived.Test.YtajijcfikihhjaaGreatDoorAAM
import Derived.Shelf.Strconv.Itoa3
import Derived.Shelf.LaysC
set_option linter.unusedSimpArgs false
set_option linter.unusedVariables false
set_option maxRecDepth 100000
set_option maxHeartbeats 16000000
namespace Go.Proofs.YtajijcfikihhjaaGreatDoor
open Go.RowKit Go.Sort Go.Shelf
def byRow (x : Int) : List Value := [.int .u8 x]
def ByAt (w : World) (a : Option Addr) (l : List Int) : Prop := SlAt w a 1 (l.map byRow)
theorem ByAt.get {w : World} {a : Option Addr} {l : List Int} (h : ByAt w a l) (i : Nat) (hi : i < l.length) : ∃ b off, a = some ⟨b, off, none⟩ ∧ w.cell? ⟨b, off + i, none⟩ = some (.int .u8 l[i]) := by
 obtain ⟨b, off, e, _, _, hc⟩ := h i (byRow l[i]) (by simp [hi])
 refine ⟨b, off, e, ?_⟩
 have := hc 0 _ rfl
 rwa [Nat.mul_one, Nat.add_zero] at this
def fnv (d x : Int) : Int := IntKind.u64.wrap (bits BinOp.xor IntKind.u64 d (IntKind.u64.wrap x) * 1099511628211)
def QQ (d : Int) (xs : List Int) : Int := xs.foldl fnv d
theorem hashL_snoc (d : Int) (xs : List Int) (x : Int) : QQ d (xs ++ [x]) = fnv (QQ d xs) x := by simp [QQ, List.foldl_append]
theorem Z2 (d : Int) (xs ys : List Int) : QQ d (xs ++ ys) = QQ (QQ d xs) ys := by simp [QQ, List.foldl_append]
theorem J3 (b : Nat) (d : Int) (a : Option Addr) (cap : Nat) (xs : List Int) (w : World) (hl : xs.length ≤ 1000) (hb : w.heap[b]? = some (.cells #[.int .u64 (d)] 42)) (hg : ByAt w a xs) (hne : ∀ ad, a = some ad → ad.block ≠ b) :
  Calls Tryz.prog 194 #[.slice a xs.length cap, .pointer (some ⟨b, 0, none⟩)] w fun e w' => (∃ v, e = .returned v) ∧ w'.heap[b]? = some (.cells #[.int .u64 (QQ d xs)] 42) ∧ KeepB w.heap.size [b] w w' := by
 have hlb := Qd hb
 have HX := Qa hb; have HG := Qa hg
 clear hb hg
 go_enter Tryz.func194, Tryz.ntmps194
 go_wp2
 go_loopw [4, 7] (fun _ t7 wr => ∃ k : Nat, k ≤ xs.length ∧ t7 = .int .i64 k ∧ wr.heap[b]? = some (.cells #[.int .u64 (QQ d (xs.take k))] 42) ∧ KeepB w.heap.size [b] w wr) (fun _ t7 _ => xs.length - (intOf t7).toNat)
 case atStart => exact ⟨0, Nat.zero_le _, rfl, HX.out, KeepB.refl _ _ _⟩
 case round =>
  obtain ⟨k, hk, rfl, hx, hkb⟩ := hrel
  have hc := Qb hx; have hf := Qe hx; have hz := Qd hx
  by_cases hlt : k < xs.length
  ·obtain ⟨g, off, ea, d0⟩ := ByAt.get (SlAt.keepB HG.out hkb (fun ad e => by rw [List.mem_singleton]; exact hne ad e)) k hlt
   have hki : (k : Int) < (xs.length : Int) := by omega
   have hwk : IntKind.i64.wrap ((k : Int) + 1) = (k : Int) + 1 := IntWalk.i64_in _ (by omega)
   subst ea
   have HS := Qa (show QQ d (xs.take (k + 1)) = fnv (QQ d (xs.take k)) xs[k] by rw [List.take_succ_eq_append_getElem hlt, hashL_snoc])
   generalize xs[k] = x at *
   generalize QQ d (xs.take k) = D at *
   have HFv := Qa (show fnv D x = IntKind.u64.wrap (bits BinOp.xor IntKind.u64 D (IntKind.u64.wrap x) * 1099511628211) from rfl)
   have hx2 := heap_setCell_same _ b 0 _ _ (.int .u64 (fnv D x)) hx
   have hk2 := hkb.set (p := ⟨b, 0, none⟩) (.inl (List.mem_singleton.2 rfl)) (.int .u64 (fnv D x))
   rw [HFv.out] at hx2 hk2 HS
   go_wp2
   exact ⟨⟨k + 1, by omega, by go_num, by rw [HS.out]; exact hx2, hk2⟩, by simp [intOf]; omega⟩
  ·obtain rfl : k = xs.length := by omega
   rw [List.take_length] at hx
   go_wp2
   go_end0
   exact ⟨⟨_, rfl⟩, hx, hkb⟩
theorem run2_any (b : Nat) (d : Int) (w : World) (hb : w.heap[b]? = some (.cells #[.int .u64 (d)] 42)) :
  Calls Tryz.prog 195 #[.pointer (some ⟨b, 0, none⟩)] w fun e w' => e = .returned (.int .u64 d) ∧ w' = w := by
 have hc := Qb hb
 go_enter Tryz.func195, Tryz.ntmps195
 go_wp2
 go_ret
 exact ⟨rfl, rfl⟩
theorem run0_any (w : World) :
  Calls Tryz.prog 151 #[] w fun e w' => e = .returned (.tuple #[.func (.func 194) #[] #[.pointer (some ⟨w.heap.size, 0, none⟩)], .func (.func 195) #[] #[.pointer (some ⟨w.heap.size, 0, none⟩)]]) ∧ w' = w.alloc (.cells #[.int .u64 (14695981039346656037)] 42) := by
 go_enter Tryz.func151, Tryz.ntmps151
 go_wp2
 refine bodyPost_ret (results_tmp2 rfl _ _ _) rfl ?_
 exact ⟨rfl, rfl⟩
open Go.Shelf
def Lay.pM171_ren : Go.Shelf.Ren := ⟨fun | 171 => 152 | 243 => 196 | 246 => 225 | 283 => 237 | 284 => 238 | 285 => 239 | 286 => 240 | 129 => 102 | 317 => 243 | 318 => 244 | 319 => 245 | 320 => 246 | 337 => 248 | 338 => 249 | n => n, fun | 3 => 3 | 9 => 9 | 2 => 2 | 4 => 4 | 171 => 299 | 0 => 0 | 53 => 42 | 37 => 272 | 5 => 5 | 173 => 301 | 212 => 306 | 51 => 197 | 20 => 20 | 213 => 307 | 46 => 146 | 232 => 308 | 233 => 309 | n => n, fun | 17 => 0 | 18 => 1 | 19 => 2 | n => n⟩
theorem Lay.pM171 : Go.Proofs.LaysM.n171 Tryz.prog Lay.pM171_ren := {
 mixed := by kernel_rfl
 f129 := Tryz.func102.trans (congrArg some (by kernel_rfl))
 f171 := Tryz.func152.trans (congrArg some (by kernel_rfl))
 f243 := Tryz.func196.trans (congrArg some (by kernel_rfl))
 f246 := Tryz.func225.trans (congrArg some (by kernel_rfl))
 f283 := Tryz.func237.trans (congrArg some (by kernel_rfl))
 f284 := Tryz.func238.trans (congrArg some (by kernel_rfl))
 f285 := Tryz.func239.trans (congrArg some (by kernel_rfl))
 f286 := Tryz.func240.trans (congrArg some (by kernel_rfl))
 f317 := Tryz.func243.trans (congrArg some (by kernel_rfl))
 f318 := Tryz.func244.trans (congrArg some (by kernel_rfl))
 f319 := Tryz.func245.trans (congrArg some (by kernel_rfl))
 f320 := Tryz.func246.trans (congrArg some (by kernel_rfl))
 f337 := Tryz.func248.trans (congrArg some (by kernel_rfl))
 f338 := Tryz.func249.trans (congrArg some (by kernel_rfl))
 t0 := Tryz.underlying0
 a0 := Tryz.isAgg0
 z0 := Tryz.sizeOf0
 v0 := Tryz.zeroValue0
 t2 := Tryz.underlying2
 a2 := Tryz.isAgg2
 z2 := Tryz.sizeOf2
 v2 := Tryz.zeroValue2
 t3 := Tryz.underlying3
 a3 := Tryz.isAgg3
 z3 := Tryz.sizeOf3
 v3 := Tryz.zeroValue3
 t4 := Tryz.underlying4
 a4 := Tryz.isAgg4
 z4 := Tryz.sizeOf4
 v4 := Tryz.zeroValue4
 t5 := Tryz.underlying5
 a5 := Tryz.isAgg5
 z5 := Tryz.sizeOf5
 v5 := Tryz.zeroValue5
 t9 := Tryz.underlying9
 a9 := Tryz.isAgg9
 z9 := Tryz.sizeOf9
 v9 := Tryz.zeroValue9
 t20 := Tryz.underlying20
 a20 := Tryz.isAgg20
 z20 := Tryz.sizeOf20
 v20 := Tryz.zeroValue20
 t37 := Tryz.underlying272
 a37 := Tryz.isAgg272
 z37 := Tryz.sizeOf272
 v37 := Tryz.zeroValue272
 t46 := Tryz.underlying146
 a46 := Tryz.isAgg146
 z46 := Tryz.sizeOf146
 v46 := Tryz.zeroValue146
 t51 := Tryz.underlying197
 a51 := Tryz.isAgg197
 z51 := Tryz.sizeOf197
 v51 := Tryz.zeroValue197
 t53 := Tryz.underlying42
 a53 := Tryz.isAgg42
 z53 := Tryz.sizeOf42
 v53 := Tryz.zeroValue42
 t171 := Tryz.underlying299
 a171 := Tryz.isAgg299
 z171 := Tryz.sizeOf299
 v171 := Tryz.zeroValue299
 t173 := Tryz.underlying301
 a173 := Tryz.isAgg301
 z173 := Tryz.sizeOf301
 v173 := Tryz.zeroValue301
 t212 := Tryz.underlying306
 a212 := Tryz.isAgg306
 z212 := Tryz.sizeOf306
 v212 := Tryz.zeroValue306
 t213 := Tryz.underlying307
 a213 := Tryz.isAgg307
 z213 := Tryz.sizeOf307
 t232 := Tryz.underlying308
 a232 := Tryz.isAgg308
 z232 := Tryz.sizeOf308
 v232 := Tryz.zeroValue308
 t233 := Tryz.underlying309
 a233 := Tryz.isAgg309
 z233 := Tryz.sizeOf309
 v233 := Tryz.zeroValue309
 g17 := by kernel_rfl
 g18 := by kernel_rfl
 g19 := by kernel_rfl
 i0 := by kernel_rfl
 i2 := by kernel_rfl
 i3 := by kernel_rfl
 i4 := by kernel_rfl
 i5 := by kernel_rfl
 i9 := by kernel_rfl
 i20 := by kernel_rfl
 i37 := by kernel_rfl
 i46 := by kernel_rfl
 i51 := by kernel_rfl
 i53 := by kernel_rfl
 i171 := by kernel_rfl
 i173 := by kernel_rfl
 i212 := by kernel_rfl
 i232 := by kernel_rfl
 i233 := by kernel_rfl
 m17 := by kernel_rfl
 m18 := by kernel_rfl
 m19 := by kernel_rfl }
abbrev ZK : Int := 14695981039346656037
theorem by1 {w : World} {g : Nat} {x : Int} (h : w.heap[g]? = some (.cells #[.int .u8 (x)] 5)) : ByAt w (some ⟨g, 0, none⟩) [x] := fun i r hr => by
 cases i with
 | zero =>
  simp only [List.map_cons, List.getElem?_cons_zero, Option.some.injEq] at hr
  subst hr
  refine ⟨g, 0, rfl, Qd h, rfl, fun j v hv => ?_⟩
  cases j with
  | zero => simp only [byRow, List.getElem?_cons_zero, Option.some.injEq] at hv; subst hv; exact (Qb h 0).trans rfl
  | succ j => simp [byRow] at hv
 | succ i => simp at hr
def powN : String := "internal/strconv.uint64pow10"
structure EnvP (w : World) : Prop where
 tab : Lib.TabIs Tryz.prog w powN .u64 Lib.pow10Tab
theorem powN_named : Tryz.prog.globalNamed powN = some 0 := by kernel_rfl
theorem varP_below {P : Program} {w w' : World} {n : String} {g : Nat} {cs : Array Value} (h : w.var? P n = some cs) (hg : P.globalNamed n = some g) (hb : Below w.heap.size w w') : w'.var? P n = some cs := by
 unfold World.var? at *
 rw [hg] at h ⊢
 simp only [Option.bind_some] at h ⊢
 have hlt : g < w.heap.size := by
  by_cases hlt : g < w.heap.size
  ·exact hlt
  ·rw [Array.getElem?_eq_none (by omega)] at h; cases h
 rw [hb.block g hlt]; exact h
theorem EnvP.below {w w' : World} (h : EnvP w) (hb : Below w.heap.size w w') : EnvP w' := ⟨varP_below h.tab powN_named hb⟩
theorem itoaP_any (n : Int) (w : World) (h0 : -9223372036854775808 ≤ n) (h1 : n ≤ 9223372036854775807) (hE : EnvP w) :
  Calls Tryz.prog 152 #[.int .i64 n] w fun e w' => e = .returned (.string ⟨(Lib.itoa n).toArray⟩) ∧ Below w.heap.size w w' := by
 refine (Any.strconv_Itoa Lay.pM171 n h0 h1 w hE.tab).mono ?_
 rintro e w' ⟨he, k, os, rfl⟩
 exact ⟨he, (below_drewN (Below.refl _ _) k).trans (below_regrown (w.drewN k) _ os)⟩
def topB (d : Int) (k : Nat) : Int := d / 2 ^ (56 - 8 * k) % 256
def topL (d : Int) (k : Nat) : List Int := (List.range k).map (topB d)
theorem topL_succ (d : Int) (k : Nat) : topL d (k + 1) = topL d k ++ [topB d k] := by simp [topL, List.range_succ]
def decL (n : Int) : List Int := (Lib.itoa n).map fun b => (b.toNat : Int)
def QV (l : List Int) : List Int := l.flatMap fun n => decL n ++ [32]
theorem wordsD_snoc (l : List Int) (n : Int) : QV (l ++ [n]) = QV l ++ (decL n ++ [32]) := by simp [QV]
def JP (d : Int) (l : List Int) : Int := QQ ZK (topL d 8 ++ QV l)
theorem dec_digit : ∀ (u : Nat), ∀ b ∈ Lib.decDigits u, 48 ≤ b.toNat ∧ b.toNat ≤ 57 := by
 intro u
 induction u using Nat.strongRecOn with
 | _ u ih =>
  intro b hb
  rw [Lib.decDigits] at hb
  split at hb
  ·simp only [List.mem_singleton] at hb
   subst hb
   rename_i h
   have : (UInt8.ofNat (48 + u)).toNat = 48 + u := by rw [UInt8.toNat_ofNat']; omega
   omega
  ·rw [List.mem_append, List.mem_singleton] at hb
   rcases hb with hb | rfl
   ·exact ih (u / 10) (by omega) b hb
   ·have : (UInt8.ofNat (48 + u % 10)).toNat = 48 + u % 10 := by rw [UInt8.toNat_ofNat']; omega
    omega
theorem itoa_digit {n : Int} (h : 0 ≤ n) : ∀ b ∈ Lib.itoa n, 48 ≤ b.toNat ∧ b.toNat ≤ 57 := by
 unfold Lib.itoa
 rw [if_neg (by omega)]
 exact dec_digit _
theorem Next_any (d : Int) (a : Option Addr) (cap : Nat) (l : List Int) (w : World) (hl : l.length ≤ 1000) (hln : ∀ n ∈ l, 0 ≤ n ∧ n ≤ 9223372036854775807) (hE : EnvP w) (ha : InAt w a l) :
  Calls Tryz.prog 118 #[.int .u64 d, .slice a l.length cap] w fun e w' => e = .returned (.int .u64 (JP d l)) ∧ Below w.heap.size w w' := by
 have HA := Qa ha; have HE := Qa hE
 clear ha hE
 go_enter Tryz.func118, Tryz.ntmps118
 go_upto_region 2 with (go_at_call 151; refine (run0_any _).mono ?_; rintro e w' ⟨rfl, rfl⟩)
 have HX := Qa (heap_alloc_new w (.cells #[.int .u64 (ZK)] 42))
 have HB := Qa (Qg (w := w) (.cells #[.int .u64 (ZK)] 42))
 generalize w.alloc (.cells #[.int .u64 (ZK)] 42) = W at *
 go_wp2
 go_loopw [7] (fun t7 wr => ∃ (k : Nat), k ≤ 8 ∧ t7 = .int .i64 (56 - 8 * (k : Int)) ∧ wr.heap[w.heap.size]? = some (.cells #[.int .u64 (QQ ZK (topL d k))] 42) ∧ Below w.heap.size w wr) (fun t7 _ => (intOf t7 + 8).toNat)
 case atStart => exact ⟨0, by omega, rfl, HX.out, HB.out⟩
 case round =>
  obtain ⟨k, hk, rfl, hx, hb⟩ := hrel
  have HXr := Qa hx; have HBr := Qa hb
  clear hx hb HX HB
  have hlx := Qd HXr.out
  by_cases hlt : k < 8
  ·have hge : (0 : Int) ≤ 56 - 8 * (k : Int) := by omega
   have hwk : IntKind.i64.wrap (56 - 8 * (k : Int) - 8) = 56 - 8 * (k : Int) - 8 := IntWalk.i64_in _ (by omega)
   have HS := Qa (show QQ ZK (topL d (k + 1)) = QQ (QQ ZK (topL d k)) [topB d k] by rw [topL_succ, Z2])
   have hba := Qg (w := wr) (.cells #[.int .u8 (d / 2 ^ (56 - 8 * k) % 256)] 5)
   have HC1 := Qa (J3 w.heap.size (QQ ZK (topL d k)) (some ⟨wr.heap.size, 0, none⟩) 1 [topB d k] _ (by simp) (Qc HXr.out hba) (by1 (heap_alloc_new wr _)) (fun ad e => by cases e; show wr.heap.size ≠ w.heap.size; omega))
   go_wp2_with (go_at_call 194; refine HC1.out.mono ?_; rintro e w6 ⟨⟨v6, rfl⟩, hx6, hk6⟩; have HX6' := Qa hx6; have HK6 := Qa hk6; clear hx6 hk6)
   have hx6 := HX6'.out; have hk6 := HK6.out
   have hb6 := (show Below w.heap.size w w6 from ⟨hk6.os.trans ((HBr.out.trans (hba.mono HBr.out.size))).os, hk6.tape.trans ((HBr.out.trans (hba.mono HBr.out.size))).tape, hk6.output.trans ((HBr.out.trans (hba.mono HBr.out.size))).output, Nat.le_trans ((HBr.out.trans (hba.mono HBr.out.size))).size hk6.size, fun k hk => (hk6.block k (by have := ((HBr.out.trans (hba.mono HBr.out.size))).size; omega) (by rw [List.mem_singleton]; omega)).trans (((HBr.out.trans (hba.mono HBr.out.size))).block k hk)⟩)
   rw [← HS.out] at hx6
   have HX6 := Qa hx6; have HB6 := Qa hb6
   clear hx6 hb6 hk6 hba
   go_wp2
   exact ⟨⟨k + 1, by omega, by simp; omega, HX6.out, HB6.out⟩, by simp [intOf]; omega⟩
  ·obtain rfl : k = 8 := by omega
   go_wp2
   go_loopw [9, 11, 29] (fun _ _ t29 wi => ∃ (k : Nat), k ≤ l.length ∧ t29 = .int .i64 k ∧ wi.heap[w.heap.size]? = some (.cells #[.int .u64 (QQ ZK (topL d 8 ++ QV (l.take k)))] 42) ∧ Below w.heap.size w wi) (fun _ _ t29 _ => l.length - (intOf t29).toNat)
   case atStart => exact ⟨0, Nat.zero_le _, rfl, by simpa [QV] using HXr.out, HBr.out⟩
   case round =>
    clear HXr HBr hlx
    obtain ⟨k, hk, rfl, hx, hb⟩ := hrel
    have HXi := Qa hx; have HBi := Qa hb
    clear hx hb
    have hlx := Qd HXi.out
    by_cases hlt2 : k < l.length
    ·obtain ⟨g, off, ea, d0⟩ := InAt.get (SlAt.below HA.out HBi.out) k hlt2
     have hki : (k : Int) < (l.length : Int) := by omega
     have hwk : IntKind.i64.wrap ((k : Int) + 1) = (k : Int) + 1 := IntWalk.i64_in _ (by omega)
     have hn := hln l[k] (List.getElem_mem hlt2)
     have HS := Qa (show QQ ZK (topL d 8 ++ QV (l.take (k + 1))) = QQ (QQ (QQ ZK (topL d 8 ++ QV (l.take k))) (decL l[k])) [32] by rw [List.take_succ_eq_append_getElem hlt2, wordsD_snoc, ← List.append_assoc, ← List.append_assoc, Z2, Z2])
     have HIt := Qa (fun V (hV : Below w.heap.size w V) => itoaP_any l[k] V (by omega) hn.2 (HE.out.below hV))
     have HDg := Qa (itoa_digit hn.1)
     have HDl := Qa (show decL l[k] = (Lib.itoa l[k]).map (fun b => (b.toNat : Int)) from rfl)
     subst ea
     generalize QQ ZK (topL d 8 ++ QV (l.take k)) = D at *
     generalize decL l[k] = dl at *
     generalize hx : l[k] = x at *
     clear hx hn
     generalize Lib.itoa x = ib at *
     obtain ⟨s, hs⟩ : ∃ s : ByteArray, s = ⟨ib.toArray⟩ := ⟨_, rfl⟩
     rw [← hs] at HIt
     have hsz : s.size = ib.length := by rw [hs]; simp [ByteArray.size]
     have hget : ∀ j (hj : j < s.size), s[j] = ib[j]'(by omega) := fun j hj => by subst hs; rfl
     have hdl : dl.length = ib.length := by rw [HDl.out]; simp
     have HG := Qa hget
     clear hs hget
     go_upto_region 10 with (go_at_call 152; refine (HIt.out _ HBi.out).mono ?_; rintro e w7 ⟨rfl, hb7⟩; have HX7 := bk HXi hb7; have HB7 := bu HBi hb7; clear hb7 d0)
     rw [show w7.iter s 0 = w7.alloc (.stringIter s 0) from rfl]
     have hi0 := heap_alloc_new w7 (.stringIter s 0)
     have hb8 := Qg (w := w7) (.stringIter s 0)
     have HX8 := bk HX7 hb8; have HB8 := bu HB7 hb8
     have hlw := Qd HX7.out
     clear HX7 HB7 hb8
     generalize w7.heap.size = it at *
     generalize w7.alloc (.stringIter s 0) = W8 at *
     go_loopw [11] (fun _ wj => ∃ pos : Nat, pos ≤ s.size ∧ wj.heap[it]? = some (.stringIter s pos) ∧ wj.heap[w.heap.size]? = some (.cells #[.int .u64 (QQ D (dl.take pos))] 42) ∧ Below w.heap.size w wj) (fun _ wj => s.size - wj.iterPos it)
     case atStart => exact ⟨0, Nat.zero_le _, hi0, HX8.out, HB8.out⟩
     case round =>
      clear hi0 HX8 HB8
      obtain ⟨pos, hpos, hit, hx, hb⟩ := hrel
      have HXj := Qa hx; have HBj := Qa hb
      have HMS := Qa (iterPos_of hit)
      clear hx hb
      by_cases hp : pos < s.size
      ·have hdg := HDg.out (ib[pos]'(by omega)) (List.getElem_mem _)
       have hgp := HG.out pos hp
       have hnx : ∀ ty, (Instr.next (.pointer (some ⟨it, 0, none⟩)) true ty).run Tryz.prog wr = _ := fun ty => Lib.run_next_ascii_at wr it s pos ty hit hp (by rw [hgp]; omega)
       rw [hgp] at hnx
       have hdp : dl[pos]'(by omega) = ((ib[pos]'(by omega)).toNat : Int) := by
        have := HDl.out
        subst this
        simp
       have HS3 := Qa (show QQ D (dl.take (pos + 1)) = QQ (QQ D (dl.take pos)) [((ib[pos]'(by omega)).toNat : Int)] by rw [List.take_succ_eq_append_getElem (by omega), Z2, hdp])
       have hx3 := (Lib.iterAt_other wr it w.heap.size s (pos + 1) (by omega)).trans HXj.out
       have hi3 := Lib.iterAt_heap wr it s pos (pos + 1) hit
       have hb3 := Lib.below_iterAt HBj.out (k := it) (by omega) s (pos + 1)
       clear hgp hdp hit
       generalize ((ib[pos]'(by omega)).toNat : Nat) = y at *
       generalize wr.iterAt it s (pos + 1) = W9 at *
       have hz9 := Qd hi3
       have hz9w := Qd hx3
       have hba := Qg (w := W9) (.cells #[.int .u8 ((y : Int))] 5)
       have HC1 := Qa (J3 w.heap.size (QQ D (dl.take pos)) (some ⟨W9.heap.size, 0, none⟩) 1 [(y : Int)] _ (by simp) (Qc hx3 hba) (by1 (heap_alloc_new W9 _)) (fun ad e => by cases e; show W9.heap.size ≠ w.heap.size; omega))
       go_wp2_with (go_at_call 194; refine HC1.out.mono ?_; rintro e w6 ⟨⟨v6, rfl⟩, hx6, hk6⟩; have HX6' := Qa hx6; have HK6 := Qa hk6; clear hx6 hk6)
       have hx6 := HX6'.out; have hk6 := HK6.out
       have hb6 := (show Below w.heap.size w w6 from ⟨hk6.os.trans ((hb3.trans (hba.mono hb3.size))).os, hk6.tape.trans ((hb3.trans (hba.mono hb3.size))).tape, hk6.output.trans ((hb3.trans (hba.mono hb3.size))).output, Nat.le_trans ((hb3.trans (hba.mono hb3.size))).size hk6.size, fun k hk => (hk6.block k (by have := ((hb3.trans (hba.mono hb3.size))).size; omega) (by rw [List.mem_singleton]; omega)).trans (((hb3.trans (hba.mono hb3.size))).block k hk)⟩)
       rw [← HS3.out] at hx6
       have hi6 : w6.heap[it]? = some (.stringIter s (pos + 1)) := (hk6.block it (by simp; omega) (by rw [List.mem_singleton]; omega)).trans (Qc hi3 hba)
       have HX6 := Qa hx6; have HB6 := Qa hb6; have HI6 := Qa hi6
       clear hx6 hb6 hk6 hba hi6 hx3 hi3 hb3 hnx
       go_wp2
       exact ⟨⟨pos + 1, by omega, HI6.out, HX6.out, HB6.out⟩, by rw [iterPos_of HI6.out, HMS.out]; omega⟩
      ·obtain rfl : pos = s.size := by omega
       have hnx : ∀ ty, (Instr.next (.pointer (some ⟨it, 0, none⟩)) true ty).run Tryz.prog wr = _ := fun ty => Lib.run_next_end_at wr it s s.size ty hit hp
       rw [hsz, ← hdl, List.take_length] at HXj
       have hzj := Qd HXj.out
       clear HG HDg HDl HMS hit
       have hba := Qg (w := wr) (.cells #[.int .u8 (32)] 5)
       have HC1 := Qa (J3 w.heap.size (QQ D dl) (some ⟨wr.heap.size, 0, none⟩) 1 [32] _ (by simp) (Qc HXj.out hba) (by1 (heap_alloc_new wr _)) (fun ad e => by cases e; show wr.heap.size ≠ w.heap.size; omega))
       go_wp2_with (go_at_call 194; refine HC1.out.mono ?_; rintro e w6 ⟨⟨v6, rfl⟩, hx6, hk6⟩; have HX6' := Qa hx6; have HK6 := Qa hk6; clear hx6 hk6)
       have hx6 := HX6'.out; have hk6 := HK6.out
       have hb6 := (show Below w.heap.size w w6 from ⟨hk6.os.trans ((HBj.out.trans (hba.mono HBj.out.size))).os, hk6.tape.trans ((HBj.out.trans (hba.mono HBj.out.size))).tape, hk6.output.trans ((HBj.out.trans (hba.mono HBj.out.size))).output, Nat.le_trans ((HBj.out.trans (hba.mono HBj.out.size))).size hk6.size, fun k hk => (hk6.block k (by have := ((HBj.out.trans (hba.mono HBj.out.size))).size; omega) (by rw [List.mem_singleton]; omega)).trans (((HBj.out.trans (hba.mono HBj.out.size))).block k hk)⟩)
       rw [← HS.out] at hx6
       have HX6 := Qa hx6; have HB6 := Qa hb6
       clear hx6 hb6 hk6 hba hnx
       go_wp2
       refine ⟨⟨_, _, _, _, _, _, _, _, _, _, _, _, _, _, _, _, _, _, _, _, _, ⟨k + 1, by omega, rfl, HX6.out, HB6.out⟩, rfl⟩, ?_⟩
       simp [intOf]; omega
    ·obtain rfl : k = l.length := by omega
     rw [List.take_length] at HXi
     have HN := Qa (show JP d l = QQ ZK (topL d 8 ++ QV l) from rfl)
     go_wp2_with (go_at_call 195; refine (run2_any _ _ _ HXi.out).mono ?_; rintro e w6 ⟨rfl, rfl⟩)
     go_ret
     exact ⟨by rw [HN.out]; rfl, HBi.out⟩
structure Li where
 l : List Int
 a : Option Addr
 c : Nat
def liRow (x : Li) : List Value := [.slice x.a x.l.length x.c]
structure LsAt (w : World) (a : Option Addr) (ls : List Li) : Prop where
 rows : SlAt w a 1 (ls.map liRow)
 ints : ∀ x ∈ ls, InAt w x.a x.l
theorem LsAt.below {w w' : World} {a : Option Addr} {ls : List Li} (h : LsAt w a ls) (hb : Below w.heap.size w w') : LsAt w' a ls := ⟨h.rows.below hb, fun x hx => SlAt.below (h.ints x hx) hb⟩
theorem LsAt.get {w : World} {a : Option Addr} {ls : List Li} (h : LsAt w a ls) (i : Nat) (hi : i < ls.length) : ∃ b off, a = some ⟨b, off, none⟩ ∧ w.cell? ⟨b, off + i, none⟩ = some (.slice ls[i].a ls[i].l.length ls[i].c) := by
 obtain ⟨b, off, e, _, _, hc⟩ := h.rows i (liRow ls[i]) (by simp [hi])
 have := hc 0 _ rfl
 rw [Nat.mul_one, Nat.add_zero] at this
 exact ⟨b, off, e, this⟩
def ZD (ls : List (List Int)) : Int := ls.foldl (fun d x => JP d ((x.length : Int) :: x)) ZK
theorem chainH_snoc (ls : List (List Int)) (x : List Int) : ZD (ls ++ [x]) = JP (ZD ls) ((x.length : Int) :: x) := by simp [ZD, List.foldl_append]
theorem J4 (w : World) (B : Nat) (x : Int) (hb : B ≤ w.heap.size) : OwnR (w.alloc (.cells #[.int .i64 x] 3)) B 3 1 (.slice (some ⟨w.heap.size, 0, none⟩) 1 1) ([x].map inRow) :=
 ⟨fun r hr => by obtain ⟨y, _, rfl⟩ := List.mem_map.1 hr; rfl, rfl, .inr ⟨w.heap.size, 1, #[.int .i64 x], rfl, hb, heap_alloc_new _ _, Nat.le_refl _, by unfold maxLen; omega, rfl, rfl⟩⟩
theorem Chain_any (a : Option Addr) (cap : Nat) (ls : List Li) (w : World) (hl : ls.length ≤ 10000) (hln : ∀ x ∈ ls, x.l ≠ [] ∧ x.l.length ≤ 900 ∧ ∀ n ∈ x.l, 0 ≤ n ∧ n ≤ 9223372036854775807) (hE : EnvP w) (ha : LsAt w a ls) :
  Calls Tryz.prog 76 #[.slice a ls.length cap] w fun e w' => e = .returned (.int .u64 (ZD (ls.map Li.l))) ∧ Below w.heap.size w w' := by
 have HA := Qa ha; have HE := Qa hE
 clear ha hE
 go_enter Tryz.func76, Tryz.ntmps76
 go_wp2
 go_loopw [3, 5, 8] (fun t3 _ t8 wr => ∃ (k : Nat), k ≤ ls.length ∧ t8 = .int .i64 k ∧ t3 = .int .u64 (ZD ((ls.take k).map Li.l)) ∧ Below w.heap.size w wr) (fun _ _ t8 _ => ls.length - (intOf t8).toNat)
 case atStart => exact ⟨0, Nat.zero_le _, rfl, rfl, Below.refl _ _⟩
 case round =>
  obtain ⟨k, hk, rfl, rfl, hb⟩ := hrel
  have HB := Qa hb
  clear hb
  by_cases hlt : k < ls.length
  ·have has := HA.out.below HB.out
   obtain ⟨b, off, ea, d0⟩ := LsAt.get has k hlt
   have hki : (k : Int) < (ls.length : Int) := by omega
   have hwk : IntKind.i64.wrap ((k : Int) + 1) = (k : Int) + 1 := IntWalk.i64_in _ (by omega)
   obtain ⟨hn0, hn1, hn2⟩ := hln ls[k] (List.getElem_mem hlt)
   have HIn := Qa (has.ints ls[k] (List.getElem_mem hlt))
   have HS := Qa (show ZD ((ls.take (k + 1)).map Li.l) = JP (ZD ((ls.take k).map Li.l)) ((ls[k].l.length : Int) :: ls[k].l) by rw [List.take_succ_eq_append_getElem hlt, List.map_append, List.map_singleton, chainH_snoc])
   subst ea
   generalize ZD ((ls.take k).map Li.l) = D at *
   generalize ls[k] = x at *
   obtain ⟨x, xa, xc⟩ := x
   dsimp only at *
   have hpos : 0 < x.length := List.length_pos_iff.2 hn0
   obtain ⟨g, go, rfl, _⟩ := InAt.get HIn.out 0 hpos
   clear has
   have hba := Qg (w := wr) (.cells #[.int .i64 (x.length : Int)] 3)
   have HO := Qa (J4 wr wr.heap.size (x.length : Int) (Nat.le_refl _))
   have HI2 := Qa (SlAt.below HIn.out hba)
   have HN := Qa (fun (a5 : Option Addr) (c5 : Nat) (V : World) (hV : Below w.heap.size w V) (h5 : InAt V a5 ((x.length : Int) :: x)) => Next_any D a5 c5 ((x.length : Int) :: x) V (by simp; omega) (fun n hn => by
    rcases List.mem_cons.1 hn with rfl | hn
    ·omega
    ·exact hn2 n hn) (HE.out.below hV) h5)
   clear hn2 hba
   go_wp2_with (first | (at_builtin; refine appE eltInD rfl (.tmp 15) (.tmp 16) rfl wr.heap.size _ [(x.length : Int)] rfl HO.out _ _ _ x rfl rfl (fun e => by cases e) HI2.out (by simp; omega) (by simp) ?_; intro v5 w5 ho5 hg5; obtain ⟨a5, c5, e5, _, hi5⟩ := ho5.slAt; (rw [List.length_map] at e5); (rw [show ([(x.length : Int)] ++ x).length = ((x.length : Int) :: x).length from rfl] at e5); subst e5; have HI5 := Qa (show InAt w5 a5 ((x.length : Int) :: x) from hi5); have HB5 := Qa ((HB.out.alloc HB.out.size (.cells #[.int .i64 (x.length : Int)] 3)).grown hg5 (by have := HB.out.size; simp; omega) (fun k e => by have := (HO.out.lt k e).1; have := HB.out.size; omega)); clear ho5 hg5 hi5) | (go_at_call 118; refine (HN.out _ _ _ HB5.out HI5.out).mono ?_; rintro e w6 ⟨rfl, hb6⟩; have HB6 := bu HB5 hb6; clear hb6))
   exact ⟨⟨k + 1, by omega, by go_num, by rw [HS.out], HB6.out⟩, by simp [intOf]; omega⟩
  ·obtain rfl : k = ls.length := by omega
   go_wp2
   go_ret
   exact ⟨by first | rfl | (rw [List.take_length]; rfl), HB.out⟩
theorem eltBy : Elt Tryz.prog 272 5 1 1 byRow := ⟨Tryz.underlying272, ⟨.int .u8 0, by kernel_rfl, rfl⟩, by decide, by decide, fun _ => rfl, fun x u hu => by simp [byRow] at hu; subst hu; rfl⟩
theorem flat_by (l : List Int) : (l.map byRow).flatten = l.map fun x => Value.int .u8 x := by
 induction l with
 | nil => rfl
 | cons x l ih => simp [byRow] at ih ⊢; exact ih
theorem appS {w : World} {ops : Array Oper} {rest : List Oper} {o : Oper} {a : Act} {Q : Exit → Act → World → Prop} (hgd : o.guard = none) (sl x : Operand)
  (ho : o.op = .call { callee := .builtin .append, args := #[sl, x], argTypes := #[272, 9] })
  (B : Nat) (v : Value) (l : List Int) (hs : a.eval sl = v) (hown : OwnR w B 5 1 v (l.map byRow)) (ib : List UInt8) (hx : a.eval x = .string ⟨ib.toArray⟩) (hlen : l.length + ib.length ≤ 1048576) (hbase : B ≤ w.heap.size)
  (h : ∀ v' w', OwnR w' B 5 1 v' ((l ++ ib.map fun b => (b.toNat : Int)).map byRow) → w.grownBy w' v.ownBlock → wpList Tryz.prog ops Q rest (a.put o.dst v') w') : wpList Tryz.prog ops Q (o :: rest) a w := by
 obtain ⟨i, hi, hz0, hz1, hz2⟩ := info_parts (show (Tryz.prog.info? 5).map (fun i => (i.zero, i.size, i.bytes)) = some (some (.int .u8 0), 1, 1) by kernel_rfl)
 have hsz : (⟨ib.toArray⟩ : ByteArray).size = ib.length := by simp [ByteArray.size]
 refine Lib.wpList_append_own_string w hgd sl x _ _ ho B 5 i Tryz.underlying272 Tryz.underlying9 hi hz0 hz1 hz2 v _ _ hs hown.own _ hx (by rw [hsz, List.length_map]; unfold maxLen; omega) (by rw [hsz, List.length_map]; omega) hbase ?_
 intro v' w' ho' hg _
 refine h v' w' ⟨fun r hr => by obtain ⟨y, _, rfl⟩ := List.mem_map.1 hr; rfl, ?_⟩ hg
 rw [hsz] at ho'
 have e1 : ((l ++ ib.map fun b => (b.toNat : Int)).map byRow).length = (l.map byRow).length + ib.length := by simp
 have e2 : ((l ++ ib.map fun b => (b.toNat : Int)).map byRow).flatten = (l.map byRow).flatten ++ Lib.strCells ⟨ib.toArray⟩ := by
  rw [List.map_append, List.flatten_append, flat_by (List.map _ ib), List.map_map]; rfl
 rw [e1, e2]
 exact ho'
theorem RSum_any (a : Option Addr) (cap : Nat) (xs : List Int) (w : World) (hl : xs.length ≤ 100000) (hg : ByAt w a xs) :
  Calls Tryz.prog 190 #[.slice a xs.length cap] w fun e w' => e = .returned (.int .u64 (QQ ZK xs)) ∧ Below w.heap.size w w' := by
 have HG := Qa hg
 clear hg
 go_enter Tryz.func190, Tryz.ntmps190
 go_wp2
 go_loopw [3, 4] (fun t3 t4 wr => ∃ k : Nat, k ≤ xs.length ∧ t4 = .int .i64 k ∧ t3 = .int .u64 (QQ ZK (xs.take k)) ∧ wr = w) (fun _ t4 _ => xs.length - (intOf t4).toNat)
 case atStart => exact ⟨0, Nat.zero_le _, rfl, rfl, rfl⟩
 case round =>
  obtain ⟨k, hk, rfl, rfl, rfl⟩ := hrel
  by_cases hlt : k < xs.length
  ·obtain ⟨g, off, ea, d0⟩ := ByAt.get HG.out k hlt
   have hki : (k : Int) < (xs.length : Int) := by omega
   have hwk : IntKind.i64.wrap ((k : Int) + 1) = (k : Int) + 1 := IntWalk.i64_in _ (by omega)
   subst ea
   have HS := Qa (show QQ ZK (xs.take (k + 1)) = fnv (QQ ZK (xs.take k)) xs[k] by rw [List.take_succ_eq_append_getElem hlt, hashL_snoc])
   generalize xs[k] = x at *
   generalize QQ ZK (xs.take k) = D at *
   have HFv := Qa (show fnv D x = IntKind.u64.wrap (bits BinOp.xor IntKind.u64 D (IntKind.u64.wrap x) * 1099511628211) from rfl)
   rw [HFv.out] at HS
   go_wp2
   exact ⟨⟨k + 1, by omega, by go_num, by rw [HS.out], trivial⟩, by simp [intOf]; omega⟩
  ·obtain rfl : k = xs.length := by omega
   go_wp2
   go_ret
   exact ⟨by first | rfl | (rw [List.take_length]; rfl), Below.refl _ _⟩
def revD : Nat → Nat → List Int
 | 0, _ => []
 | k + 1, m => if m = 0 then [] else (48 + (m : Int) % 10) :: revD k (m / 10)
theorem revD_len (k m : Nat) : (revD k m).length ≤ k := by
 induction k generalizing m with
 | zero => exact Nat.le_refl _
 | succ k ih => unfold revD; split <;> simp [ih]
theorem revD_dec (k m : Nat) (h : m < 10 ^ k) (h0 : 0 < m) : (revD k m).reverse = (Lib.decDigits m).map fun b => (b.toNat : Int) := by
 induction k generalizing m with
 | zero => simp at h; omega
 | succ k ih =>
  have hd : ((UInt8.ofNat (48 + m % 10)).toNat : Int) = 48 + (m : Int) % 10 := by rw [UInt8.toNat_ofNat']; omega
  unfold revD
  rw [if_neg (by omega), Lib.decDigits]
  split
  ·rename_i h9
   have e : m / 10 = 0 := by omega
   rw [e, show revD k 0 = [] by cases k <;> simp [revD], ← hd, Nat.mod_eq_of_lt h9]; rfl
  ·rw [List.reverse_cons, ih (m / 10) (by rw [Nat.pow_succ] at h; omega) (by omega), List.map_append, ← hd]; rfl
theorem fin_dec (v : Value) (B : Nat) (w : World) (ib : List UInt8) (hn : ib ≠ []) (ho : OwnR w B 5 1 v ((ib.map fun b => (b.toNat : Int)).map byRow)) : (convert 272 9 v).run Tryz.prog w = .ok (.string ⟨ib.toArray⟩) w := by
 obtain ⟨a, cap, rfl, _, hs⟩ := ho.slAt
 rw [List.length_map, List.length_map]
 have hg : ByAt w a (ib.map fun b => (b.toNat : Int)) := hs
 obtain ⟨g, off, rfl, _⟩ := hg.get 0 (by rw [List.length_map]; exact List.length_pos_iff.2 hn)
 refine run_convert_bytes_back (P := Tryz.prog) _ _ _ _ ⟨g, off, none⟩ cap ib Tryz.underlying272 Tryz.underlying5 Tryz.underlying9 fun k hk => ?_
 obtain ⟨g', off', e, hc⟩ := hg.get k (by rw [List.length_map]; exact hk)
 cases e
 rw [show (⟨g, off, none⟩ : Addr).add k = ⟨g, off + k, none⟩ by unfold Addr.add; split <;> simp_all, hc]
 simp
theorem RDecimal_any (n : Int) (w : World) (h0 : 0 ≤ n) (h1 : n ≤ 9223372036854775807) :
  Calls Tryz.prog 236 #[.int .i64 n] w fun e w' => e = .returned (.string ⟨(Lib.itoa n).toArray⟩) ∧ Below w.heap.size w w' := by
 obtain ⟨N, rfl⟩ := Int.eq_ofNat_of_zero_le h0
 have HD := Qa (show 0 < N → (revD 20 N).reverse = (Lib.itoa (N : Int)).map fun b => (b.toNat : Int) from fun h => by rw [revD_dec 20 N (by omega) h]; rfl)
 have HDl := Qa (revD_len 20 N)
 have HZ := Qa (show N = 0 → Lib.itoa (N : Int) = [48] from fun h => by subst h; show Lib.decDigits 0 = [48]; rw [Lib.decDigits]; rfl)
 have HNe := Qa (show 0 < N → Lib.itoa (N : Int) ≠ [] from fun h e => by
  have h2 := HD.out h
  rw [e] at h2
  have : revD 20 N = [] := by simpa using h2
  unfold revD at this
  rw [if_neg (by omega)] at this
  cases this)
 obtain ⟨K, hK⟩ : ∃ K, K = 20 := ⟨_, rfl⟩
 rw [← hK] at HD HDl
 generalize Lib.itoa (N : Int) = ib at *
 go_enter Tryz.func236, Tryz.ntmps236
 by_cases hz : N = 0
 ·have hz2 : ((N : Int) == 0) = true := by rw [beq_iff_eq]; omega
  rw [HZ.out hz]
  clear hz
  go_wp2
  go_ret
  exact ⟨rfl, Below.refl _ _⟩
 ·have hz2 : ((N : Int) == 0) = false := by rw [Bool.eq_false_iff, ne_eq, beq_iff_eq]; omega
  replace HD := Qa (HD.out (by omega))
  replace HNe := Qa (HNe.out (by omega))
  go_wp2
  go_loopw [3, 4, 5] (fun t3 t4 _ wr => ∃ (m j : Nat) (ds : List Int), m ≤ N ∧ j ≤ K ∧ m < 10 ^ j ∧ t4 = .int .i64 m ∧ Hid (ds ++ revD j m = revD K N) ∧ OwnR wr w.heap.size 5 1 t3 (ds.map byRow) ∧ Below w.heap.size w wr) (fun _ t4 _ _ => (intOf t4).toNat)
  case atStart => exact ⟨N, K, [], Nat.le_refl _, Nat.le_refl _, by subst hK; omega, rfl, Qa rfl, OwnR.nil _ _ _ _, Below.refl _ _⟩
  case round =>
   obtain ⟨m, j, ds, hm, hj, hmj, rfl, HP, ho, hb⟩ := hrel
   have HO := Qa ho; have HB := Qa hb
   clear ho hb
   by_cases hm0 : 0 < m
   ·have hne : ((m : Int) == 0) = false := by rw [Bool.eq_false_iff, ne_eq, beq_iff_eq]; omega
    obtain ⟨j, rfl⟩ : ∃ j', j = j' + 1 := ⟨j - 1, by cases j with | zero => simp at hmj; omega | succ j => rfl⟩
    have HP2 := Qa (show ds ++ (48 + (m : Int) % 10) :: revD j (m / 10) = revD K N by
     have := HP.out
     rw [show revD (j + 1) m = if m = 0 then [] else (48 + (m : Int) % 10) :: revD j (m / 10) from rfl] at this
     rwa [if_neg (by omega)] at this)
    have hdl : ds.length + 1 ≤ 20 := by
     have h2 := congrArg List.length HP2.out
     have := HDl.out
     rw [List.length_append, List.length_cons] at h2
     omega
    have hq : Int.tdiv (m : Int) 10 = ((m / 10 : Nat) : Int) := by rw [Int.tdiv_eq_ediv_of_nonneg (by omega)]; omega
    have hr : Int.tmod (m : Int) 10 = (m : Int) % 10 := Int.tmod_eq_emod_of_nonneg (by omega)
    have hr0 : 0 ≤ (m : Int) % 10 := by omega
    have hr9 : (m : Int) % 10 < 10 := by omega
    have hmp : m / 10 < 10 ^ j := by rw [Nat.pow_succ] at hmj; omega
    have hml : m / 10 < m := by omega
    clear HP hmj
    generalize hxd : 48 + (m : Int) % 10 = xd at *
    go_wp2_with ((at_builtin; refine appE eltBy rfl (.tmp 21) (.tmp 25) rfl w.heap.size _ ds rfl (HO.out.below (Qg _)) _ _ _ [xd] rfl rfl (fun e => by cases e) (eltBy.new _ _ _ _ rfl) (by simp; omega) (by have := HB.out.size; simp; omega) ?_; intro v5 w5 ho5 hg5; have HO5 := Qa ho5; have HB5 := Qa ((HB.out.alloc HB.out.size (.cells #[.int .u8 (xd)] 5)).grown hg5 (by have := HB.out.size; simp; omega) (fun k e => by have := (HO.out.lt k e).1; omega)); clear ho5 hg5))
    exact ⟨⟨m / 10, j, ds ++ [xd], by omega, by omega, hmp, by first | rfl | (congr 1; omega), Qa (by rw [List.append_assoc]; exact HP2.out), HO5.out, HB5.out⟩, by simp [intOf]; omega⟩
   ·obtain rfl : m = 0 := by omega
    have HE := Qa (show ds.reverse = ib.map fun b => (b.toNat : Int) by
     have := HP.out
     rw [show revD j 0 = [] by cases j <;> simp [revD], List.append_nil] at this
     rw [this]; exact HD.out)
    have hdl : ds.length ≤ 20 := by
     have := HP.out
     rw [show revD j 0 = [] by cases j <;> simp [revD], List.append_nil] at this
     rw [this]; have := HDl.out; omega
    have hdp : 0 < ds.length := by
     have h2 := congrArg List.length HE.out
     rw [List.length_reverse, List.length_map] at h2
     have := List.length_pos_iff.2 HNe.out
     omega
    have hneg : ¬ ((N : Int) < 0) := by omega
    obtain ⟨a3, c3, e3, _, hs3⟩ := HO.out.slAt
    rw [List.length_map] at e3
    have HS3 := Qa hs3
    subst e3
    clear hs3 HD HP hmj hm0 HO
    have hwl : IntKind.i64.wrap ((ds.length : Int) - 1) = (ds.length : Int) - 1 := IntWalk.i64_in _ (by omega)
    go_wp2
    clear hwl
    generalize wr = W1 at *
    go_loopw [6, 7] (fun t6 t7 wi => ∃ (i : Nat), i ≤ ds.length ∧ t7 = .int .i64 ((i : Int) - 1) ∧ OwnR wi W1.heap.size 5 1 t6 ((ds.drop i).reverse.map byRow) ∧ Below W1.heap.size W1 wi) (fun _ t7 _ => (intOf t7 + 1).toNat)
    case atStart => exact ⟨ds.length, Nat.le_refl _, rfl, by rw [List.drop_length]; exact OwnR.nil _ _ _ _, Below.refl _ _⟩
    case round =>
     obtain ⟨i, hi, rfl, ho, hb⟩ := hrel
     have HO := Qa ho; have HB1 := Qa hb
     clear ho hb
     by_cases hi0 : 0 < i
     ·obtain ⟨i, rfl⟩ : ∃ i', i = i' + 1 := ⟨i - 1, by omega⟩
      obtain ⟨g, off, ea, d0⟩ := ByAt.get (SlAt.below HS3.out HB1.out) i (by omega)
      subst ea
      have hge : (0 : Int) ≤ ((i + 1 : Nat) : Int) - 1 := by omega
      have hii : ((i + 1 : Nat) : Int) - 1 = (i : Int) := by omega
      have hki : (i : Int) < (ds.length : Int) := by omega
      have hwk : IntKind.i64.wrap ((i : Int) - 1) = (i : Int) - 1 := IntWalk.i64_in _ (by omega)
      have HS := Qa (show (ds.drop i).reverse = (ds.drop (i + 1)).reverse ++ [ds[i]] by rw [List.drop_eq_getElem_cons (by omega), List.reverse_cons])
      rw [hii] at *
      clear hii
      generalize ds[i] = xd at *
      have hol : (ds.drop (i + 1)).reverse.length ≤ 20 := by simp; omega
      generalize (ds.drop (i + 1)).reverse = os at *
      have hWw : w.heap.size ≤ W1.heap.size := HB.out.size
      go_wp2_with (at_builtin; refine appE eltBy rfl (.tmp 39) (.tmp 44) rfl W1.heap.size _ os rfl (HO.out.below (Qg _)) _ _ _ [xd] rfl rfl (fun e => by cases e) (eltBy.new _ _ _ _ rfl) (by simp; omega) (by have := HB1.out.size; simp; omega) ?_; intro v5 w5 ho5 hg5; have HO5 := Qa ho5; have HB5 := Qa ((HB1.out.alloc HB1.out.size (.cells #[.int .u8 (xd)] 5)).grown hg5 (by have := HB1.out.size; simp; omega) (fun k e => by have := (HO.out.lt k e).1; omega)); clear ho5 hg5)
      refine ⟨⟨i, by omega, rfl, by rw [HS.out]; exact HO5.out, HB5.out⟩, by simp [intOf]⟩
     ·obtain rfl : i = 0 := by omega
      rw [List.drop_zero, HE.out] at HO
      have hcv := fin_dec _ _ _ _ HNe.out HO.out
      have HF := Qa (HB.out.trans (HB1.out.mono HB.out.size))
      go_wp2
      go_ret
      exact ⟨rfl, HF.out⟩
theorem decL_len {n : Int} (h0 : 0 ≤ n) (h1 : n ≤ 9223372036854775807) : (decL n).length ≤ 20 := by
 unfold decL
 obtain ⟨N, rfl⟩ := Int.eq_ofNat_of_zero_le h0
 rcases Nat.eq_zero_or_pos N with rfl | hp
 ·show (List.map _ (Lib.decDigits 0)).length ≤ 20
  rw [Lib.decDigits]; decide
 ·rw [show Lib.itoa (N : Int) = Lib.decDigits N from rfl, ← revD_dec 20 N (by omega) hp, List.length_reverse]
  exact revD_len _ _
theorem wordsD_len (l : List Int) (h : ∀ n ∈ l, 0 ≤ n ∧ n ≤ 9223372036854775807) : (QV l).length ≤ 21 * l.length := by
 induction l with
 | nil => simp [QV]
 | cons n l ih =>
  have h1 := ih fun x hx => h x (List.mem_cons_of_mem _ hx)
  have h2 := decL_len (h n (by simp)).1 (h n (by simp)).2
  have e : QV (n :: l) = decL n ++ [32] ++ QV l := by simp [QV]
  rw [e]; simp; omega
theorem RText04_any (d : Int) (a : Option Addr) (cap : Nat) (l : List Int) (w : World) (hl : l.length ≤ 1000) (hln : ∀ n ∈ l, 0 ≤ n ∧ n ≤ 9223372036854775807) (ha : InAt w a l) :
  Calls Tryz.prog 224 #[.int .u64 d, .slice a l.length cap] w fun e w' => ∃ v, e = .returned v ∧ OwnR w' w.heap.size 5 1 v ((topL d 8 ++ QV l).map byRow) ∧ Below w.heap.size w w' := by
 have HA := Qa ha
 clear ha
 go_enter Tryz.func224, Tryz.ntmps224
 go_wp2
 go_loopw [5, 6] (fun t5 t6 wr => ∃ (k : Nat), k ≤ 8 ∧ t6 = .int .i64 (k : Int) ∧ OwnR wr w.heap.size 5 1 t5 ((topL d k).map byRow) ∧ Below w.heap.size w wr) (fun _ t6 _ => 8 - (intOf t6).toNat)
 case atStart => exact ⟨0, by omega, rfl, OwnR.nil _ _ _ _, Below.refl _ _⟩
 case round =>
  obtain ⟨k, hk, rfl, ho, hb⟩ := hrel
  have HO := Qa ho; have HB := Qa hb
  clear ho hb
  by_cases hlt : k < 8
  ·have hki : (k : Int) < 8 := by omega
   have hw8 : IntKind.i64.wrap (8 * (k : Int)) = 8 * (k : Int) := IntWalk.i64_in _ (by omega)
   have hw56 : IntKind.i64.wrap (56 - 8 * (k : Int)) = 56 - 8 * (k : Int) := IntWalk.i64_in _ (by omega)
   have hwk : IntKind.i64.wrap ((k : Int) + 1) = (k : Int) + 1 := IntWalk.i64_in _ (by omega)
   have hsh : ¬ (56 - 8 * (k : Int) < 0) := by omega
   have HS := Qa (show topL d (k + 1) = topL d k ++ [d / 2 ^ (56 - 8 * k) % 256] from topL_succ d k)
   have htl : (topL d k).length ≤ 8 := by simp [topL]; omega
   generalize topL d k = xs at *
   go_wp2_with ((at_builtin; refine appE eltBy rfl (.tmp 12) (.tmp 19) rfl w.heap.size _ xs rfl (HO.out.below (Qg _)) _ _ _ [(d / 2 ^ (56 - 8 * k) % 256)] rfl rfl (fun e => by cases e) (eltBy.new _ _ _ _ rfl) (by simp; omega) (by have := HB.out.size; simp; omega) ?_; intro v5 w5 ho5 hg5; have HO5 := Qa ho5; have HB5 := Qa ((HB.out.alloc HB.out.size (.cells #[.int .u8 ((d / 2 ^ (56 - 8 * k) % 256))] 5)).grown hg5 (by have := HB.out.size; simp; omega) (fun k e => by have := (HO.out.lt k e).1; omega)); clear ho5 hg5))
   exact ⟨⟨k + 1, by omega, by go_num, by rw [HS.out]; exact HO5.out, HB5.out⟩, by simp [intOf]; omega⟩
  ·obtain rfl : k = 8 := by omega
   generalize htl : topL d 8 = T at *
   have hT : T.length = 8 := by subst htl; simp [topL]
   go_wp2
   go_loopw [5, 7] (fun t5 t7 wi => ∃ (k : Nat), k ≤ l.length ∧ t7 = .int .i64 (k : Int) ∧ OwnR wi w.heap.size 5 1 t5 ((T ++ QV (l.take k)).map byRow) ∧ Below w.heap.size w wi) (fun _ t7 _ => l.length - (intOf t7).toNat)
   case atStart => exact ⟨0, Nat.zero_le _, rfl, by simpa [QV] using HO.out, HB.out⟩
   case round =>
    clear HO HB
    obtain ⟨k, hk, rfl, ho, hb⟩ := hrel
    have HO := Qa ho; have HB := Qa hb
    clear ho hb
    by_cases hlt2 : k < l.length
    ·obtain ⟨g, off, ea, d0⟩ := InAt.get (SlAt.below HA.out HB.out) k hlt2
     have hki : (k : Int) < (l.length : Int) := by omega
     have hwk : IntKind.i64.wrap ((k : Int) + 1) = (k : Int) + 1 := IntWalk.i64_in _ (by omega)
     have hn := hln l[k] (List.getElem_mem hlt2)
     have HS := Qa (show T ++ QV (l.take (k + 1)) = (T ++ QV (l.take k) ++ (Lib.itoa l[k]).map (fun b => (b.toNat : Int))) ++ [32] by rw [List.take_succ_eq_append_getElem hlt2, wordsD_snoc]; simp [decL])
     have HD := Qa (fun V => RDecimal_any l[k] V hn.1 hn.2)
     have hil : (Lib.itoa l[k]).length ≤ 20 := by have := decL_len hn.1 hn.2; simpa [decL] using this
     have hxl : (T ++ QV (l.take k)).length ≤ 21100 := by
      have := wordsD_len (l.take k) fun n hm => hln n (List.mem_of_mem_take hm)
      rw [List.length_append, hT]; rw [List.length_take] at this; omega
     subst ea
     generalize T ++ QV (l.take k) = xs at *
     generalize Lib.itoa l[k] = ib at *
     generalize l[k] = x at *
     clear hn
     obtain ⟨s, hs⟩ : ∃ s : ByteArray, s = ⟨ib.toArray⟩ := ⟨_, rfl⟩
     rw [← hs] at HD
     have HSb := Qa hs
     clear hs
     go_upto_region 10 with (first | (go_at_call 236; refine (HD.out _).mono ?_; rintro e w3 ⟨rfl, hb3⟩; have HO3 := Qa (HO.out.below hb3); have HB3 := bu HB hb3; clear hb3) | (at_builtin; refine appS rfl (.tmp 27) (.tmp 32) rfl w.heap.size _ xs rfl HO3.out ib (by first | exact congrArg Value.string HSb.out | (show Value.string s = _; rw [HSb.out])) (by omega) HB3.out.size ?_; intro v4 w4 ho4 hg4; have HO4 := Qa ho4; have HB4 := Qa (HB3.out.grown hg4 HB3.out.size (fun k e => (HO3.out.lt k e).1)); clear ho4 hg4))
     clear HO HB
     have hx2 : (xs ++ ib.map fun b => (b.toNat : Int)).length ≤ 21200 := by simp; omega
     generalize (xs ++ ib.map fun b => (b.toNat : Int)) = ys at *
     have HO := HO4; have HB := HB4
     go_wp2_with ((at_builtin; refine appE eltBy rfl (.tmp 34) (.tmp 35) rfl w.heap.size _ ys rfl (HO.out.below (Qg _)) _ _ _ [32] rfl rfl (fun e => by cases e) (eltBy.new _ _ _ _ rfl) (by simp; omega) (by have := HB.out.size; simp; omega) ?_; intro v5 w5 ho5 hg5; have HO5 := Qa ho5; have HB5 := Qa ((HB.out.alloc HB.out.size (.cells #[.int .u8 (32)] 5)).grown hg5 (by have := HB.out.size; simp; omega) (fun k e => by have := (HO.out.lt k e).1; omega)); clear ho5 hg5))
     refine ⟨⟨_, _, _, _, _, _, _, _, _, _, _, _, _, _, _, _, _, _, ⟨k + 1, by omega, rfl, by rw [HS.out]; exact HO5.out, HB5.out⟩, rfl⟩, ?_⟩
     simp [intOf]; omega
    ·obtain rfl : k = l.length := by omega
     rw [List.take_length] at HO
     go_wp2
     go_ret
     exact ⟨_, rfl, by rw [htl]; exact HO.out, HB.out⟩
theorem RNext_any (d : Int) (a : Option Addr) (cap : Nat) (l : List Int) (w : World) (hl : l.length ≤ 1000) (hln : ∀ n ∈ l, 0 ≤ n ∧ n ≤ 9223372036854775807) (ha : InAt w a l) :
  Calls Tryz.prog 191 #[.int .u64 d, .slice a l.length cap] w fun e w' => e = .returned (.int .u64 (JP d l)) ∧ Below w.heap.size w w' := by
 have HT := Qa (RText04_any d a cap l w hl hln ha)
 have HS := Qa (fun (a2 : Option Addr) (c2 : Nat) (V : World) (h2 : ByAt V a2 (topL d 8 ++ QV l)) => RSum_any a2 c2 (topL d 8 ++ QV l) V (by have := wordsD_len l hln; rw [List.length_append, show (topL d 8).length = 8 by simp [topL]]; omega) h2)
 have HN := Qa (show JP d l = QQ ZK (topL d 8 ++ QV l) from rfl)
 generalize topL d 8 ++ QV l = xs at *
 clear ha
 go_enter Tryz.func191, Tryz.ntmps191
 go_wp2_with (first | (go_at_call 224; refine HT.out.mono ?_; rintro e w2 ⟨v2, rfl, ho2, hb2⟩; have HB2 := Qa hb2; obtain ⟨a2, c2, e2, _, hs2⟩ := ho2.slAt; rw [List.length_map] at e2; subst e2; have HY := Qa (show ByAt w2 a2 xs from hs2); clear hb2 ho2 hs2) | (go_at_call 190; refine (HS.out _ _ _ HY.out).mono ?_; rintro e w3 ⟨rfl, hb3⟩; have HB3 := bu HB2 hb3; clear hb3))
 go_ret
 exact ⟨by rw [HN.out]; rfl, HB3.out⟩
theorem RChain_any (a : Option Addr) (cap : Nat) (ls : List Li) (w : World) (hl : ls.length ≤ 10000) (hln : ∀ x ∈ ls, x.l ≠ [] ∧ x.l.length ≤ 900 ∧ ∀ n ∈ x.l, 0 ≤ n ∧ n ≤ 9223372036854775807) (ha : LsAt w a ls) :
  Calls Tryz.prog 149 #[.slice a ls.length cap] w fun e w' => e = .returned (.int .u64 (ZD (ls.map Li.l))) ∧ Below w.heap.size w w' := by
 have HA := Qa ha
 clear ha
 have HS0 := Qa (RSum_any none 0 [] w (by simp) (SlAt.nil _ _ _))
 go_enter Tryz.func149, Tryz.ntmps149
 go_wp2_with (go_at_call 190; refine (HS0.out).mono ?_; rintro e w1 ⟨rfl, hb1⟩)
 have HB1 := Qa hb1
 clear hb1
 go_loopw [3, 4, 5] (fun t3 t4 _ wr => ∃ (k : Nat), k ≤ ls.length ∧ t4 = .int .i64 k ∧ t3 = .int .u64 (ZD ((ls.take k).map Li.l)) ∧ Below w.heap.size w wr) (fun _ t4 _ _ => ls.length - (intOf t4).toNat)
 case atStart => exact ⟨0, Nat.zero_le _, rfl, rfl, HB1.out⟩
 case round =>
  clear HB1
  obtain ⟨k, hk, rfl, rfl, hb⟩ := hrel
  have HB := Qa hb
  clear hb
  by_cases hlt : k < ls.length
  ·have has := HA.out.below HB.out
   obtain ⟨b, off, ea, d0⟩ := LsAt.get has k hlt
   have hki : (k : Int) < (ls.length : Int) := by omega
   have hwk : IntKind.i64.wrap ((k : Int) + 1) = (k : Int) + 1 := IntWalk.i64_in _ (by omega)
   obtain ⟨hn0, hn1, hn2⟩ := hln ls[k] (List.getElem_mem hlt)
   have HIn := Qa (has.ints ls[k] (List.getElem_mem hlt))
   have HS := Qa (show ZD ((ls.take (k + 1)).map Li.l) = JP (ZD ((ls.take k).map Li.l)) ((ls[k].l.length : Int) :: ls[k].l) by rw [List.take_succ_eq_append_getElem hlt, List.map_append, List.map_singleton, chainH_snoc])
   subst ea
   generalize ZD ((ls.take k).map Li.l) = D at *
   generalize ls[k] = x at *
   obtain ⟨x, xa, xc⟩ := x
   dsimp only at *
   have hpos : 0 < x.length := List.length_pos_iff.2 hn0
   obtain ⟨g, go, rfl, _⟩ := InAt.get HIn.out 0 hpos
   clear has
   have hba := Qg (w := wr) (.cells #[.int .i64 (x.length : Int)] 3)
   have d1 := Qq d0 hba
   have HO := Qa (J4 wr wr.heap.size (x.length : Int) (Nat.le_refl _))
   have HI2 := Qa (SlAt.below HIn.out hba)
   have HN := Qa (fun (a5 : Option Addr) (c5 : Nat) (V : World) (h5 : InAt V a5 ((x.length : Int) :: x)) => RNext_any D a5 c5 ((x.length : Int) :: x) V (by simp; omega) (fun n hn => by
    rcases List.mem_cons.1 hn with rfl | hn
    ·omega
    ·exact hn2 n hn) h5)
   clear hn2 hba
   go_wp2_with (first | (at_builtin; refine appE eltInD rfl (.tmp 19) (.tmp 23) rfl wr.heap.size _ [(x.length : Int)] rfl HO.out _ _ _ x rfl rfl (fun e => by cases e) HI2.out (by simp; omega) (by simp) ?_; intro v5 w5 ho5 hg5; obtain ⟨a5, c5, e5, _, hi5⟩ := ho5.slAt; (rw [List.length_map] at e5); (rw [show ([(x.length : Int)] ++ x).length = ((x.length : Int) :: x).length from rfl] at e5); subst e5; have HI5 := Qa (show InAt w5 a5 ((x.length : Int) :: x) from hi5); have HB5 := Qa ((HB.out.alloc HB.out.size (.cells #[.int .i64 (x.length : Int)] 3)).grown hg5 (by have := HB.out.size; simp; omega) (fun k e => by have := (HO.out.lt k e).1; have := HB.out.size; omega)); clear ho5 hg5 hi5) | (go_at_call 191; refine (HN.out _ _ _ HI5.out).mono ?_; rintro e w6 ⟨rfl, hb6⟩; have HB6 := bu HB5 hb6; clear hb6))
   exact ⟨⟨k + 1, by omega, by go_num, by rw [HS.out], HB6.out⟩, by simp [intOf]; omega⟩
  ·obtain rfl : k = ls.length := by omega
   go_wp2
   go_ret
   exact ⟨by first | rfl | (rw [List.take_length]; rfl), HB.out⟩
structure En where
 time : Int
 kind : Int
 a : Int
 b : Int
 c : Int
 dg : Int
deriving DecidableEq
def enRow (e : En) : List Value := [.int .i64 e.time, .int .i64 e.kind, .int .i64 e.a, .int .i64 e.b, .int .i64 e.c, .int .u64 e.dg]
def EnAt (w : World) (a : Option Addr) (es : List En) : Prop := SlAt w a 6 (es.map enRow)
theorem EnAt.below {w w' : World} {a : Option Addr} {es : List En} (h : EnAt w a es) (hb : Below w.heap.size w w') : EnAt w' a es := SlAt.below h hb
theorem EnAt.get {w : World} {a : Option Addr} {es : List En} (h : EnAt w a es) (i : Nat) (hi : i < es.length) : ∃ b off, a = some ⟨b, off, none⟩ ∧
  w.cell? ⟨b, off + i * 6, none⟩ = some (.int .i64 es[i].time) ∧ w.cell? ⟨b, off + i * 6 + 1, none⟩ = some (.int .i64 es[i].kind) ∧ w.cell? ⟨b, off + i * 6 + 2, none⟩ = some (.int .i64 es[i].a) ∧
  w.cell? ⟨b, off + i * 6 + 3, none⟩ = some (.int .i64 es[i].b) ∧ w.cell? ⟨b, off + i * 6 + 4, none⟩ = some (.int .i64 es[i].c) ∧ w.cell? ⟨b, off + i * 6 + 5, none⟩ = some (.int .u64 es[i].dg) := by
 obtain ⟨b, off, e, _, _, hc⟩ := h i (enRow es[i]) (by simp [hi])
 refine ⟨b, off, e, ?_, ?_, ?_, ?_, ?_, ?_⟩
 ·exact (hc 0 _ rfl)
 ·exact (hc 1 _ rfl)
 ·exact (hc 2 _ rfl)
 ·exact (hc 3 _ rfl)
 ·exact (hc 4 _ rfl)
 ·exact (hc 5 _ rfl)
theorem eltEy : Elt Tryz.prog 41 50 6 48 enRow := ⟨Tryz.underlying41, ⟨.agg #[.int .i64 0, .int .i64 0, .int .i64 0, .int .i64 0, .int .i64 0, .int .u64 0], by kernel_rfl, rfl⟩, by decide, by decide, fun _ => rfl, fun x u hu => by simp [enRow] at hu; rcases hu with rfl | rfl | rfl | rfl | rfl | rfl <;> rfl⟩
structure Lm where
 l0 : Int
 h0 : Int
 l1 : Int
 h1 : Int
 l2 : Int
 h2 : Int
 d : Bool
def limB (x : Lm) (e : En) : Bool := inB e.time 0 1000000000 && (x.d || e.dg == 0) && inB e.a x.l0 x.h0 && inB e.b x.l1 x.h1 && inB e.c x.l2 x.h2
def lm1 : Lm := ⟨1, 1000000, 1, 1000000, 0, 0, false⟩
def lm2 : Lm := ⟨1, 1000000, 0, 0, 0, 0, true⟩
def lm3 : Lm := ⟨0, 1000, 0, 0, 0, 0, false⟩
def lm4 : Lm := ⟨0, 0, 0, 0, 0, 0, true⟩
def lm5 : Lm := ⟨1, 1000000, 1, 20000, 1, 1000000, false⟩
def Qt (e : En) : Bool := if e.kind == 1 then limB lm1 e else if e.kind == 2 then limB lm2 e else if e.kind == 3 then limB lm3 e else if e.kind == 4 then limB lm4 e else if e.kind == 5 then limB lm5 e else false
def QL (e : En) : List Int := [e.time, e.kind, e.a, e.b, e.c, e.dg / 4294967296, e.dg % 4294967296]
def En.wide (e : En) : Prop := 0 ≤ e.dg ∧ e.dg < 18446744073709551616
theorem YR {e : En} (h : Qt e = true) : (0 ≤ e.time ∧ e.time ≤ 1000000000) ∧ (1 ≤ e.kind ∧ e.kind ≤ 5) ∧ (0 ≤ e.a ∧ e.a ≤ 1000000) ∧ (0 ≤ e.b ∧ e.b ≤ 1000000) ∧ (0 ≤ e.c ∧ e.c ≤ 1000000) := by
 unfold Qt at h
 repeat' split at h
 all_goals first | cases h | (simp [limB, Zg] at *; simp only [lm1, lm2, lm3, lm4, lm5] at *; omega)
theorem entInts_ok {e : En} (h : Qt e = true) (hw : e.wide) : QL e ≠ [] ∧ (QL e).length ≤ 900 ∧ ∀ n ∈ QL e, 0 ≤ n ∧ n ≤ 9223372036854775807 := by
 obtain ⟨h1, h2, h3, h4, h5⟩ := YR h
 obtain ⟨w1, w2⟩ := hw
 refine ⟨by simp [QL], by simp [QL], fun n hn => ?_⟩
 simp only [QL, List.mem_cons, List.not_mem_nil, or_false] at hn
 rcases hn with rfl | rfl | rfl | rfl | rfl | rfl | rfl <;> omega
theorem low32 {d : Int} (h0 : 0 ≤ d) (h1 : d < 18446744073709551616) : bits .and .u64 d 4294967295 = d % 4294967296 := by
 have h := bits_mask .u64 64 (by decide) (fun n hn0 hn1 => by rw [IntKind.wrap_u64]; have e : (2 : Int) ^ 64 = 18446744073709551616 := (by decide); omega) 32 (by decide) d h0 (by have e : (2 : Int) ^ 64 = 18446744073709551616 := (by decide); omega)
 have e : ((2 : Int) ^ 32 - 1) = 4294967295 := by decide
 have e2 : ((2 : Int) ^ 32) = 4294967296 := by decide
 rw [e, e2] at h
 exact h
def Ju : Option Int → Int → Bool
 | none, _ => true
 | some t, u => decide (t ≤ u)
def QI : Option Int → List En → Bool
 | _, [] => true
 | p, e :: es => Qt e && Ju p e.time && QI (some e.time) es
def Qr (st : Int) (es : List En) : Int := if es = [] then 0 else ZD ([st] :: es.map QL)
structure Lg where
 st : Int
 es : List En
 ch : Int
def Qw (l : Lg) : Bool := inB l.st 1 1000000 && decide (l.es.length ≤ 5000) && QI none l.es && l.ch == Qr l.st l.es
def QR (l : Lg) (e : En) : Lg × Int := if !Qw l || !Qt e then (⟨0, [], 0⟩, 1) else if l.es.length = 5000 then (⟨0, [], 0⟩, 2)
 else if (match l.es.getLast? with | none => false | some x => decide (e.time < x.time)) then (⟨0, [], 0⟩, 6) else (⟨l.st, l.es ++ [e], Qr l.st (l.es ++ [e])⟩, 0)
def ZY (es : List En) (k : Nat) : Option Int := if k = 0 then none else (es[k - 1]?).map En.time
theorem entsOk_step (es : List En) (k : Nat) (hk : k < es.length) : QI (ZY es k) (es.drop k) = (Qt es[k] && Ju (ZY es k) es[k].time && QI (ZY es (k + 1)) (es.drop (k + 1))) := by
 rw [List.drop_eq_getElem_cons hk, QI]
 congr 2
 unfold ZY
 simp [hk]
theorem prevT_pos (es : List En) (k : Nat) (hk : k < es.length) (h0 : 0 < k) : ZY es k = some (es[k - 1]'(by omega)).time := by
 unfold ZY; rw [if_neg (by omega), List.getElem?_eq_getElem (by omega)]; rfl
theorem Yb : ∀ (es : List En) (p : Option Int), QI p es = true → ∀ e ∈ es, Qt e = true
 | [], _, _, _, h => by cases h
 | x :: es, p, h, e, he => by
  rw [QI, Bool.and_eq_true, Bool.and_eq_true] at h
  rcases List.mem_cons.1 he with rfl | he
  ·exact h.1.1
  ·exact Yb es _ h.2 e he
def lmV (x : Lm) : Value := .agg #[.int .i64 x.l0, .int .i64 x.h0, .int .i64 x.l1, .int .i64 x.h1, .int .i64 x.l2, .int .i64 x.h2, .bool x.d]
def limM : List (Int × Value) := [(1, lmV lm1), (2, lmV lm2), (3, lmV lm3), (4, lmV lm4), (5, lmV lm5)]
theorem limits_any (w : World) : Calls Tryz.prog 75 #[] w (NewMap limM w) := by
 have hmm := @run_makeMap Tryz.prog
 go_enter Tryz.func75, Tryz.ntmps75
 go_upto_region 2 with (fail)
 have HX := Qa (heap_alloc_new w (.cells #[.int .i64 1, .int .i64 1000000] 155))
 have HB := Qa (Qg (w := w) (.cells #[.int .i64 1, .int .i64 1000000] 155))
 have hWw : w.heap.size < (w.alloc (.cells #[.int .i64 1, .int .i64 1000000] 155)).heap.size := by simp
 generalize w.alloc (.cells #[.int .i64 1, .int .i64 1000000] 155) = W at *
 have HM0 := Qa (MapAt.new W encI)
 have HX0 := Qa (Qj HX.out (.map #[] 0))
 have HB0 := Qa (HB.out.alloc HB.out.size (.map #[] 0))
 have hc0 := Qb HX0.out
 go_wp2_with (first | (refine Qm rfl (.tmp 3) _ (.tmp 8) _ (.inr rfl) Tryz.underlying160 keyI W.heap.size _ rfl HM0.out 1 rfl _ rfl ?_; intro w1 hm1 hg1; have HM1 := Qa hm1; have HX1 := Qa ((hg1.block _ (by have := Qd HX0.out; omega) (by simp; omega)).trans HX0.out); have HB1 := Qa (HB0.out.grown hg1 HB0.out.size (fun k e => by cases e; omega)); clear hm1 hg1; try clear hc0; have hc1 := Qb HX1.out) | (refine Qm rfl (.tmp 3) _ (.tmp 13) _ (.inr rfl) Tryz.underlying160 keyI W.heap.size _ rfl HM1.out 2 rfl _ rfl ?_; intro w2 hm2 hg2; have HM2 := Qa hm2; have HX2 := Qa ((hg2.block _ (by have := Qd HX1.out; omega) (by simp; omega)).trans HX1.out); have HB2 := Qa (HB1.out.grown hg2 HB1.out.size (fun k e => by cases e; omega)); clear hm2 hg2; try clear hc1; have hc2 := Qb HX2.out) | (refine Qm rfl (.tmp 3) _ (.tmp 18) _ (.inr rfl) Tryz.underlying160 keyI W.heap.size _ rfl HM2.out 3 rfl _ rfl ?_; intro w3 hm3 hg3; have HM3 := Qa hm3; have HX3 := Qa ((hg3.block _ (by have := Qd HX2.out; omega) (by simp; omega)).trans HX2.out); have HB3 := Qa (HB2.out.grown hg3 HB2.out.size (fun k e => by cases e; omega)); clear hm3 hg3; try clear hc2; have hc3 := Qb HX3.out) | (refine Qm rfl (.tmp 3) _ (.tmp 23) _ (.inr rfl) Tryz.underlying160 keyI W.heap.size _ rfl HM3.out 4 rfl _ rfl ?_; intro w4 hm4 hg4; have HM4 := Qa hm4; have HX4 := Qa ((hg4.block _ (by have := Qd HX3.out; omega) (by simp; omega)).trans HX3.out); have HB4 := Qa (HB3.out.grown hg4 HB3.out.size (fun k e => by cases e; omega)); clear hm4 hg4; try clear hc3; have hc4 := Qb HX4.out) | (refine Qm rfl (.tmp 3) _ (.tmp 28) _ (.inr rfl) Tryz.underlying160 keyI W.heap.size _ rfl HM4.out 5 rfl _ rfl ?_; intro w5 hm5 hg5; have HM5 := Qa hm5; have HX5 := Qa ((hg5.block _ (by have := Qd HX4.out; omega) (by simp; omega)).trans HX4.out); have HB5 := Qa (HB4.out.grown hg5 HB4.out.size (fun k e => by cases e; omega)); clear hm5 hg5; try clear hc4; have hc5 := Qb HX5.out))
 go_ret
 exact ⟨_, rfl, HM5.out, HB5.out, Nat.le_of_lt hWw⟩
end Go.Proofs.YtajijcfikihhjaaGreatDoor
