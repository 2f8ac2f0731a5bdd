import Derived.Test.YtajijcfikihhjaaGreatDoorAAT
set_option linter.unusedSimpArgs false
set_option linter.unusedVariables false
set_option maxRecDepth 100000
set_option maxHeartbeats 16000000
namespace Go.Proofs.YtajijcfikihhjaaGreatDoor
open Go.RowKit Go.Sort Go.Shelf
def NxtI (l : List Lg) (st : Int) (k : Nat) (b : Int) : Prop := (b = -1 ∧ ∀ x ∈ l.take k, ¬ st < x.st) ∨ ∃ j, ∃ hj : j < l.length, j < k ∧ b = j ∧ st < l[j].st ∧ ∀ x ∈ l.take k, st < x.st → l[j].st ≤ x.st
theorem NxtI.done {l : List Lg} {st b : Int} (h : NxtI l st l.length b) : UD l st b := by
 rcases h with ⟨h1, h2⟩ | ⟨j, hj, _, h1, h2, h3⟩
 ·exact .inl ⟨h1, fun x hx => h2 x (by rwa [List.take_length])⟩
 ·exact .inr ⟨j, hj, h1, h2, fun x hx => h3 x (by rwa [List.take_length])⟩
theorem NxtI.skip {l : List Lg} {st b : Int} {k : Nat} (hk : k < l.length) (h : NxtI l st k b) (hs : ¬ st < l[k].st ∨ ∃ j, ∃ hj : j < l.length, b = j ∧ l[j].st ≤ l[k].st) : NxtI l st (k + 1) b := by
 rw [NxtI, List.take_succ_eq_append_getElem hk]
 rcases h with ⟨h1, h2⟩ | ⟨j, hj, h0, h1, h2, h3⟩
 ·refine .inl ⟨h1, fun x hx => ?_⟩
  rcases List.mem_append.1 hx with hx | hx
  ·exact h2 x hx
  ·rw [List.mem_singleton.1 hx]
   rcases hs with hs | ⟨j, hj, e, _⟩
   ·exact hs
   ·omega
 ·refine .inr ⟨j, hj, by omega, h1, h2, fun x hx hlt => ?_⟩
  rcases List.mem_append.1 hx with hx | hx
  ·exact h3 x hx hlt
  ·rw [List.mem_singleton.1 hx] at hlt ⊢
   rcases hs with hs | ⟨i, hi, e, h⟩
   ·exact absurd hlt hs
   ·obtain rfl : i = j := by omega
    exact h
theorem NxtI.take {l : List Lg} {st b : Int} {k : Nat} (hk : k < l.length) (h : NxtI l st k b) (h1 : st < l[k].st) (hs : b = -1 ∨ ∃ j, ∃ hj : j < l.length, b = j ∧ l[k].st < l[j].st) : NxtI l st (k + 1) k := by
 refine .inr ⟨k, hk, by omega, rfl, h1, fun x hx hlt => ?_⟩
 rw [List.take_succ_eq_append_getElem hk] at hx
 rcases List.mem_append.1 hx with hx | hx
 ·rcases h with ⟨_, h2⟩ | ⟨j, hj, h0, e, h2, h3⟩
  ·exact absurd hlt (h2 x hx)
  ·rcases hs with hs | ⟨i, hi, e2, h4⟩
   ·omega
   ·obtain rfl : i = j := by omega
    have := h3 x hx hlt
    omega
 ·rw [List.mem_singleton.1 hx]; exact Int.le_refl _
theorem QX (l : List (Lg × Lq)) (k : Nat) (hk : k < l.length) : (Qp l)[k]'(by simpa [Qp] using hk) = l[k].1 := by simp [Qp]
theorem Rnext_any (a : Option Addr) (cap : Nat) (l : List (Lg × Lq)) (st : Int) (w : World) (hl : l.length ≤ 1000) (ha : LgsAt w a l) :
  Calls Tryz.prog 38 #[.slice a l.length cap, .int .i64 st] w fun e w' => (∃ b, e = .returned (.int .i64 b) ∧ UD (Qp l) st b) ∧ Below w.heap.size w w' := by
 have HA := Qa ha
 have HN := Qa (show (Qp l).length = l.length by simp [Qp])
 clear ha
 go_enter Tryz.func38, Tryz.ntmps38
 go_wp2
 go_loopw [5, 6] (fun b i wr => ∃ (k : Nat) (bb : Int), k ≤ l.length ∧ i = .int .i64 k ∧ b = .int .i64 bb ∧ NxtI (Qp l) st k bb ∧ Below w.heap.size w wr) (fun _ i _ => l.length - (intOf i).toNat)
 case atStart => exact ⟨0, -1, Nat.zero_le _, rfl, rfl, .inl ⟨rfl, by simp⟩, Below.refl _ _⟩
 case round =>
  obtain ⟨k, bb, hk, rfl, rfl, hx, hb⟩ := hrel
  have HB := Qa hb; have HI := Qa hx
  clear hb
  by_cases hlt : k < l.length
  ·have hkn : k < (Qp l).length := by rw [HN.out]; exact hlt
   obtain ⟨b, off, rfl, d0, _, _⟩ := LgsAt.get (HA.out.below HB.out) k hlt
   have hli : (k : Int) < (l.length : Int) := by omega
   have hwk : IntKind.i64.wrap ((k : Int) + 1) = (k : Int) + 1 := IntWalk.i64_in _ (by omega)
   have HS := Qa (NxtI.skip hkn HI.out); have HT := Qa (NxtI.take hkn HI.out)
   rw [QX l k hlt] at HS HT
   by_cases hs : st < l[k].1.st
   ·have hsb : decide (l[k].1.st > st) = true := decide_eq_true hs
    rcases hx with ⟨rfl, _⟩ | ⟨j, hj, hjk, rfl, _, _⟩
    ·have HT2 := Qa (HT.out hs (.inl rfl))
     generalize l[k] = x at *
     clear hs HS HT HI
     go_upto_region 5 with (fail)
     go_quiet (fail)
     go_wp2
     go_roundw
     case rel => exact ⟨k + 1, _, by omega, by go_num, rfl, HT2.out, below_drewN HB.out _⟩
     case measure => simp [intOf]; omega
    ·have hjl : j < l.length := by rw [HN.out] at hj; exact hj
     obtain ⟨b', off', eq', e0, _, _⟩ := LgsAt.get (HA.out.below HB.out) j hjl
     cases eq'
     have hji : (j : Int) < (l.length : Int) := by omega
     have hj0 : decide ((j : Int) < 0) = false := decide_eq_false (by omega)
     have hjn : (0 : Int) ≤ (j : Int) := by omega
     by_cases h2 : l[k].1.st < l[j].1.st
     ·have h2b : decide (l[k].1.st < l[j].1.st) = true := decide_eq_true h2
      have HT2 := Qa (HT.out hs (.inr ⟨j, hj, rfl, by rw [QX l j hjl]; exact h2⟩))
      generalize l[j] = y at *
      generalize l[k] = x at *
      clear hs h2 HS HT HI
      go_upto_region 5 with (fail)
      go_quiet (fail)
      go_wp2
      go_roundw
      case rel => exact ⟨k + 1, _, by omega, by go_num, rfl, HT2.out, below_drewN HB.out _⟩
      case measure => simp [intOf]; omega
     ·have h2b : decide (l[k].1.st < l[j].1.st) = false := decide_eq_false h2
      have HS2 := Qa (HS.out (.inr ⟨j, hj, rfl, by rw [QX l j hjl]; omega⟩))
      generalize l[j] = y at *
      generalize l[k] = x at *
      clear hs h2 HS HT HI
      go_upto_region 5 with (fail)
      go_quiet (fail)
      go_wp2
      go_roundw
      case rel => exact ⟨k + 1, _, by omega, by go_num, rfl, HS2.out, below_drewN HB.out _⟩
      case measure => simp [intOf]; omega
   ·have hsb : decide (l[k].1.st > st) = false := decide_eq_false hs
    have HS2 := Qa (HS.out (.inl hs))
    generalize l[k] = x at *
    clear hs HS HT HI hx
    go_upto_region 5 with (fail)
    go_quiet (fail)
    go_wp2
    go_roundw
    case rel => exact ⟨k + 1, _, by omega, by go_num, rfl, HS2.out, below_drewN HB.out _⟩
    case measure => simp [intOf]; omega
  ·obtain rfl : k = l.length := by omega
   have HD := Qa (show UD (Qp l) st bb from NxtI.done (by rw [HN.out]; exact HI.out))
   clear hx HI
   go_wp2
   go_ret
   exact ⟨⟨bb, rfl, HD.out⟩, HB.out⟩
def J7 (l : List Lg) (k : Nat) : Prop := (∀ x ∈ l.take k, Qw x = true) ∧ ((l.take k).map Lg.st).Nodup
theorem logsT_done {l : List Lg} (h : J7 l l.length) : QU l = true := by
 unfold J7 at h
 rw [List.take_length] at h
 unfold QU
 simp only [Bool.and_eq_true, List.all_eq_true, decide_eq_true_eq]
 exact h
theorem logsT_step {l : List Lg} {k : Nat} (hk : k < l.length) (h : J7 l k) (h1 : Qw l[k] = true) (h2 : ∀ j (hj : j < l.length), j < k → l[j].st ≠ l[k].st) : J7 l (k + 1) := by
 unfold J7
 rw [List.take_succ_eq_append_getElem hk]
 refine ⟨fun x hx => ?_, ?_⟩
 ·rcases List.mem_append.1 hx with hx | hx
  ·exact h.1 x hx
  ·rw [List.mem_singleton.1 hx]; exact h1
 ·rw [List.map_append, List.map_singleton, List.nodup_append]
  refine ⟨h.2, by simp, fun a ha b hb => ?_⟩
  rw [List.mem_singleton.1 hb]
  obtain ⟨x, hx, rfl⟩ := List.mem_map.1 ha
  obtain ⟨j, hj, rfl⟩ := List.mem_take_iff_getElem.1 hx
  exact h2 j (by omega) (by omega)
theorem logsB_bad {l : List Lg} {k : Nat} (hk : k < l.length) (h : Qw l[k] = false) : QU l = false := by
 cases hb : QU l
 ·rfl
 ·unfold QU at hb
  simp only [Bool.and_eq_true, List.all_eq_true] at hb
  rw [hb.1 _ (List.getElem_mem hk)] at h; cases h
theorem logsB_twice {l : List Lg} {j k : Nat} (hk : k < l.length) (hjk : j < k) (h : l[j].st = l[k].st) : QU l = false := by
 cases hb : QU l
 ·rfl
 ·have hn := (logsB_ok hb).2
  exact absurd (by rw [List.getElem_map, List.getElem_map]; exact h) (List.pairwise_iff_getElem.1 hn j k (by simp; omega) (by simpa using hk) hjk)
theorem RLogs_any (a : Option Addr) (cap : Nat) (l : List (Lg × Lq)) (w : World) (hf : LgFew l) (ha : LgsAt w a l) :
  Calls Tryz.prog 37 #[.slice a l.length cap] w fun e w' => e = .returned (.bool (QU (Qp l))) ∧ Below w.heap.size w w' := by
 have HV := Qa (fun (x : Lg × Lq) (hx : x ∈ l) V (hV : Below w.heap.size w V) => RValid37_any x.1 x.2.a x.2.c V (by have := hf.es x hx; omega) (hf.wide x hx) ((ha.es x hx).below hV))
 have HA := Qa ha
 have HN := Qa (show (Qp l).length = l.length by simp [Qp])
 have hlen := hf.len
 clear ha hf
 go_enter Tryz.func37, Tryz.ntmps37
 go_wp2
 go_loopw [3] (fun i wr => ∃ (k : Nat), k ≤ l.length ∧ i = .int .i64 k ∧ J7 (Qp l) k ∧ Below w.heap.size w wr) (fun i _ => l.length - (intOf i).toNat)
 case atStart => exact ⟨0, Nat.zero_le _, rfl, ⟨by simp, by simp⟩, Below.refl _ _⟩
 case round =>
  obtain ⟨k, hk, rfl, hx, hb⟩ := hrel
  have HB := Qa hb; have HI := Qa hx
  clear hb hx
  by_cases hlt : k < l.length
  ·have hkn : k < (Qp l).length := by rw [HN.out]; exact hlt
   obtain ⟨b, off, ea, d0, d1, d2⟩ := LgsAt.get (HA.out.below HB.out) k hlt
   have hli : (k : Int) < (l.length : Int) := by omega
   have HVk := Qa (HV.out l[k] (List.getElem_mem hlt) wr HB.out)
   have HLG := Qa (fun V (hV : Below w.heap.size w V) j (hj : j < l.length) => LgsAt.get (HA.out.below hV) j hj)
   have HBad := Qa (fun (h : Qw l[k].1 = false) => logsB_bad hkn (show Qw (Qp l)[k] = false by rw [QX l k hlt]; exact h))
   have HTw := Qa (fun (j : Nat) (hj : j < l.length) (hjk : j < k) (h : l[j].1.st = l[k].1.st) => logsB_twice hkn hjk (by rw [QX l j hj, QX l k hlt]; exact h))
   have HSt := Qa (fun (h1 : Qw l[k].1 = true) (h2 : ∀ j (hj : j < l.length), j < k → l[j].1.st ≠ l[k].1.st) => logsT_step hkn HI.out (by rw [QX l k hlt]; exact h1) (fun j hj hjk => by rw [QX l j (by rw [HN.out] at hj; exact hj), QX l k hlt]; exact h2 j (by rw [HN.out] at hj; exact hj) hjk))
   generalize hx : l[k] = x at *
   have HXk := Qa hx
   clear hx
   cases hv : Qw x.1
   ·have HN2 := Qa (HBad.out hv)
    rw [hv] at HVk
    clear hv
    subst ea
    go_wp2_with (go_at_call 69; refine HVk.out.mono ?_; rintro e5 w5 ⟨rfl, hb5⟩)
    go_ret
    exact ⟨Qf HN2.out.symm, HB.out.trans (hb5.mono HB.out.size)⟩
   ·have HS2 := Qa (HSt.out hv)
    rw [hv] at HVk
    clear hv HSt HBad
    subst ea
    go_upto_region 6 with (go_at_call 69; refine HVk.out.mono ?_; rintro e5 w5 ⟨rfl, hb5⟩)
    have HB5 := bu HB hb5
    clear d0 d1 d2 hb5 HVk HB
    go_wp2
    go_loopw [4] (fun i wi => ∃ (j : Nat), j ≤ k ∧ i = .int .i64 j ∧ (∀ i (hi : i < l.length), i < j → l[i].1.st ≠ x.1.st) ∧ Below w.heap.size w wi) (fun i _ => k - (intOf i).toNat)
    case atStart => exact ⟨0, Nat.zero_le _, rfl, fun i hi h => by omega, HB5.out⟩
    case round =>
     obtain ⟨j, hj, rfl, hne, hb⟩ := hrel
     have HB := Qa hb; have HNe := Qa hne
     clear hb hne HB5
     by_cases hjk : j < k
     ·have hjl : j < l.length := by omega
      obtain ⟨b1, off1, ea1, f0, _, _⟩ := HLG.out wr HB.out j hjl
      obtain ⟨b2, off2, ea2, f1, _, _⟩ := HLG.out wr HB.out k hlt
      cases ea1; cases ea2
      rw [HXk.out] at f1
      have hji : (j : Int) < (k : Int) := by omega
      have hjl2 : (j : Int) < (l.length : Int) := by omega
      have hwj : IntKind.i64.wrap ((j : Int) + 1) = (j : Int) + 1 := IntWalk.i64_in _ (by omega)
      have HTj := Qa (HTw.out j hjl hjk)
      have HNj := Qa (fun (h : l[j].1.st ≠ x.1.st) i (hi : i < l.length) (hij : i < j + 1) => if e : i = j then by subst e; exact h else HNe.out i hi (by omega) : l[j].1.st ≠ x.1.st → ∀ i (hi : i < l.length), i < j + 1 → l[i].1.st ≠ x.1.st)
      generalize l[j] = y at *
      by_cases he : y.1.st = x.1.st
      ·have heb : (y.1.st == x.1.st) = true := by simp [he]
       have HF := Qa (HTj.out he)
       clear he HTj HNj
       go_upto_region 9 with (fail)
       go_quiet (fail)
       go_wp2
       go_ret
       exact ⟨Qf HF.out.symm, below_drewN HB.out _⟩
      ·have heb : (y.1.st == x.1.st) = false := by simp [he]
       have HF := Qa (HNj.out he)
       clear he HTj HNj
       go_upto_region 9 with (fail)
       go_quiet (fail)
       go_wp2
       go_roundw
       case rel => exact ⟨j + 1, by omega, by go_num, HF.out, below_drewN HB.out _⟩
       case measure => simp [intOf]; omega
     ·obtain rfl : j = k := by omega
      have HS3 := Qa (HS2.out HNe.out)
      have hwk : IntKind.i64.wrap ((j : Int) + 1) = (j : Int) + 1 := IntWalk.i64_in _ (by omega)
      go_wp2
      go_roundw
      case rel => exact ⟨j + 1, by omega, by go_num, HS3.out, HB.out⟩
      case measure => simp [intOf]; omega
  ·obtain rfl : k = l.length := by omega
   have HD := Qa (logsT_done (l := Qp l) (by rw [HN.out]; exact HI.out))
   go_wp2
   go_ret
   exact ⟨Qf HD.out.symm, HB.out⟩
theorem libB_bad {L : Lb} {d : List De} (h : QH (Qk L.ws) d = false ∨ QP L.los = false) : libB L d = false := by
 unfold libB
 rcases h with h | h <;> rw [h] <;> simp
theorem libB_of {L : Lb} {d : List De} (h1 : QH (Qk L.ws) d = true) (h2 : QP L.los = true) (h3 : L.shs.length ≤ 5000) : libB L d = decide ((L.shs.map Sx.id).Nodup) := by
 unfold libB; rw [h1, h2, decide_eq_true h3]; rfl
theorem RLibrary_any (L : Lb) (P : Lbp) (d : List De) (da : Option Addr) (dc : Nat) (w : World) (hf : LbFew L) (hdl : d.length ≤ 1000) (hL : LbAt w L P) (hd : DeAt w da d) :
  Calls Tryz.prog 36 #[.agg #[.slice P.wa L.ws.length P.wc, .slice P.ea L.eds.length P.ec, .slice P.sa L.shs.length P.sc, .slice P.la L.los.length P.lc], .slice da d.length dc] w fun e w' => e = .returned (.bool (libB L d)) ∧ Below w.heap.size w w' := by
 obtain ⟨wa, wc, ea, ec, sa, sc, la, lc⟩ := P
 have HX := Qa (heap_alloc_new w (.cells #[.slice ((⟨wa, wc, ea, ec, sa, sc, la, lc⟩ : Lbp)).wa L.ws.length ((⟨wa, wc, ea, ec, sa, sc, la, lc⟩ : Lbp)).wc, .slice ((⟨wa, wc, ea, ec, sa, sc, la, lc⟩ : Lbp)).ea L.eds.length ((⟨wa, wc, ea, ec, sa, sc, la, lc⟩ : Lbp)).ec, .slice ((⟨wa, wc, ea, ec, sa, sc, la, lc⟩ : Lbp)).sa L.shs.length ((⟨wa, wc, ea, ec, sa, sc, la, lc⟩ : Lbp)).sc, .slice ((⟨wa, wc, ea, ec, sa, sc, la, lc⟩ : Lbp)).la L.los.length ((⟨wa, wc, ea, ec, sa, sc, la, lc⟩ : Lbp)).lc] 27))
 have HB := Qa (Qg (w := w) (.cells #[.slice ((⟨wa, wc, ea, ec, sa, sc, la, lc⟩ : Lbp)).wa L.ws.length ((⟨wa, wc, ea, ec, sa, sc, la, lc⟩ : Lbp)).wc, .slice ((⟨wa, wc, ea, ec, sa, sc, la, lc⟩ : Lbp)).ea L.eds.length ((⟨wa, wc, ea, ec, sa, sc, la, lc⟩ : Lbp)).ec, .slice ((⟨wa, wc, ea, ec, sa, sc, la, lc⟩ : Lbp)).sa L.shs.length ((⟨wa, wc, ea, ec, sa, sc, la, lc⟩ : Lbp)).sc, .slice ((⟨wa, wc, ea, ec, sa, sc, la, lc⟩ : Lbp)).la L.los.length ((⟨wa, wc, ea, ec, sa, sc, la, lc⟩ : Lbp)).lc] 27))
 have HV := Qa (fun V (hV : Below w.heap.size w V) => RValid30_any wa wc L.ws da dc d V hf.ws hf.forms (hL.ws.below hV) (by omega) (SlAt.below hd hV))
 have HO := Qa (fun V (hV : Below w.heap.size w V) => Valid_any la L.los.length lc L.los V rfl (by have := hf.los; omega) hL.okl (LoAt.below hL.los hV))
 have HS := Qa (show SxAt w sa L.shs from hL.shs)
 have hoks := hL.oks
 have hsl := hf.shs
 clear hL hd
 dsimp only at *
 go_enter Tryz.func36, Tryz.ntmps36
 go_upto_region 1 with (fail)
 generalize w.alloc _ = W at *
 have hc := Qb HX.out
 cases hv : QH (Qk L.ws) d
 ·have HN := Qa (libB_bad (L := L) (.inl hv))
  rw [hv] at HV
  clear hv
  go_wp2_with (go_at_call 67; refine (HV.out _ HB.out).mono ?_; rintro e5 w5 ⟨rfl, hb5⟩)
  go_ret
  exact ⟨Qf HN.out.symm, HB.out.trans (hb5.mono HB.out.size)⟩
 cases ho : QP L.los
 ·have HN := Qa (libB_bad (L := L) (d := d) (.inr ho))
  rw [hv] at HV
  rw [ho] at HO
  clear hv ho
  go_wp2_with (first | (go_at_call 67; refine (HV.out _ HB.out).mono ?_; rintro e5 w5 ⟨rfl, hb5⟩; clear hc; have hc := Qb (Qc HX.out hb5); replace HB := bu HB hb5; clear hb5) | (go_at_call 68; refine (HO.out _ HB.out).mono ?_; rintro e5 w5 ⟨rfl, hb5⟩))
  go_ret
  exact ⟨Qf HN.out.symm, HB.out.trans (hb5.mono HB.out.size)⟩
 have HN := Qa (libB_of hv ho (by omega))
 rw [hv] at HV
 rw [ho] at HO
 clear hv ho
 have h5 : decide ((L.shs.length : Int) > 5000) = false := decide_eq_false (by omega)
 go_upto_region 3 with (first | (go_at_call 67; refine (HV.out _ HB.out).mono ?_; rintro e5 w5 ⟨rfl, hb5⟩; clear hc; replace HX := bk HX hb5; have hc := Qb HX.out; replace HB := bu HB hb5; clear hb5) | (go_at_call 68; refine (HO.out _ HB.out).mono ?_; rintro e6 w6 ⟨rfl, hb6⟩; clear hc; replace HX := bk HX hb6; have hc := Qb HX.out; replace HB := bu HB hb6; clear hb6))
 clear hc
 go_wp2
 go_loopw [5] (fun i wr => ∃ (k : Nat), k ≤ L.shs.length ∧ i = .int .i64 k ∧ ((L.shs.take k).map Sx.id).Nodup ∧ wr.heap[w.heap.size]? = some (.cells #[.slice ((⟨wa, wc, ea, ec, sa, sc, la, lc⟩ : Lbp)).wa L.ws.length ((⟨wa, wc, ea, ec, sa, sc, la, lc⟩ : Lbp)).wc, .slice ((⟨wa, wc, ea, ec, sa, sc, la, lc⟩ : Lbp)).ea L.eds.length ((⟨wa, wc, ea, ec, sa, sc, la, lc⟩ : Lbp)).ec, .slice ((⟨wa, wc, ea, ec, sa, sc, la, lc⟩ : Lbp)).sa L.shs.length ((⟨wa, wc, ea, ec, sa, sc, la, lc⟩ : Lbp)).sc, .slice ((⟨wa, wc, ea, ec, sa, sc, la, lc⟩ : Lbp)).la L.los.length ((⟨wa, wc, ea, ec, sa, sc, la, lc⟩ : Lbp)).lc] 27) ∧ Below w.heap.size w wr) (fun i _ => L.shs.length - (intOf i).toNat)
 case atStart => exact ⟨0, Nat.zero_le _, rfl, by simp, HX.out, HB.out⟩
 case round =>
  clear HX HB
  obtain ⟨k, hk, rfl, hnd, hx, hb⟩ := hrel
  dsimp only at hx
  have HX := Qa hx; have HB := Qa hb; have HD := Qa hnd
  clear hx hb hnd
  have hc := Qb HX.out
  by_cases hlt : k < L.shs.length
  ·obtain ⟨b, off, ea, d0, _⟩ := SxAt.get (SlAt.below HS.out HB.out) k hlt
   have hli : (k : Int) < (L.shs.length : Int) := by omega
   have hwk : IntKind.i64.wrap ((k : Int) + 1) = (k : Int) + 1 := IntWalk.i64_in _ (by omega)
   have hkc : k ≤ sc := Nat.le_trans hk hoks.le
   have HSk := Qa (fun id V (hV : Below w.heap.size w V) => by
    have h := RSheet_any sa sc (L.shs.take k) id V (by rw [List.length_take]; omega) (by unfold SxAt; rw [List.map_take]; exact SlAt.take (SlAt.below HS.out hV) k)
    rw [show (L.shs.take k).length = k by rw [List.length_take]; omega] at h
    exact h)
   have hix := idx_find (fun s : Sx => decide (s.id = L.shs[k].id)) (L.shs.take k)
   have HT := Qa (show L.shs.take (k + 1) = L.shs.take k ++ [L.shs[k]] from List.take_succ_eq_append_getElem hlt)
   have HM := Qa (show ∀ x ∈ L.shs.take k, x.id = L.shs[k].id → ¬ (L.shs.map Sx.id).Nodup from fun x hx he hn => by
    obtain ⟨j, hj, rfl⟩ := List.mem_take_iff_getElem.1 hx
    exact absurd (by rw [List.getElem_map, List.getElem_map]; exact he) (List.pairwise_iff_getElem.1 hn j k (by simp; omega) (by simpa using hlt) (by omega)))
   rw [show idxO (fun s : Sx => decide (s.id = L.shs[k].id)) (L.shs.take k) = JU (L.shs.take k) L.shs[k].id from rfl] at hix
   generalize L.shs[k] = y at *
   subst ea
   go_upto_region 6 with (fail)
   have g0 := cell_regrown (hc 2); have g1 := cell_regrown d0
   rcases hix with ⟨j, hj, e1, e2⟩ | ⟨e1, e2⟩
   ·rw [List.find?_eq_some_iff_getElem] at e2
    have HF := Qa (HM.out (L.shs.take k)[j] (List.getElem_mem hj) (by simpa using e2.1))
    clear e2
    have hge : decide (JU (L.shs.take k) y.id ≥ 0) = true := by rw [e1]; exact decide_eq_true (by omega)
    clear e1
    refine Qn (by kernel_rfl) (by kernel_rfl) ?_; (repeat (go_big_quiet_step (first | (go_at_call 53; refine Calls.regrown_of (HSk.out _ _ (HB.out.trans (by first | exact (below_regrown _ _ _).mono HB.out.size | exact (Below.refl _ _)))))))); refine wpQuiet_nil ?_; intro w5 hb5; clear g0 g1 d0
    go_wp2
    go_ret
    exact ⟨Qf (by rw [HN.out]; exact (decide_eq_false HF.out).symm), HB.out.trans (hb5.mono HB.out.size)⟩
   ·have hge : decide (JU (L.shs.take k) y.id ≥ 0) = false := by rw [e1]; rfl
    have HD2 := Qa (show ((L.shs.take (k + 1)).map Sx.id).Nodup by
     rw [HT.out, List.map_append, List.map_singleton, List.nodup_append]
     refine ⟨HD.out, by simp, fun a ha b hb => ?_⟩
     rw [List.mem_singleton.1 hb]
     obtain ⟨x, hx, rfl⟩ := List.mem_map.1 ha
     have := List.find?_eq_none.1 e2 x hx
     simpa using this)
    clear e1 e2
    refine Qn (by kernel_rfl) (by kernel_rfl) ?_; (repeat (go_big_quiet_step (first | (go_at_call 53; refine Calls.regrown_of (HSk.out _ _ (HB.out.trans (by first | exact (below_regrown _ _ _).mono HB.out.size | exact (Below.refl _ _)))))))); refine wpQuiet_nil ?_; intro w5 hb5; clear g0 g1 d0
    go_wp2
    go_roundw
    case rel => exact ⟨k + 1, by omega, by go_num, HD2.out, Qc HX.out hb5, HB.out.trans (hb5.mono HB.out.size)⟩
    case measure => simp [intOf]; omega
  ·obtain rfl : k = L.shs.length := by omega
   rw [List.take_length] at HD
   go_wp2
   go_ret
   exact ⟨Qf (by rw [HN.out]; exact (decide_eq_true HD.out).symm), HB.out⟩
def YL (l : List Lg) : List (Int × Value) := l.foldl (fun m x => mput m x.st (.bool true)) []
theorem seenL_snoc (l : List Lg) (x : Lg) : YL (l ++ [x]) = mput (YL l) x.st (.bool true) := by simp [YL, List.foldl_append]
theorem seenL_get (l : List Lg) (st : Int) : mget (YL l) st = if l.any (fun x => decide (x.st = st)) then some (.bool true) else none := by
 induction l using YU with
 | h0 => simp [YL, Q2]
 | h1 l x ih =>
  rw [seenL_snoc, ZB, ih, List.any_append]
  by_cases h : st = x.st
  ·subst h; simp
  ·have h' : ¬ x.st = st := fun e => h e.symm
   simp [h, h']
theorem seenLook {W : World} {r : Nat} {l : List Lg} (hm : MapAt W encI r (YL l)) (k : Int) : (Instr.lookup 140 (.map (some r)) (.int .i64 k) false).run Tryz.prog W = .ok (.bool (l.any fun x => decide (x.st = k))) W := by
 have h := QF (P := Tryz.prog) (z := .bool false) Tryz.underlying140 keyI (fun w => by kernel_rfl) hm k false
 rw [seenL_get] at h
 refine h.trans ?_
 cases l.any fun x => decide (x.st = k) <;> rfl
theorem areLogs_any (a : Option Addr) (cap : Nat) (l : List (Lg × Lq)) (w : World) (hf : LgFew l) (hE : EnvP w) (ha : LgsAt w a l) :
  Calls Tryz.prog 31 #[.slice a l.length cap] w fun e w' => e = .returned (.bool (QU (Qp l))) ∧ Below w.heap.size w w' := by
 have HV := Qa (fun (x : Lg × Lq) (hx : x ∈ l) V (hV : Below w.heap.size w V) => Valid37_any x.1 x.2.a x.2.c V (by have := hf.es x hx; omega) (hf.wide x hx) (hE.below hV) ((ha.es x hx).below hV))
 have HA := Qa ha
 have HN := Qa (show (Qp l).length = l.length by simp [Qp])
 have hlen := hf.len
 clear ha hf hE
 have hmm := @run_makeMap Tryz.prog
 go_enter Tryz.func31, Tryz.ntmps31
 go_upto_region 2 with (fail)
 have HM0 := Qa (show MapAt (w.alloc (.map #[] 0)) encI w.heap.size (YL []) from MapAt.new w encI)
 have HB0 := Qa (Qg (w := w) (.map #[] 0))
 have HZ0 := Qa (show w.heap.size < (w.alloc (.map #[] 0)).heap.size by simp)
 generalize w.alloc (.map #[] 0) = W at *
 go_wp2
 go_loopw [9] (fun i wr => ∃ (k : Nat), k ≤ l.length ∧ i = .int .i64 k ∧ J7 (Qp l) k ∧ MapAt wr encI w.heap.size (YL ((Qp l).take k)) ∧ Below w.heap.size w wr) (fun i _ => l.length - (intOf i).toNat)
 case atStart => exact ⟨0, Nat.zero_le _, rfl, ⟨by simp, by simp⟩, HM0.out, HB0.out⟩
 case round =>
  clear HM0 HB0
  obtain ⟨k, hk, rfl, hx, hm, hb⟩ := hrel
  have HB := Qa hb; have HI := Qa hx; have HM := Qa hm
  clear hb hx hm
  by_cases hlt : k < l.length
  ·have hkn : k < (Qp l).length := by rw [HN.out]; exact hlt
   obtain ⟨b, off, ea, d0, d1, d2⟩ := LgsAt.get (HA.out.below HB.out) k hlt
   have hli : (k : Int) < (l.length : Int) := by omega
   have hwk : IntKind.i64.wrap ((k : Int) + 1) = (k : Int) + 1 := IntWalk.i64_in _ (by omega)
   have HVk := Qa (fun V hV => HV.out l[k] (List.getElem_mem hlt) V hV)
   have HBad := Qa (fun (h : Qw l[k].1 = false) => logsB_bad hkn (show Qw (Qp l)[k] = false by rw [QX l k hlt]; exact h))
   have HTw := Qa (fun (h : ((Qp l).take k).any (fun y => decide (y.st = l[k].1.st)) = true) => show QU (Qp l) = false by
    obtain ⟨y, hy, he⟩ := List.any_eq_true.1 h
    obtain ⟨j, hj, rfl⟩ := List.mem_take_iff_getElem.1 hy
    exact logsB_twice hkn (show j < k by omega) (by rw [QX l k hlt]; exact of_decide_eq_true he))
   have HSt := Qa (fun (h1 : Qw l[k].1 = true) (h2 : ((Qp l).take k).any (fun y => decide (y.st = l[k].1.st)) = false) => logsT_step hkn HI.out (by rw [QX l k hlt]; exact h1) (fun j hj hjk => fun he => by
    rw [List.any_eq_false] at h2
    exact h2 _ (List.mem_take_iff_getElem.2 ⟨j, by omega, rfl⟩) (decide_eq_true (by rw [he, QX l k hlt]))))
   have HSn := Qa (show YL ((Qp l).take (k + 1)) = mput (YL ((Qp l).take k)) l[k].1.st (.bool true) by rw [List.take_succ_eq_append_getElem hkn, seenL_snoc, QX l k hlt])
   generalize l[k] = y at *
   obtain ⟨x, p⟩ := y
   dsimp only at *
   subst ea
   go_upto_region 5 with (fail)
   have hx1 := heap_alloc_new wr (.cells #[.int .i64 x.st, .slice p.a x.es.length p.c, .int .u64 x.ch] 44)
   have hb1 := Qg (w := wr) (.cells #[.int .i64 x.st, .slice p.a x.es.length p.c, .int .u64 x.ch] 44)
   have HX := Qa hx1; have HM1 := Qa (HM.out.below hb1); have HB1 := Qa (HB.out.alloc HB.out.size (.cells #[.int .i64 x.st, .slice p.a x.es.length p.c, .int .u64 x.ch] 44))
   clear d0 d1 d2 hx1 hb1 HM HB
   generalize wr.alloc (.cells #[.int .i64 x.st, .slice p.a x.es.length p.c, .int .u64 x.ch] 44) = w1 at *
   generalize wr.heap.size = xb at *
   have hc := Qb HX.out
   cases hv : Qw x
   ·have HN2 := Qa (HBad.out hv)
    rw [hv] at HVk
    clear hv
    go_wp2_with (go_at_call 59; refine (HVk.out _ HB1.out).mono ?_; rintro e5 w5 ⟨rfl, hb5⟩)
    go_ret
    exact ⟨Qf HN2.out.symm, HB1.out.trans (hb5.mono HB1.out.size)⟩
   ·have HS2 := Qa (HSt.out hv)
    rw [hv] at HVk
    clear hv HSt HBad
    cases hs : ((Qp l).take k).any (fun y => decide (y.st = x.st))
    ·have HS3 := Qa (HS2.out hs)
     clear HTw HS2
     go_upto_region 7 with (go_at_call 59; refine (HVk.out _ HB1.out).mono ?_; rintro e5 w5 ⟨rfl, hb5⟩; have HX5 := bk HX hb5; have HM5 := Qa (HM1.out.below hb5); have HB5 := bu HB1 hb5; have hl := seenLook HM5.out x.st; rw [hs] at hl; clear hc hb5; have hc := Qb HX5.out)
     clear hl hs
     go_wp2_with (refine Qm rfl (.tmp 22) (.tmp 24) _ _ (.inl rfl) Tryz.underlying140 keyI w.heap.size _ rfl HM5.out x.st rfl _ rfl ?_; intro w6 hm6 hg6; have HM6 := Qa (show MapAt w6 encI w.heap.size (mput (YL ((Qp l).take k)) x.st (.bool true)) from hm6); have HB6 := Qa (HB5.out.grown hg6 HB5.out.size (fun k e => by cases e; omega)); clear hm6 hg6)
     go_roundw
     case rel => exact ⟨k + 1, by omega, by go_num, HS3.out, by rw [HSn.out]; exact HM6.out, HB6.out⟩
     case measure => simp [intOf]; omega
    ·have HN2 := Qa (HTw.out hs)
     clear HTw HS2
     go_wp2_with (go_at_call 59; refine (HVk.out _ HB1.out).mono ?_; rintro e5 w5 ⟨rfl, hb5⟩; have HX5 := bk HX hb5; have hl := seenLook (HM1.out.below hb5) x.st; rw [hs] at hl; clear hc; have hc := Qb HX5.out)
     go_ret
     exact ⟨Qf HN2.out.symm, HB1.out.trans (hb5.mono HB1.out.size)⟩
  ·obtain rfl : k = l.length := by omega
   have HD := Qa (logsT_done (l := Qp l) (by rw [HN.out]; exact HI.out))
   go_wp2
   go_ret
   exact ⟨Qf HD.out.symm, HB.out⟩
theorem eltVd : Elt Tryz.prog 32 46 3 24 vdRow := ⟨Tryz.underlying32, ⟨.agg #[.int .i64 0, .int .i64 0, .int .i64 0], by kernel_rfl, rfl⟩, by decide, by decide, fun _ => rfl, fun x u hu => by simp [vdRow] at hu; rcases hu with rfl | rfl | rfl <;> rfl⟩
theorem Jl {L : Lb} {d : List De} {l : List Lg} (h : l.length ≤ 200) (hb : libB L d = false ∨ QU l = false) : QN L d l = ([], 1) := by
 unfold QN
 rw [if_neg (by omega), if_pos]
 rcases hb with hb | hb <;> rw [hb] <;> simp
theorem ZL {L : Lb} {d : List De} {l : List Lg} (h : l.length ≤ 200) (h1 : libB L d = true) (h2 : QU l = true) : QN L d l = (Zc L d l, 0) := by
 unfold QN
 rw [if_neg (by omega), if_neg]
 rw [h1, h2]; decide
theorem Qaq {L : Lb} {d : List De} (h : libB L d = true) : QH (Qk L.ws) d = true ∧ (L.shs.map Sx.id).Nodup := by
 unfold libB at h
 simp only [Bool.and_eq_true, decide_eq_true_eq] at h
 exact ⟨h.1.1.1, h.2⟩
end Go.Proofs.YtajijcfikihhjaaGreatDoor
