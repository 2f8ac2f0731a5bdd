/- Texts of this seat, laid together: RegInv, TurnRin, TurnLaw8. -/
import Derived.Deep.RegionHeld
import Derived.Test.YtcelciomhngajaaGreatDoorTJ
import Derived.Test.YtcelciomhngajaaGreatDoorTG
import Derived.Test.YtcelciomhngajaaGreatDoorSL
import Derived.Test.YtcelciomhngajaaGreatDoorEL5
/- A drawn region by an invariant: whatever order is picked, each operation that may come up keeps it. -/
namespace Go.Proofs.YtcelciomhngajaaGreatDoor
set_option linter.unusedSimpArgs false
set_option linter.unusedVariables false

section
variable {P : Program} {ops : Array Oper} {Q : Exit → Act → World → Prop} {md : Region.Mode} {S : World → Prop} {J : (Nat → Bool) → Act → World → Prop}

/-- Which operations have come up. -/
def doneB (listed : Array Bool) : Nat → Bool := fun i => listed.getD i true
def dset (D : Nat → Bool) (i : Nat) : Nat → Bool := fun j => if j = i then true else D j
theorem dset_same (D : Nat → Bool) (i : Nat) : dset D i i = true := if_pos rfl
theorem doneB_set (l : Array Bool) (i : Nat) : doneB (l.setIfInBounds i true) = dset (doneB l) i := by
  funext j
  unfold doneB dset
  by_cases h : j = i
  · subst h
    rw [if_pos rfl]
    simp only [Array.getD_eq_getD_getElem?]
    by_cases hs : j < l.size
    · simp [hs]
    · rw [Array.getElem?_eq_none (by simpa using hs)]; rfl
  · rw [if_neg h, getD_set_ne true (Ne.symm h)]
/-- Each of the operations, where it may come up, keeps the invariant. -/
def StepAll (P : Program) (md : Region.Mode) (ops : Array Oper) (Q : Exit → Act → World → Prop) (J : (Nat → Bool) → Act → World → Prop) (D : Nat → Bool) (b : Act) (v : World) (rs : List Nat) : Prop :=
  ∀ i ∈ rs, D i = false → (∀ o, ops[i]? = some o → (o.after.all fun e => !Region.binds md e || D e.on) = true) → wpOp P ops Q i (fun b' v' => J (dset D i) b' v') b v
theorem StepAll.nil {D : Nat → Bool} {b : Act} {v : World} : StepAll P md ops Q J D b v [] := fun _ h => by cases h
theorem StepAll.cons {D : Nat → Bool} {b : Act} {v : World} {i : Nat} {o : Oper} {rs : List Nat} (ho : ops[i]? = some o)
    (h : D i = false → (∀ e ∈ o.after.toList, Region.binds md e = true → D e.on = true) → ∀ K' : Act → World → Prop, Shut (∀ a w, J (dset D i) a w → K' a w) → if Region.wanted o (yielded ops b.tmps) = true then Oper.wp P o b v K' Q else K' (b.put o.dst undef) v)
    (hs : StepAll P md ops Q J D b v rs) : StepAll P md ops Q J D b v (i :: rs) := fun j hj hd hdep => by
  rcases List.mem_cons.1 hj with rfl | hj
  · exact wpOp_step ho (fun K' hK => h hd (fun e he hb => by
      have h1 := hdep o ho
      simp only [Array.all_eq_true', Bool.or_eq_true] at h1
      have h2 := h1 e (by simpa using he)
      rw [hb] at h2
      simpa using h2) K' (fun a w hW => hK a w hW))
  · exact hs j hj hd hdep
def undone (ops : Array Oper) (l : Array Bool) : List Nat := (List.range ops.size).filter fun i => !l.getD i true
theorem undone_mem {l : Array Bool} {i : Nat} : i ∈ undone ops l ↔ i < ops.size ∧ l.getD i true = false := by
  unfold undone
  rw [List.mem_filter, List.mem_range]
  simp
theorem filter_set_length (l : Array Bool) {i : Nat} (n : Nat) (hi : i < n) (h : l.getD i true = false) :
    ((List.range n).filter fun j => !(l.setIfInBounds i true).getD j true).length + 1 = ((List.range n).filter fun j => !l.getD j true).length := by
  induction n with
  | zero => omega
  | succ n ih =>
    rw [List.range_succ, List.filter_append, List.filter_append, List.length_append, List.length_append]
    by_cases hin : i = n
    · subst hin
      have e1 : ((List.range i).filter fun j => !(l.setIfInBounds i true).getD j true) = ((List.range i).filter fun j => !l.getD j true) := by
        apply List.filter_congr
        intro x hx
        rw [getD_set_ne true (by have := List.mem_range.1 hx; omega)]
      have e2 : (l.setIfInBounds i true).getD i true = true := by
        have := congrFun (doneB_set l i) i
        rw [dset_same] at this
        exact this
      rw [e1]
      have h2 : [i].filter (fun j => !l.getD j true) = [i] := by rw [List.filter_cons_of_pos (by rw [h]; rfl)]; rfl
      have h3 : [i].filter (fun j => !(l.setIfInBounds i true).getD j true) = [] := by rw [List.filter_cons_of_neg (by rw [e2]; simp)]; rfl
      rw [h2, h3]; rfl
    · have := ih (by omega)
      have e3 : [n].filter (fun j => !(l.setIfInBounds i true).getD j true) = [n].filter (fun j => !l.getD j true) := by
        apply List.filter_congr
        intro x hx
        rw [List.mem_singleton.1 hx, getD_set_ne true (by omega)]
      rw [e3]; omega
/-- Every edge goes back in the text. -/
def ordered (md : Region.Mode) (ops : Array Oper) : Bool := (List.range ops.size).all fun i => ((ops[i]?).map (·.after.all fun e => !Region.binds md e || decide (e.on < i))).getD true
theorem ready_some (ho : ordered md ops = true) {l : Array Bool} (hl : l.size = ops.size) : ∀ n i, i < n → i < ops.size → l.getD i true = false → Region.ready md ops l ≠ [] := by
  intro n
  induction n with
  | zero => intro i h; omega
  | succ n ih =>
    intro i hin hi h
    by_cases hp : ∃ j, j < i ∧ l.getD j true = false
    · obtain ⟨j, hj, hd⟩ := hp
      exact ih j (by omega) (by omega) hd
    · have hall : ∀ j, j < i → l.getD j true = true := fun j hj => by
        cases hv : l.getD j true
        · exact absurd ⟨j, hj, hv⟩ hp
        · rfl
      intro hr
      have hm : i ∈ Region.ready md ops l := by
        rw [mem_ready]
        have hsome : ∃ o, ops[i]? = some o := ⟨ops[i], Array.getElem?_eq_getElem hi⟩
        obtain ⟨o, hoo⟩ := hsome
        refine ⟨h, o, hoo, fun e he hb => ?_⟩
        have h1 := List.all_eq_true.1 ho i (List.mem_range.2 hi)
        rw [hoo] at h1
        simp only [Option.map_some, Option.getD_some] at h1
        have h2 : e.on < i := by
          simp only [List.all_eq_true, Array.all_eq_true', Bool.or_eq_true, decide_eq_true_eq] at h1
          have h3 := h1 e he
          rw [hb] at h3
          simpa using h3
        have h4 := hall _ h2
        have h5 : e.on < l.size := by omega
        simp only [Array.getD_eq_getD_getElem?, Array.getElem?_eq_getElem h5, Option.getD_some] at h4 ⊢
        exact h4
      rw [hr] at hm
      cases hm
/-- The rule. -/
theorem wpAnyH_by {n : Nat} {listed : Array Bool} {a : Act} {w : World} (todo : List Nat) (J : Act → (Nat → Bool) → Act → World → Prop)
    (ht : undone ops listed = todo) (hn : n = todo.length) (hl : listed.size = ops.size) (ho : ordered md ops = true)
    (h0 : J a (doneB listed) a w) (hS : ∀ D b v, J a D b v → S v) (step : ∀ D b v, J a D b v → StepAll P md ops Q (J a) D b v todo)
    (done : ∀ D b v, (∀ i ∈ todo, D i = true) → J a D b v → Q .normal b v) : wpAnyH P md ops Q S n listed a w := by
  have key : ∀ k l b v, l.size = ops.size → (∀ i, listed.getD i true = true → l.getD i true = true) → (undone ops l).length = k → J a (doneB l) b v → wpAnyH P md ops Q S k l b v := by
    intro k
    induction k with
    | zero =>
      intro l b v hls hk hu hj
      have hnil : undone ops l = [] := List.eq_nil_of_length_eq_zero hu
      have hall : ∀ i, i < ops.size → l.getD i true = true := fun i hi => by
        cases hv : l.getD i true
        · have := undone_mem.2 ⟨hi, hv⟩
          rw [hnil] at this; cases this
        · rfl
      refine ⟨?_, done _ _ _ (fun i hi => ?_) hj⟩
      · rw [List.eq_nil_iff_forall_not_mem]
        intro i hi
        obtain ⟨h1, o, h2, _⟩ := mem_ready.1 hi
        have h3 : i < ops.size := (Array.getElem?_eq_some_iff.1 h2).1
        rw [hall i h3] at h1; cases h1
      · rw [← ht] at hi
        exact hall i (undone_mem.1 hi).1
    | succ k ih =>
      intro l b v hls hk hu hj
      constructor
      · intro hr
        exfalso
        obtain ⟨i, hi⟩ : ∃ i, i ∈ undone ops l := by
          cases hx : undone ops l with
          | nil => rw [hx] at hu; simp at hu
          | cons x xs => exact ⟨x, by simp⟩
        obtain ⟨h1, h2⟩ := undone_mem.1 hi
        exact ready_some ho hls (i + 1) i (by omega) h1 h2 hr
      · intro i hi
        obtain ⟨h1, o, h2, h3⟩ := mem_ready.1 hi
        have hlt : i < ops.size := (Array.getElem?_eq_some_iff.1 h2).1
        have him : i ∈ todo := by
          rw [← ht]
          refine undone_mem.2 ⟨hlt, ?_⟩
          cases hv : listed.getD i true
          · rfl
          · rw [hk i hv] at h1; cases h1
        have hst := step _ _ _ hj i him h1 (fun o' ho' => by
          rw [h2] at ho'
          obtain rfl := Option.some.inj ho'
          simp only [List.all_eq_true, Array.all_eq_true', Bool.or_eq_true]
          intro e he
          cases hb : Region.binds md e
          · exact .inl rfl
          · refine .inr ?_
            have h4 := h3 e he hb
            unfold doneB
            simp only [Array.getD_eq_getD_getElem?] at h4 ⊢
            cases hx : l[e.on]? with
            | none => rfl
            | some u => rw [hx] at h4; exact h4)
        refine wpOp_mono (fun b' v' hj' => ⟨hS _ _ _ hj', ih _ _ _ ?_ ?_ ?_ ?_⟩) hst
        · rw [Array.size_setIfInBounds]; exact hls
        · intro j hv
          by_cases hji : i = j
          · subst hji
            have := congrFun (doneB_set l i) i
            rw [dset_same] at this
            exact this
          · rw [getD_set_ne true hji]; exact hk j hv
        · have := filter_set_length l ops.size hlt h1
          unfold undone at hu ⊢
          omega
        · rw [doneB_set]; exact hj'
  exact hn ▸ ht ▸ key _ _ _ _ hl (fun _ h => h) rfl h0
end
end Go.Proofs.YtcelciomhngajaaGreatDoor
/- The law TurnRests: what its inner loop rests on; its inner loop: walked. -/
namespace Go.Proofs.YtcelciomhngajaaGreatDoor
set_option linter.unusedSimpArgs false
set_option linter.unusedVariables false
open Go.RowKit Go.Sort

noncomputable def restsBody (i : Nat) : Code := ((Tryz.f5.body.map loopsOf).getD []).getD i .skip
/-- What the inner loop of TurnRests rests on. -/
structure RsL (i : Nat) (M : Me) (SI UN : Po) (mb sb ub : Nat) (wo : World) : Prop where
  m : wo.heap[mb]? = some (.cells #[.int .i64 M.bar, .int .i64 M.key, .int .i64 M.len.n, .int .i64 M.len.d, .slice M.na M.notes.length M.ncap] 60)
  s : wo.heap[sb]? = some (.cells #[.int .i64 SI.bar, .int .i64 SI.at_.n, .int .i64 SI.at_.d] 54 (0, 0))
  u : wo.heap[ub]? = some (.cells #[.int .i64 UN.bar, .int .i64 UN.at_.n, .int .i64 UN.at_.d] 54 (0, 0))
  n : ∀ W, Below wo.heap.size wo W → WrAt W M.na M.notes
  i1 : i ≤ 100000
  nl : M.notes.length ≤ 100000
  ok : ∀ x ∈ M.notes, 0 ≤ ticksI x.start ∧ 0 ≤ ticksI x.len ∧ ticksI x.start + ticksI x.len ≤ 1000000000
  no : ∀ x ∈ M.notes, ¬ (laterB (endQ i M.len x) SI = true ∧ laterB UN ⟨i, x.start⟩ = true)
theorem later3_any (x0 x1 x2 y0 y1 y2 : Int) (V : World) : Calls Tryz.prog 26 #[.agg #[.int .i64 x0, .int .i64 x1, .int .i64 x2], .agg #[.int .i64 y0, .int .i64 y1, .int .i64 y2]] V fun e w' => e = .returned (.bool (laterB ⟨x0, ⟨x1, x2⟩⟩ ⟨y0, ⟨y1, y2⟩⟩)) ∧ Below V.heap.size V w' :=
  tLater_any ⟨x0, ⟨x1, x2⟩⟩ ⟨y0, ⟨y1, y2⟩⟩ V
theorem po_ne {a b c a' b' c' : Int} (h : (a == a' && (b == b' && c == c')) = false) : (⟨a, ⟨b, c⟩⟩ : Po) ≠ ⟨a', ⟨b', c'⟩⟩ := by
  intro e
  injection e with e1 e2
  injection e2 with e2 e3
  rw [e1, e2, e3] at h
  simp at h
set_option maxRecDepth 1000000 in
set_option maxHeartbeats 8000000 in
theorem rests2_any {i : Nat} {M : Me} {SI UN : Po} {mb sb ub : Nat} {wo : World} (X0 : RsL i M SI UN mb sb ub wo) (E0 G0 : Bool)
    (bn offn : Nat) (hna : M.notes ≠ [] → M.na = some ⟨bn, offn, none⟩) {s0 s1 s2 s3 s4 s5 s6 s7 s8 s9 s10 s11 s12 s13 s14 s15 s18 s19 s20 s21 s26 s27 s28 s29 s30 s31 s32 s33 s34 s35 s36 s37 s38 s39 s40 s41 s42 s43 s44 s45 s46 s47 s48 s49 s50 s51 s52 s53 s54 s55 s56 s57 s58 s59 s60 s61 s62 s63 s64 s65 s66 s67 s68 s69 s70 s71 s72 s73 s74 s75 s76 s77 s78 s79 s80 s81 s82 s83 s84 s85 s86 s87 s88 s89 s90 s91 s92 s93 s94 s95 s96 s97 s98 s99 s100 s101 s102 s103 s104 s105 s106 s107 s108 s109 s110 s111 s112 s113 s114 s115 s116 s117 s118 s119 s120 s121 s122 s123 s124 s125 s126 s127 s128 s129 s130 s131 s132 s133 s134 s135 s136 s137 s138 s139 s140 s141 s145 s146 s147 s148 s149 s150 s151 s152 s153 s154 s155 s156 s157 s158 s159 s160 s161 s162 s163 s164 s165 s166 s167 s168 s169 s170 s171 s172 s173 s174 s175 s176 s177 s178 s179 s180 s181 s182 s183 s184 s185 s186 s187 s188 s189 s190 s191 s192 s193 s194 s195 s196 s197 s198 s199 s200 : Value} (Q : Exit → Act → World → Prop)
    (hexit : ∀ (t8 t27 t28 t29 t30 t144 t145 t146 t147 t148 t149 t150 t151 t152 t153 t154 t155 t156 t157 t158 t159 t160 t161 t162 t163 t164 t165 t166 t167 t168 t169 t170 t171 t172 t173 t174 t175 t176 t177 t178 t179 t180 t181 t182 t183 t184 t185 t186 t187 t188 t189 t190 t191 t192 : Value) (E G : Bool) (W' : World), (E = false → E0 = false ∧ ∀ x ∈ M.notes, endQ i M.len x ≠ SI) → (G = false → G0 = false ∧ ∀ x ∈ M.notes, (⟨i, x.start⟩ : Po) ≠ UN) → Below wo.heap.size wo W' → Q (.exit 2) ⟨(List.toArray (s0 :: s1 :: s2 :: s3 :: s4 :: s5 :: s6 :: s7 :: t8 :: s9 :: s10 :: s11 :: s12 :: s13 :: s14 :: s15 :: .pointer (some ⟨sb, 0, none⟩) :: .pointer (some ⟨ub, 0, none⟩) :: s18 :: s19 :: s20 :: s21 :: .bool E :: .bool G :: .int .i64 i :: .pointer (some ⟨mb, 0, none⟩) :: s26 :: t27 :: t28 :: t29 :: t30 :: s31 :: s32 :: s33 :: s34 :: s35 :: s36 :: s37 :: s38 :: s39 :: s40 :: s41 :: s42 :: s43 :: s44 :: s45 :: s46 :: s47 :: s48 :: s49 :: s50 :: s51 :: s52 :: s53 :: s54 :: s55 :: s56 :: s57 :: s58 :: s59 :: s60 :: s61 :: s62 :: s63 :: s64 :: s65 :: s66 :: s67 :: s68 :: s69 :: s70 :: s71 :: s72 :: s73 :: s74 :: s75 :: s76 :: s77 :: s78 :: s79 :: s80 :: s81 :: s82 :: s83 :: s84 :: s85 :: s86 :: s87 :: s88 :: s89 :: s90 :: s91 :: s92 :: s93 :: s94 :: s95 :: s96 :: s97 :: s98 :: s99 :: s100 :: s101 :: s102 :: s103 :: s104 :: s105 :: s106 :: s107 :: s108 :: s109 :: s110 :: s111 :: s112 :: s113 :: s114 :: s115 :: s116 :: s117 :: s118 :: s119 :: s120 :: s121 :: s122 :: s123 :: s124 :: s125 :: s126 :: s127 :: s128 :: s129 :: s130 :: s131 :: s132 :: s133 :: s134 :: s135 :: s136 :: s137 :: s138 :: s139 :: s140 :: s141 :: .slice M.na M.notes.length M.ncap :: .int .i64 M.notes.length :: t144 :: t145 :: t146 :: t147 :: t148 :: t149 :: t150 :: t151 :: t152 :: t153 :: t154 :: t155 :: t156 :: t157 :: t158 :: t159 :: t160 :: t161 :: t162 :: t163 :: t164 :: t165 :: t166 :: t167 :: t168 :: t169 :: t170 :: t171 :: t172 :: t173 :: t174 :: t175 :: t176 :: t177 :: t178 :: t179 :: t180 :: t181 :: t182 :: t183 :: t184 :: t185 :: t186 :: t187 :: t188 :: t189 :: t190 :: t191 :: t192 :: s193 :: s194 :: s195 :: s196 :: s197 :: s198 :: s199 :: s200 :: List.nil)), []⟩ W') :
    Code.wp Tryz.prog (Code.loop (restsBody 1)) Q ⟨(List.toArray (s0 :: s1 :: s2 :: s3 :: s4 :: s5 :: s6 :: s7 :: s8 :: s9 :: s10 :: s11 :: s12 :: s13 :: s14 :: s15 :: .pointer (some ⟨sb, 0, none⟩) :: .pointer (some ⟨ub, 0, none⟩) :: s18 :: s19 :: s20 :: s21 :: .bool E0 :: .bool G0 :: .int .i64 i :: .pointer (some ⟨mb, 0, none⟩) :: s26 :: s27 :: s28 :: s29 :: s30 :: s31 :: s32 :: s33 :: s34 :: s35 :: s36 :: s37 :: s38 :: s39 :: s40 :: s41 :: s42 :: s43 :: s44 :: s45 :: s46 :: s47 :: s48 :: s49 :: s50 :: s51 :: s52 :: s53 :: s54 :: s55 :: s56 :: s57 :: s58 :: s59 :: s60 :: s61 :: s62 :: s63 :: s64 :: s65 :: s66 :: s67 :: s68 :: s69 :: s70 :: s71 :: s72 :: s73 :: s74 :: s75 :: s76 :: s77 :: s78 :: s79 :: s80 :: s81 :: s82 :: s83 :: s84 :: s85 :: s86 :: s87 :: s88 :: s89 :: s90 :: s91 :: s92 :: s93 :: s94 :: s95 :: s96 :: s97 :: s98 :: s99 :: s100 :: s101 :: s102 :: s103 :: s104 :: s105 :: s106 :: s107 :: s108 :: s109 :: s110 :: s111 :: s112 :: s113 :: s114 :: s115 :: s116 :: s117 :: s118 :: s119 :: s120 :: s121 :: s122 :: s123 :: s124 :: s125 :: s126 :: s127 :: s128 :: s129 :: s130 :: s131 :: s132 :: s133 :: s134 :: s135 :: s136 :: s137 :: s138 :: s139 :: s140 :: s141 :: .slice M.na M.notes.length M.ncap :: .int .i64 M.notes.length :: .int .i64 0 :: s145 :: s146 :: s147 :: s148 :: s149 :: s150 :: s151 :: s152 :: s153 :: s154 :: s155 :: s156 :: s157 :: s158 :: s159 :: s160 :: s161 :: s162 :: s163 :: s164 :: s165 :: s166 :: s167 :: s168 :: s169 :: s170 :: s171 :: s172 :: s173 :: s174 :: s175 :: s176 :: s177 :: s178 :: s179 :: s180 :: s181 :: s182 :: s183 :: s184 :: s185 :: s186 :: s187 :: s188 :: s189 :: s190 :: s191 :: s192 :: s193 :: s194 :: s195 :: s196 :: s197 :: s198 :: s199 :: s200 :: List.nil)), []⟩ wo := by
  obtain ⟨s0, s1, s2⟩ := SI
  obtain ⟨u0, u1, u2⟩ := UN
  have HX := Lib.hid X0; have HQ := Lib.hid hexit
  have hi1 := X0.i1; have hnl := X0.nl
  clear X0 hexit
  conv => arg 2; arg 1; whnf
  go_loopw [22, 23, 144] (fun s22 s23 s144 wi => ∃ (j : Nat) (E G : Bool), j ≤ M.notes.length ∧ s144 = .int .i64 j ∧ s22 = .bool E ∧ s23 = .bool G ∧ Hid (E = false → E0 = false ∧ ∀ j' (h : j' < M.notes.length), j' < j → endQ i M.len M.notes[j'] ≠ ⟨s0, ⟨s1, s2⟩⟩) ∧ Hid (G = false → G0 = false ∧ ∀ j' (h : j' < M.notes.length), j' < j → (⟨i, M.notes[j'].start⟩ : Po) ≠ ⟨u0, ⟨u1, u2⟩⟩) ∧ Below wo.heap.size wo wi) (fun _ _ s144 _ => M.notes.length - (intOf s144).toNat)
  case atStart => exact ⟨0, E0, G0, Nat.zero_le _, rfl, rfl, rfl, Lib.hid (fun h => ⟨h, fun j' _ h => absurd h (Nat.not_lt_zero _)⟩), Lib.hid (fun h => ⟨h, fun j' _ h => absurd h (Nat.not_lt_zero _)⟩), Below.refl _ _⟩
  case round =>
    obtain ⟨j, E, G, hj, rfl, rfl, rfl, HE, HG, hbe⟩ := hrel
    have HB := Lib.hid hbe
    clear hbe
    by_cases hlt : j < M.notes.length
    · have hqa := hna (fun e => by rw [e] at hlt; simp at hlt)
      obtain ⟨b', off', e', hbn, c0, c1, c2, c3, c4, c5, c6, c7, c8, c9⟩ := (HX.out.n _ HB.out).get j hlt
      rw [hqa] at e'
      cases e'
      have HNo := Lib.hid hqa; clear hqa
      rw [HNo.out]
      have hmem := List.getElem_mem hlt
      have HOk := Lib.hid (HX.out.ok _ hmem); have HNn := Lib.hid (HX.out.no _ hmem)
      clear hmem
      have HEs := Lib.hid (fun (h : E = false) (h2 : endQ i M.len M.notes[j] ≠ ⟨s0, ⟨s1, s2⟩⟩) => show E0 = false ∧ ∀ j' (h : j' < M.notes.length), j' < j + 1 → endQ i M.len M.notes[j'] ≠ ⟨s0, ⟨s1, s2⟩⟩ from ⟨(HE.out h).1, fun j' h3 h4 => by
        rcases Nat.lt_or_ge j' j with h5 | h5
        · exact (HE.out h).2 j' h3 h5
        · obtain rfl : j' = j := by omega
          exact h2⟩)
      have HGs := Lib.hid (fun (h : G = false) (h2 : (⟨i, M.notes[j].start⟩ : Po) ≠ ⟨u0, ⟨u1, u2⟩⟩) => show G0 = false ∧ ∀ j' (h : j' < M.notes.length), j' < j + 1 → (⟨i, M.notes[j'].start⟩ : Po) ≠ ⟨u0, ⟨u1, u2⟩⟩ from ⟨(HG.out h).1, fun j' h3 h4 => by
        rcases Nat.lt_or_ge j' j with h5 | h5
        · exact (HG.out h).2 j' h3 h5
        · obtain rfl : j' = j := by omega
          exact h2⟩)
      have HM := Lib.hid (blk_keep HX.out.m HB.out); have HS := Lib.hid (blk_keep HX.out.s HB.out); have HU := Lib.hid (blk_keep HX.out.u HB.out)
      clear HE HG
      generalize M.notes[j] = x at *
      have HEE := Lib.hid (show endQ i M.len x = if ticksI x.start + ticksI x.len = ticksI M.len then startP (i + 1) else ⟨i, ofT (ticksI x.start + ticksI x.len)⟩ from rfl)
      generalize endQ i M.len x = EE at *
      obtain ⟨x0, x1, x2, ⟨sn, sd⟩, ⟨ln, ld⟩, xp⟩ := x
      dsimp only at *
      have HT1 := Lib.hid (fun V => RTicks_any sn sd V); have HT2 := Lib.hid (fun V => RTicks_any ln ld V)
      have HT3 := Lib.hid (fun V => show Calls Tryz.prog 24 #[.agg #[.int .i64 M.len.n, .int .i64 M.len.d]] V _ from RTicks_any M.len.n M.len.d V)
      rw [show ticksI ⟨M.len.n, M.len.d⟩ = ticksI M.len from rfl] at HT3
      generalize ticksI ⟨sn, sd⟩ = T1 at *
      generalize ticksI ⟨ln, ld⟩ = T2 at *
      generalize ticksI M.len = T3 at *
      have hw : IntKind.i64.wrap (T1 + T2) = T1 + T2 := IntWalk.i64_in _ (by have := HOk.out; omega)
      have HOf := Lib.hid (fun V => tOf_any (T1 + T2) V (by have := HOk.out; omega) HOk.out.2.2)
      obtain ⟨⟨rn, rd⟩, hR⟩ : ∃ R, ofT (T1 + T2) = R := ⟨_, rfl⟩
      rw [hR] at HOf HEE
      clear hR
      have HRa := Lib.hid (fun n d V => rat25_any n d V)
      have HLx := Lib.hid (fun a b c a' b' c' V => later3_any a b c a' b' c' V)
      go_upto_region 22 with (fail)
      have HXx := Lib.hid (heap_alloc_new wr (.cells #[.int .i64 x0, .int .i64 x1, .int .i64 x2, .int .i64 sn, .int .i64 sd, .int .i64 ln, .int .i64 ld, .int .i64 xp.s, .int .i64 xp.a, .int .i64 xp.o] 64 (0, 0)))
      have hb := (Below.refl wr.heap.size wr).alloc (Nat.le_refl _) (.cells #[.int .i64 x0, .int .i64 x1, .int .i64 x2, .int .i64 sn, .int .i64 sd, .int .i64 ln, .int .i64 ld, .int .i64 xp.s, .int .i64 xp.a, .int .i64 xp.o] 64 (0, 0))
      clear c0 c1 c2 c3 c4 c5 c6 c7 c8 c9
      replace HM := Lib.hid (blk_keep HM.out hb); replace HS := Lib.hid (blk_keep HS.out hb); replace HU := Lib.hid (blk_keep HU.out hb); (try replace HXx := Lib.hid (blk_keep HXx.out hb)); (try replace HXf := Lib.hid (blk_keep HXf.out hb)); (try replace HXe := Lib.hid (blk_keep HXe.out hb)); replace HB := Lib.hid (HB.out.trans (hb.mono HB.out.size)); clear hb
      generalize wr.alloc (.cells #[.int .i64 x0, .int .i64 x1, .int .i64 x2, .int .i64 sn, .int .i64 sd, .int .i64 ln, .int .i64 ld, .int .i64 xp.s, .int .i64 xp.a, .int .i64 xp.o] 64 (0, 0)) = W1 at *
      generalize wr.heap.size = xb at *
      have hcx := box_cells HXx.out
      go_upto_region 23 with (fail)
      have HXf := Lib.hid (heap_alloc_new W1 (.cells #[.int .i64 i, .int .i64 sn, .int .i64 sd] 54 (0, 0)))
      have hb := (Below.refl W1.heap.size W1).alloc (Nat.le_refl _) (.cells #[.int .i64 i, .int .i64 sn, .int .i64 sd] 54 (0, 0))
      clear hcx
      replace HM := Lib.hid (blk_keep HM.out hb); replace HS := Lib.hid (blk_keep HS.out hb); replace HU := Lib.hid (blk_keep HU.out hb); (try replace HXx := Lib.hid (blk_keep HXx.out hb)); (try replace HXf := Lib.hid (blk_keep HXf.out hb)); (try replace HXe := Lib.hid (blk_keep HXe.out hb)); replace HB := Lib.hid (HB.out.trans (hb.mono HB.out.size)); clear hb
      generalize W1.alloc (.cells #[.int .i64 i, .int .i64 sn, .int .i64 sd] 54 (0, 0)) = W2 at *
      generalize W1.heap.size = fb at *
      have hcx := box_cells HXx.out
      have g3 := cell_regrown (hcx 3); have g4 := cell_regrown (hcx 4); have g5 := cell_regrown (hcx 5); have g6 := cell_regrown (hcx 6)
      refine wp_quietB (by kernel_rfl) (by kernel_rfl) ?_
      (repeat (go_big_quiet_step (fail)))
      go_big_quiet_step ((go_at_call 24; refine Calls.regrown_of (HT1.out _)))
      (repeat (go_big_quiet_step (fail)))
      go_big_quiet_step ((go_at_call 24; refine Calls.regrown_of (HT2.out _)))
      (repeat (go_big_quiet_step (fail)))
      refine wpQuiet_nil ?_
      intro w3 hb
      clear g3 g4 g5 g6 hcx
      replace HM := Lib.hid (blk_keep HM.out hb); replace HS := Lib.hid (blk_keep HS.out hb); replace HU := Lib.hid (blk_keep HU.out hb); (try replace HXx := Lib.hid (blk_keep HXx.out hb)); (try replace HXf := Lib.hid (blk_keep HXf.out hb)); (try replace HXe := Lib.hid (blk_keep HXe.out hb)); replace HB := Lib.hid (HB.out.trans (hb.mono HB.out.size)); clear hb
      clear HXx
      go_upto_region 25 with (go_at_call 25; refine (HOf.out _).mono ?_; rintro e w4 ⟨rfl, hb⟩; replace HM := Lib.hid (blk_keep HM.out hb); replace HS := Lib.hid (blk_keep HS.out hb); replace HU := Lib.hid (blk_keep HU.out hb); (try replace HXx := Lib.hid (blk_keep HXx.out hb)); (try replace HXf := Lib.hid (blk_keep HXf.out hb)); (try replace HXe := Lib.hid (blk_keep HXe.out hb)); replace HB := Lib.hid (HB.out.trans (hb.mono HB.out.size)); clear hb)
      have HNe0 := Lib.hid (show mb ≠ w4.heap.size ∧ sb ≠ w4.heap.size ∧ ub ≠ w4.heap.size ∧ fb ≠ w4.heap.size from ⟨Nat.ne_of_lt (lt_blk HM.out), Nat.ne_of_lt (lt_blk HS.out), Nat.ne_of_lt (lt_blk HU.out), Nat.ne_of_lt (lt_blk HXf.out)⟩)
      have HPo0 := Lib.hid HB.out.size
      have HXe := Lib.hid (heap_alloc_new w4 (.cells #[.int .i64 i, .int .i64 rn, .int .i64 rd] 54 (0, 0)))
      have hb := (Below.refl w4.heap.size w4).alloc (Nat.le_refl _) (.cells #[.int .i64 i, .int .i64 rn, .int .i64 rd] 54 (0, 0))
      replace HM := Lib.hid (blk_keep HM.out hb); replace HS := Lib.hid (blk_keep HS.out hb); replace HU := Lib.hid (blk_keep HU.out hb); (try replace HXx := Lib.hid (blk_keep HXx.out hb)); (try replace HXf := Lib.hid (blk_keep HXf.out hb)); (try replace HXe := Lib.hid (blk_keep HXe.out hb)); replace HB := Lib.hid (HB.out.trans (hb.mono HB.out.size)); clear hb
      have HNe := Lib.hid (show mb ≠ w4.heap.size ∧ sb ≠ w4.heap.size ∧ ub ≠ w4.heap.size ∧ fb ≠ w4.heap.size from HNe0.out)
      have HPo := Lib.hid (show wo.heap.size ≤ w4.heap.size from HPo0.out)
      clear HNe0 HPo0
      generalize w4.alloc (.cells #[.int .i64 i, .int .i64 rn, .int .i64 rd] 54 (0, 0)) = W5 at *
      generalize w4.heap.size = pb at *
      have hcm := box_cells HM.out
      have hmT : ∀ T, (T1 + T2 == T) = decide (T1 + T2 = T) := fun _ => rfl
      go_upto_if 167 with (go_at_call 24; refine (HT3.out _).mono ?_; rintro e w6 ⟨rfl, hb⟩; clear hcm; replace HM := Lib.hid (blk_keep HM.out hb); replace HS := Lib.hid (blk_keep HS.out hb); replace HU := Lib.hid (blk_keep HU.out hb); (try replace HXx := Lib.hid (blk_keep HXx.out hb)); (try replace HXf := Lib.hid (blk_keep HXf.out hb)); (try replace HXe := Lib.hid (blk_keep HXe.out hb)); replace HB := Lib.hid (HB.out.trans (hb.mono HB.out.size)); clear hb)
      have hpb := lt_blk HXe.out
      have HE2 := Lib.hid (show EE = if decide (T1 + T2 = T3) = true then startP (i + 1) else ⟨i, ⟨rn, rd⟩⟩ by rw [HEE.out]; simp)
      clear HEE hmT
      generalize decide (T1 + T2 = T3) = bT at *
      go_cut [30] from 145 to 192 (fun s30 V => s30 = .pointer (some ⟨pb, 0, none⟩) ∧ V.heap[pb]? = some (.cells #[.int .i64 EE.bar, .int .i64 EE.at_.n, .int .i64 EE.at_.d] 54 (0, 0)) ∧ KeepB w6.heap.size [pb] w6 V)
      case first =>
        cases bT
        · go_wp2
          go_meet
          case rel => exact ⟨rfl, by rw [HE2.out]; exact HXe.out, KeepB.refl _ _ _⟩
        · go_wp2_with (go_at_call 18; refine (HRa.out _ _ _).mono ?_; rintro e w7 ⟨rfl, hb⟩; have HBr := Lib.hid (KeepB.of_below (S := [pb]) hb (Nat.le_refl _)); replace HXe := Lib.hid (blk_keep HXe.out hb); clear hb; have hce := box_cells HXe.out; have hfe := box_free HXe.out; have hze := lt_blk HXe.out)
          go_meet
          case rel => exact ⟨rfl, by rw [HE2.out]; exact pos3_at HXe.out, ((HBr.out.set (p := ⟨pb, 0, none⟩) (.inl (by simp)) _).set (p := ⟨pb, 1, none⟩) (.inl (by simp)) _).set (p := ⟨pb, 2, none⟩) (.inl (by simp)) _⟩
      case rest =>
      obtain ⟨rfl, hxe, hk⟩ := hcut
      have HXe' := Lib.hid hxe
      have hbp : Below wo.heap.size wo w6 := HB.out
      have hne : mb ≠ pb ∧ sb ≠ pb ∧ ub ≠ pb ∧ fb ≠ pb := HNe.out
      replace HM := Lib.hid (hk.at_ HM.out (lt_blk HM.out) (by simp; exact hne.1)); replace HS := Lib.hid (hk.at_ HS.out (lt_blk HS.out) (by simp; exact hne.2.1)); replace HU := Lib.hid (hk.at_ HU.out (lt_blk HU.out) (by simp; exact hne.2.2.1)); replace HXf := Lib.hid (hk.at_ HXf.out (lt_blk HXf.out) (by simp; exact hne.2.2.2))
      replace HB := Lib.hid (hbp.trans ((KeepB.below (hk.weaken hbp.size (fun j h h2 => by simp at h; have := HPo.out; omega)))))
      clear HXe hxe hk hbp hne HE2 HOf HT1 HT2 HT3 HRa HNe HPo hpb
      have HXe := HXe'
      clear HXe'
      obtain ⟨e0, e1, e2⟩ := EE
      try dsimp only at *
      have hc1 := box_cells HS.out; have hc2 := box_cells HU.out; have hc3 := box_cells HXf.out; have hc4 := box_cells HXe.out
      (try dsimp only at hc1 hc2 hc3 hc4)
      have heq1 := fun W => eql_po e0 e1 e2 s0 s1 s2 W
      have heq2 := fun W => eql_po (i : Int) sn sd u0 u1 u2 W
      have HP1 := Lib.hid (fun h => po_ne (a := e0) (b := e1) (c := e2) (a' := s0) (b' := s1) (c' := s2) h)
      have HP2 := Lib.hid (fun h => po_ne (a := (i : Int)) (b := sn) (c := sd) (a' := u0) (b' := u1) (c' := u2) h)
      generalize (e0 == s0 && (e1 == s1 && e2 == s2)) = b1 at *
      generalize ((i : Int) == u0 && (sn == u1 && sd == u2)) = b2 at *
      cases hL1 : laterB ⟨e0, ⟨e1, e2⟩⟩ ⟨s0, ⟨s1, s2⟩⟩
      · clear HNn
        go_upto_region 29 with ((go_at_call 26; refine (HLx.out _ _ _ _ _ _ _).mono ?_; rintro e w8 ⟨rfl, hb⟩; clear hc1 hc2 hc3 hc4; replace HM := Lib.hid (blk_keep HM.out hb); replace HS := Lib.hid (blk_keep HS.out hb); replace HU := Lib.hid (blk_keep HU.out hb); (try replace HXx := Lib.hid (blk_keep HXx.out hb)); (try replace HXf := Lib.hid (blk_keep HXf.out hb)); (try replace HXe := Lib.hid (blk_keep HXe.out hb)); replace HB := Lib.hid (HB.out.trans (hb.mono HB.out.size)); clear hb; have hc1 := box_cells HS.out; have hc2 := box_cells HU.out; have hc3 := box_cells HXf.out; have hc4 := box_cells HXe.out; (try dsimp only at hc1 hc2 hc3 hc4)))
        cases E <;> cases G <;> (go_quiet (fail); go_wp2; exact ⟨⟨j + 1, _, _, by omega, by go_num, rfl, rfl, Lib.hid (by first | exact fun h => HEs.out rfl (HP1.out h) | exact fun h => by cases h), Lib.hid (by first | exact fun h => HGs.out rfl (HP2.out h) | exact fun h => by cases h), below_drewN HB.out nq⟩, by simp [intOf]; omega⟩)
      · have hL2 : laterB ⟨u0, ⟨u1, u2⟩⟩ ⟨i, ⟨sn, sd⟩⟩ = false := by
          have h9 := HNn.out
          rw [hL1] at h9
          simpa using h9
        clear HNn
        go_upto_region 29 with ((go_at_call 26; refine (HLx.out _ _ _ _ _ _ _).mono ?_; rintro e w8 ⟨rfl, hb⟩; clear hc1 hc2 hc3 hc4; replace HM := Lib.hid (blk_keep HM.out hb); replace HS := Lib.hid (blk_keep HS.out hb); replace HU := Lib.hid (blk_keep HU.out hb); (try replace HXx := Lib.hid (blk_keep HXx.out hb)); (try replace HXf := Lib.hid (blk_keep HXf.out hb)); (try replace HXe := Lib.hid (blk_keep HXe.out hb)); replace HB := Lib.hid (HB.out.trans (hb.mono HB.out.size)); clear hb; have hc1 := box_cells HS.out; have hc2 := box_cells HU.out; have hc3 := box_cells HXf.out; have hc4 := box_cells HXe.out; (try dsimp only at hc1 hc2 hc3 hc4)))
        cases E <;> cases G <;> (go_quiet (fail); go_wp2; exact ⟨⟨j + 1, _, _, by omega, by go_num, rfl, rfl, Lib.hid (by first | exact fun h => HEs.out rfl (HP1.out h) | exact fun h => by cases h), Lib.hid (by first | exact fun h => HGs.out rfl (HP2.out h) | exact fun h => by cases h), below_drewN HB.out nq⟩, by simp [intOf]; omega⟩)
    · obtain rfl : j = M.notes.length := by omega
      have HE2 := Lib.hid (fun (h : E = false) => show E0 = false ∧ ∀ x ∈ M.notes, endQ i M.len x ≠ ⟨s0, ⟨s1, s2⟩⟩ from ⟨(HE.out h).1, fun x hx => by
        obtain ⟨j', h3, rfl⟩ := List.getElem_of_mem hx
        exact (HE.out h).2 j' h3 h3⟩)
      have HG2 := Lib.hid (fun (h : G = false) => show G0 = false ∧ ∀ x ∈ M.notes, (⟨i, x.start⟩ : Po) ≠ ⟨u0, ⟨u1, u2⟩⟩ from ⟨(HG.out h).1, fun x hx => by
        obtain ⟨j', h3, rfl⟩ := List.getElem_of_mem hx
        exact (HG.out h).2 j' h3 h3⟩)
      go_wp2
      exact HQ.out _ _ _ _ _ _ _ _ _ _ _ _ _ _ _ _ _ _ _ _ _ _ _ _ _ _ _ _ _ _ _ _ _ _ _ _ _ _ _ _ _ _ _ _ _ _ _ _ _ _ _ _ _ _ E G wr HE2.out HG2.out HB.out
end Go.Proofs.YtcelciomhngajaaGreatDoor
/- The law TurnRests: walked. -/
namespace Go.Proofs.YtcelciomhngajaaGreatDoor
set_option linter.unusedSimpArgs false
set_option linter.unusedVariables false
open Go.RowKit Go.Sort

/-- A box that an operation may have made, and another one may have filled. -/
def BoxI (W : World) (made full : Bool) (x : Value) (v : World) (o : Obj) : Prop := made = true → ∃ c u0 u1 u2, x = .pointer (some ⟨c, 0, none⟩) ∧ W.heap.size ≤ c ∧ v.heap[c]? = some (.cells #[u0, u1, u2] 54 (0, 0)) ∧ (full = true → v.heap[c]? = some o)
theorem BoxI.below {W v v' : World} {m f : Bool} {x : Value} {o : Obj} (h : BoxI W m f x v o) (hb : Below v.heap.size v v') : BoxI W m f x v' o := fun hm => by
  obtain ⟨c, u0, u1, u2, e, hc, hz, hf⟩ := h hm
  exact ⟨c, u0, u1, u2, e, hc, blk_keep hz hb, fun h => blk_keep (hf h) hb⟩
theorem BoxI.set3 {W v : World} {m f : Bool} {x : Value} {o : Obj} (h : BoxI W m f x v o) {c : Nat} (hne : m = true → x ≠ .pointer (some ⟨c, 0, none⟩)) {v0 v1 v2 : Value} : BoxI W m f x (((v.setCell ⟨c, 0, none⟩ v0).setCell ⟨c, 1, none⟩ v1).setCell ⟨c, 2, none⟩ v2) o := fun hm => by
  obtain ⟨c', u0, u1, u2, e, hc, hz, hf⟩ := h hm
  have hn : c' ≠ c := fun e2 => hne hm (by rw [e, e2])
  exact ⟨c', u0, u1, u2, e, hc, pos3_far hz hn, fun h => pos3_far (hf h) hn⟩
theorem free_parts {bars : List Ba} {l : List Te} {ms : List MeP} {k : Nat} {a b : Rt} (h : freeR bars l ms k = ((a, b), 0)) : secR bars l (sinceP ms k) (startP k) = (a, 0) ∧ secR bars l (startP k) (untilP ms k) = (b, 0) := by
  unfold freeR at h
  split at h
  · rename_i hc
    injection h with h1 h2
    injection h1 with h1 h3
    exact ⟨Prod.ext h1 hc.1, Prod.ext h3 hc.2⟩
  · injection h with _ h2
    cases h2
theorem rests_me {bars : List Ba} {l : List Te} {vs : List MeP} {ms : List Me} {jp : Nat} (ht : temposB bars l = true) (hv : VwOk bars vs) (hsy : ms.map Me.says = vs) (hlen : ms.length = bars.length) (hk : jp ≤ bars.length) (k : Nat) (h : k < ms.length) (x : Wr) (hx : x ∈ ms[k].notes) :
    ¬ (laterB (endQ k ms[k].len x) (sinceP vs jp) = true ∧ laterB (untilP vs jp) ⟨k, x.start⟩ = true) := by
  have e : vs.getD k default = ms[k].says := by rw [← hsy]; simp [h]
  have h1 := rests_no ht hv hk (i := k) (by omega) (w := x) (by rw [e]; exact hx)
  rw [e] at h1
  exact h1
theorem ends_me {vs : List MeP} {ms : List Me} {jp n : Nat} (hsy : ms.map Me.says = vs) (hlen : ms.length = n) (hk : jp ≤ n) :
    sinceP vs jp = startP 0 ∨ ∃ k, ∃ h : k < ms.length, ∃ x ∈ ms[k].notes, endQ k ms[k].len x = sinceP vs jp := by
  rcases rests_ends (ms := vs) (k := jp) with h | ⟨i, hi, w, hw, he⟩
  · exact .inl h
  · have hl : i < ms.length := by omega
    have e : vs.getD i default = ms[i].says := by rw [← hsy]; simp [hl]
    rw [e] at hw he
    exact .inr ⟨i, hl, w, hw, he.symm⟩
theorem begs_me {vs : List MeP} {ms : List Me} {jp : Nat} (hsy : ms.map Me.says = vs) :
    untilP vs jp = startP ms.length ∨ ∃ k, ∃ h : k < ms.length, ∃ x ∈ ms[k].notes, (⟨k, x.start⟩ : Po) = untilP vs jp := by
  have hn : vs.length = ms.length := by rw [← hsy, List.length_map]
  rcases rests_begins (ms := vs) (k := jp) with h | ⟨i, hi, w, hw, he⟩
  · rw [hn] at h; exact .inl h
  · have hl : i < ms.length := by omega
    have e : vs.getD i default = ms[i].says := by rw [← hsy]; simp [hl]
    rw [e] at hw
    exact .inr ⟨i, hl, w, hw, he.symm⟩
set_option maxRecDepth 100000 in
set_option maxHeartbeats 8000000 in
theorem TurnRests_any (s : Sc) (q : Sp) (ta : Option Addr) (tcap : Nat) (l : List Te) (k j : Nat) (hk : k ≤ 255) (hj : j ≤ 255) (w : World) (hs : ScAt w s q) (ht : TeAt w ta l) (hE : Env w) :
    Calls Tryz.prog 5 #[.agg #[.int .i64 s.version, .slice q.ab s.bars.length q.cb, .slice q.ap s.parts.length q.cp, .slice q.an s.notes.length q.cn], .slice ta l.length tcap, .int .u8 k, .int .u8 j] w fun e w' => e = .returned (.bool true) ∧ Below w.heap.size w w' := by
  have HX1 := Lib.hid (heap_alloc_new w (.cells #[.int .i64 s.version, .slice q.ab s.bars.length q.cb, .slice q.ap s.parts.length q.cp, .slice q.an s.notes.length q.cn] 26))
  have HB := Lib.hid ((Below.refl w.heap.size w).alloc (Nat.le_refl _) (.cells #[.int .i64 s.version, .slice q.ab s.bars.length q.cb, .slice q.ap s.parts.length q.cp, .slice q.an s.notes.length q.cn] 26))
  have HHd := Lib.hid (fun W (hb : Below w.heap.size w W) => head25_any W (hE.below hb))
  cases hu : useB s l
  · have HUn := Lib.hid (fun W (hb : Below w.heap.size w W) => usable_no s q ta tcap l k W (hs.below hb) (ht.below hb) hu)
    clear hs hE ht hu
    obtain ⟨ab, cb, ap, cp, an, cn⟩ := q
    try dsimp only at *
    go_enter Tryz.func5, Tryz.ntmps5
    go_upto_region 1 with (fail)
    generalize w.alloc (.cells #[.int .i64 s.version, .slice (⟨ab, cb, ap, cp, an, cn⟩ : Sp).ab s.bars.length (⟨ab, cb, ap, cp, an, cn⟩ : Sp).cb, .slice (⟨ab, cb, ap, cp, an, cn⟩ : Sp).ap s.parts.length (⟨ab, cb, ap, cp, an, cn⟩ : Sp).cp, .slice (⟨ab, cb, ap, cp, an, cn⟩ : Sp).an s.notes.length (⟨ab, cb, ap, cp, an, cn⟩ : Sp).cn] 26) = W at *
    (try have hc1 := box_cells HX1.out); (try have hc2 := box_cells HX2.out); (try have hc3 := box_cells HX3.out); (try have hc4 := box_cells HX4.out); (try have hc5 := box_cells HX5.out); (try have hc6 := box_cells HX6.out); (try have hc7 := box_cells HX7.out); (try have hc8 := box_cells HX8.out)
    go_wp2_with (first | (go_at_call 9; refine (HHd.out _ HB.out).mono ?_; rintro e w2 ⟨rfl, hb⟩; (try clear hc1); (try clear hc2); (try clear hc3); (try clear hc4); (try clear hc5); (try clear hc6); (try clear hc7); (try clear hc8); (try replace hb := drewB hb); (try replace HX1 := Lib.hid (blk_keep HX1.out hb)); (try replace HX2 := Lib.hid (blk_keep HX2.out hb)); (try replace HX3 := Lib.hid (blk_keep HX3.out hb)); (try replace HX4 := Lib.hid (blk_keep HX4.out hb)); (try replace HX5 := Lib.hid (blk_keep HX5.out hb)); (try replace HX6 := Lib.hid (blk_keep HX6.out hb)); (try replace HX7 := Lib.hid (blk_keep HX7.out hb)); (try replace HX8 := Lib.hid (blk_keep HX8.out hb)); (try replace HC := Lib.hid (HC.out.trans (hb.mono HC.out.size))); replace HB := Lib.hid (HB.out.trans (hb.mono HB.out.size)); clear hb; (try have hc1 := box_cells HX1.out); (try have hc2 := box_cells HX2.out); (try have hc3 := box_cells HX3.out); (try have hc4 := box_cells HX4.out); (try have hc5 := box_cells HX5.out); (try have hc6 := box_cells HX6.out); (try have hc7 := box_cells HX7.out); (try have hc8 := box_cells HX8.out)) | (go_at_call 16; refine (HUn.out _ HB.out).mono ?_; rintro e w3 ⟨rfl, hb⟩; (try clear hc1); (try clear hc2); (try clear hc3); (try clear hc4); (try clear hc5); (try clear hc6); (try clear hc7); (try clear hc8); (try replace hb := drewB hb); (try replace HX1 := Lib.hid (blk_keep HX1.out hb)); (try replace HX2 := Lib.hid (blk_keep HX2.out hb)); (try replace HX3 := Lib.hid (blk_keep HX3.out hb)); (try replace HX4 := Lib.hid (blk_keep HX4.out hb)); (try replace HX5 := Lib.hid (blk_keep HX5.out hb)); (try replace HX6 := Lib.hid (blk_keep HX6.out hb)); (try replace HX7 := Lib.hid (blk_keep HX7.out hb)); (try replace HX8 := Lib.hid (blk_keep HX8.out hb)); (try replace HC := Lib.hid (HC.out.trans (hb.mono HC.out.size))); replace HB := Lib.hid (HB.out.trans (hb.mono HB.out.size)); clear hb; (try have hc1 := box_cells HX1.out); (try have hc2 := box_cells HX2.out); (try have hc3 := box_cells HX3.out); (try have hc4 := box_cells HX4.out); (try have hc5 := box_cells HX5.out); (try have hc6 := box_cells HX6.out); (try have hc7 := box_cells HX7.out); (try have hc8 := box_cells HX8.out)))
    go_ret
    exact ⟨rfl, (HB.out.alloc (by have := HB.out.size; omega) _)⟩
  obtain ⟨hnp, hnb1, hnb2, htem⟩ := use_parts hu
  obtain ⟨ip, hip, _, _, hmod⟩ := modT_lt hnp k
  obtain ⟨p, hpe⟩ : ∃ p, s.parts[ip] = p := ⟨_, rfl⟩
  have HUs := Lib.hid (fun W (hb : Below w.heap.size w W) => usable_use s q ta tcap l k hk W (hs.below hb) (ht.below hb) (hE.below hb) hu ip hip hmod p hpe)
  have HRa := Lib.hid (fun n d V => rat25_any n d V)
  clear hs hE ht hu hmod hpe hnp hip
  obtain ⟨jp, hjp, hrj0, hrj20, _⟩ := modT_lt (n := s.bars.length + 1) (by omega) j
  have hrj : (j : Int) % ((s.bars.length : Int) + 1) = (jp : Int) := by rw [← hrj0]; push_cast; rfl
  have hrj2 : (j : Int).tmod ((s.bars.length : Int) + 1) = (jp : Int) := by rw [← hrj20]; push_cast; rfl
  clear hrj0 hrj20
  have hwj : IntKind.i64.wrap (j : Int) = (j : Int) := IntWalk.i64_in _ (by omega)
  have hwn : IntKind.i64.wrap ((s.bars.length : Int) + 1) = (s.bars.length : Int) + 1 := IntWalk.i64_in _ (by omega)
  have hn0 : ((s.bars.length : Int) + 1 == 0) = false := by simp; omega
  have hz : ¬ ((s.bars.length : Int) + 1 = 0) := by omega
  have hjL : j < 256 := by omega
  obtain ⟨ab, cb, ap, cp, an, cn⟩ := q
  try dsimp only at *
  go_enter Tryz.func5, Tryz.ntmps5
  go_upto_region 1 with (fail)
  generalize w.alloc (.cells #[.int .i64 s.version, .slice (⟨ab, cb, ap, cp, an, cn⟩ : Sp).ab s.bars.length (⟨ab, cb, ap, cp, an, cn⟩ : Sp).cb, .slice (⟨ab, cb, ap, cp, an, cn⟩ : Sp).ap s.parts.length (⟨ab, cb, ap, cp, an, cn⟩ : Sp).cp, .slice (⟨ab, cb, ap, cp, an, cn⟩ : Sp).an s.notes.length (⟨ab, cb, ap, cp, an, cn⟩ : Sp).cn] 26) = W at *
  (try have hc1 := box_cells HX1.out); (try have hc2 := box_cells HX2.out); (try have hc3 := box_cells HX3.out); (try have hc4 := box_cells HX4.out); (try have hc5 := box_cells HX5.out); (try have hc6 := box_cells HX6.out); (try have hc7 := box_cells HX7.out); (try have hc8 := box_cells HX8.out)
  go_upto_region 3 with (first | (go_at_call 9; refine (HHd.out _ HB.out).mono ?_; rintro e w2 ⟨rfl, hb⟩; (try clear hc1); (try clear hc2); (try clear hc3); (try clear hc4); (try clear hc5); (try clear hc6); (try clear hc7); (try clear hc8); (try replace hb := drewB hb); (try replace HX1 := Lib.hid (blk_keep HX1.out hb)); (try replace HX2 := Lib.hid (blk_keep HX2.out hb)); (try replace HX3 := Lib.hid (blk_keep HX3.out hb)); (try replace HX4 := Lib.hid (blk_keep HX4.out hb)); (try replace HX5 := Lib.hid (blk_keep HX5.out hb)); (try replace HX6 := Lib.hid (blk_keep HX6.out hb)); (try replace HX7 := Lib.hid (blk_keep HX7.out hb)); (try replace HX8 := Lib.hid (blk_keep HX8.out hb)); (try replace HC := Lib.hid (HC.out.trans (hb.mono HC.out.size))); replace HB := Lib.hid (HB.out.trans (hb.mono HB.out.size)); clear hb; (try have hc1 := box_cells HX1.out); (try have hc2 := box_cells HX2.out); (try have hc3 := box_cells HX3.out); (try have hc4 := box_cells HX4.out); (try have hc5 := box_cells HX5.out); (try have hc6 := box_cells HX6.out); (try have hc7 := box_cells HX7.out); (try have hc8 := box_cells HX8.out)) | (go_at_call 16; refine (HUs.out _ HB.out).mono ?_; rintro e w3 ⟨a, cap, ms, rfl, huse, hb⟩; have HUw := Lib.hid huse; clear huse; (try clear hc1); (try clear hc2); (try clear hc3); (try clear hc4); (try clear hc5); (try clear hc6); (try clear hc7); (try clear hc8); (try replace hb := drewB hb); (try replace HX1 := Lib.hid (blk_keep HX1.out hb)); (try replace HX2 := Lib.hid (blk_keep HX2.out hb)); (try replace HX3 := Lib.hid (blk_keep HX3.out hb)); (try replace HX4 := Lib.hid (blk_keep HX4.out hb)); (try replace HX5 := Lib.hid (blk_keep HX5.out hb)); (try replace HX6 := Lib.hid (blk_keep HX6.out hb)); (try replace HX7 := Lib.hid (blk_keep HX7.out hb)); (try replace HX8 := Lib.hid (blk_keep HX8.out hb)); (try replace HC := Lib.hid (HC.out.trans (hb.mono HC.out.size))); replace HB := Lib.hid (HB.out.trans (hb.mono HB.out.size)); clear hb; (try have hc1 := box_cells HX1.out); (try have hc2 := box_cells HX2.out); (try have hc3 := box_cells HX3.out); (try have hc4 := box_cells HX4.out); (try have hc5 := box_cells HX5.out); (try have hc6 := box_cells HX6.out); (try have hc7 := box_cells HX7.out); (try have hc8 := box_cells HX8.out)))
  have hb := (Below.refl w3.heap.size w3).alloc (Nat.le_refl _) (.cells #[.int .i64 p.id, .slice a ms.length cap] 30 (0, 0))
  replace HUw := Lib.hid (HUw.out.below hb)
  have hqm : ((ms.length : Int) != (s.bars.length : Int)) = false := by rw [HUw.out.len]; simp
  have hlm : ms.length = s.bars.length := HUw.out.len
  obtain ⟨b, off, hqa, hqr⟩ := HUw.out.tw.me.get 0 HUw.out.v.pos
  clear hqr
  subst hqa
  clear hb
  have x4 := heap_alloc_new w3 (.cells #[.int .i64 p.id, .slice (some ⟨b, off, none⟩) ms.length cap] 30 (0, 0)); have hb := (Below.refl (w3).heap.size w3).alloc (Nat.le_refl _) (.cells #[.int .i64 p.id, .slice (some ⟨b, off, none⟩) ms.length cap] 30 (0, 0)); (try clear hc1); (try clear hc2); (try clear hc3); (try clear hc4); (try clear hc5); (try clear hc6); (try clear hc7); (try clear hc8); (try replace hb := drewB hb); (try replace HX1 := Lib.hid (blk_keep HX1.out hb)); (try replace HX2 := Lib.hid (blk_keep HX2.out hb)); (try replace HX3 := Lib.hid (blk_keep HX3.out hb)); (try replace HX4 := Lib.hid (blk_keep HX4.out hb)); (try replace HX5 := Lib.hid (blk_keep HX5.out hb)); (try replace HX6 := Lib.hid (blk_keep HX6.out hb)); (try replace HX7 := Lib.hid (blk_keep HX7.out hb)); (try replace HX8 := Lib.hid (blk_keep HX8.out hb)); (try replace HC := Lib.hid (HC.out.trans (hb.mono HC.out.size))); replace HB := Lib.hid (HB.out.trans (hb.mono HB.out.size)); clear hb; have HX4 := Lib.hid x4; clear x4; generalize World.alloc w3 (.cells #[.int .i64 p.id, .slice (some ⟨b, off, none⟩) ms.length cap] 30 (0, 0)) = W4 at *; generalize World.heap w3 = vh at *; (try have hc1 := box_cells HX1.out); (try have hc2 := box_cells HX2.out); (try have hc3 := box_cells HX3.out); (try have hc4 := box_cells HX4.out); (try have hc5 := box_cells HX5.out); (try have hc6 := box_cells HX6.out); (try have hc7 := box_cells HX7.out); (try have hc8 := box_cells HX8.out)
  have HC := Lib.hid (Below.refl W4.heap.size W4)
  have HLm := Lib.hid hlm
  clear hlm
  obtain ⟨FX, hFX⟩ : ∃ FX, freeR s.bars l (viewL s p) jp = FX := ⟨_, rfl⟩
  have HF1 := Lib.hid (fun V (hV : Below W4.heap.size W4 V) => free_use (cap := cap) (tcap := tcap) (HUw.out.below hV) (k := jp) (by omega) hFX)
  have hx3 := free_err hFX
  have HFx := Lib.hid hFX
  clear hFX
  obtain ⟨⟨⟨n1, d1⟩, ⟨n2, d2⟩⟩, fx⟩ := FX
  dsimp only at HF1 hx3
  go_upto_region 7 with (go_at_call 11; refine (HF1.out _ HC.out).mono ?_; rintro e w6 ⟨rfl, hb⟩; (try clear hc1); (try clear hc2); (try clear hc3); (try clear hc4); (try clear hc5); (try clear hc6); (try clear hc7); (try clear hc8); (try replace hb := drewB hb); (try replace HX1 := Lib.hid (blk_keep HX1.out hb)); (try replace HX2 := Lib.hid (blk_keep HX2.out hb)); (try replace HX3 := Lib.hid (blk_keep HX3.out hb)); (try replace HX4 := Lib.hid (blk_keep HX4.out hb)); (try replace HX5 := Lib.hid (blk_keep HX5.out hb)); (try replace HX6 := Lib.hid (blk_keep HX6.out hb)); (try replace HX7 := Lib.hid (blk_keep HX7.out hb)); (try replace HX8 := Lib.hid (blk_keep HX8.out hb)); (try replace HC := Lib.hid (HC.out.trans (hb.mono HC.out.size))); replace HB := Lib.hid (HB.out.trans (hb.mono HB.out.size)); clear hb; (try have hc1 := box_cells HX1.out); (try have hc2 := box_cells HX2.out); (try have hc3 := box_cells HX3.out); (try have hc4 := box_cells HX4.out); (try have hc5 := box_cells HX5.out); (try have hc6 := box_cells HX6.out); (try have hc7 := box_cells HX7.out); (try have hc8 := box_cells HX8.out))
  have x4 := heap_alloc_new w6 (.cells #[.int .i64 n1, .int .i64 d1, .int .i64 n2, .int .i64 d2] 36 (0, 0)); have hb := (Below.refl (w6).heap.size w6).alloc (Nat.le_refl _) (.cells #[.int .i64 n1, .int .i64 d1, .int .i64 n2, .int .i64 d2] 36 (0, 0)); (try clear hc1); (try clear hc2); (try clear hc3); (try clear hc4); (try clear hc5); (try clear hc6); (try clear hc7); (try clear hc8); (try replace hb := drewB hb); (try replace HX1 := Lib.hid (blk_keep HX1.out hb)); (try replace HX2 := Lib.hid (blk_keep HX2.out hb)); (try replace HX3 := Lib.hid (blk_keep HX3.out hb)); (try replace HX4 := Lib.hid (blk_keep HX4.out hb)); (try replace HX5 := Lib.hid (blk_keep HX5.out hb)); (try replace HX6 := Lib.hid (blk_keep HX6.out hb)); (try replace HX7 := Lib.hid (blk_keep HX7.out hb)); (try replace HX8 := Lib.hid (blk_keep HX8.out hb)); (try replace HC := Lib.hid (HC.out.trans (hb.mono HC.out.size))); replace HB := Lib.hid (HB.out.trans (hb.mono HB.out.size)); clear hb; have HX3 := Lib.hid x4; clear x4; generalize World.alloc w6 (.cells #[.int .i64 n1, .int .i64 d1, .int .i64 n2, .int .i64 d2] 36 (0, 0)) = W6 at *; generalize World.heap w6 = h6 at *; (try have hc1 := box_cells HX1.out); (try have hc2 := box_cells HX2.out); (try have hc3 := box_cells HX3.out); (try have hc4 := box_cells HX4.out); (try have hc5 := box_cells HX5.out); (try have hc6 := box_cells HX6.out); (try have hc7 := box_cells HX7.out); (try have hc8 := box_cells HX8.out)
  clear HF1
  by_cases he1 : ¬ fx = 0
  · obtain rfl : fx = 3 := by omega
    go_wp2
    go_ret
    exact ⟨rfl, HB.out⟩
  obtain rfl : fx = 0 := by omega
  clear hx3 he1
  obtain ⟨SI, hSI⟩ : ∃ SI, sinceP (viewL s p) jp = SI := ⟨_, rfl⟩
  obtain ⟨UN, hUN⟩ : ∃ UN, untilP (viewL s p) jp = UN := ⟨_, rfl⟩
  have HSi := Lib.hid (fun V (hV : Below W4.heap.size W4 V) => show Calls Tryz.prog 21 #[.agg #[.int .i64 p.id, .slice (some ⟨b, off, none⟩) ms.length cap], .int .i64 (jp : Int)] V (fun e w' => e = .returned (.agg #[.int .i64 SI.bar, .int .i64 SI.at_.n, .int .i64 SI.at_.d]) ∧ Below V.heap.size V w') from by have h := rSince_any p.id b off cap ms jp V HUw.out.v.msv (by rw [HLm.out]; omega) (HUw.out.tw.me.below hV); rwa [HUw.out.sy, hSI] at h)
  have HUn := Lib.hid (fun V (hV : Below W4.heap.size W4 V) => show Calls Tryz.prog 22 #[.agg #[.int .i64 p.id, .slice (some ⟨b, off, none⟩) ms.length cap], .int .i64 (jp : Int)] V (fun e w' => e = .returned (.agg #[.int .i64 UN.bar, .int .i64 UN.at_.n, .int .i64 UN.at_.d]) ∧ Below V.heap.size V w') from by have h := rUntil_any p.id b off cap ms jp V HUw.out.v.msv (by rw [HLm.out]; omega) (HUw.out.tw.me.below hV); rwa [HUw.out.sy, hUN] at h)
  have HSI := Lib.hid hSI; have HUN := Lib.hid hUN
  clear hSI hUN
  obtain ⟨sb, sn, sd⟩ := SI
  obtain ⟨ub, un, ud⟩ := UN
  dsimp only at HSi HUn
  go_upto_region 10 with (go_at_call 18; refine (HRa.out _ _ _).mono ?_; rintro e w7 ⟨rfl, hb⟩; (try clear hc1); (try clear hc2); (try clear hc3); (try clear hc4); (try clear hc5); (try clear hc6); (try clear hc7); (try clear hc8); (try replace hb := drewB hb); (try replace HX1 := Lib.hid (blk_keep HX1.out hb)); (try replace HX2 := Lib.hid (blk_keep HX2.out hb)); (try replace HX3 := Lib.hid (blk_keep HX3.out hb)); (try replace HX4 := Lib.hid (blk_keep HX4.out hb)); (try replace HX5 := Lib.hid (blk_keep HX5.out hb)); (try replace HX6 := Lib.hid (blk_keep HX6.out hb)); (try replace HX7 := Lib.hid (blk_keep HX7.out hb)); (try replace HX8 := Lib.hid (blk_keep HX8.out hb)); (try replace HC := Lib.hid (HC.out.trans (hb.mono HC.out.size))); replace HB := Lib.hid (HB.out.trans (hb.mono HB.out.size)); clear hb; (try have hc1 := box_cells HX1.out); (try have hc2 := box_cells HX2.out); (try have hc3 := box_cells HX3.out); (try have hc4 := box_cells HX4.out); (try have hc5 := box_cells HX5.out); (try have hc6 := box_cells HX6.out); (try have hc7 := box_cells HX7.out); (try have hc8 := box_cells HX8.out))
  have x4 := heap_alloc_new w7 (.cells #[.int .i64 (jp : Int), .int .i64 0, .int .i64 1] 54 (0, 0)); have hb := (Below.refl (w7).heap.size w7).alloc (Nat.le_refl _) (.cells #[.int .i64 (jp : Int), .int .i64 0, .int .i64 1] 54 (0, 0)); (try clear hc1); (try clear hc2); (try clear hc3); (try clear hc4); (try clear hc5); (try clear hc6); (try clear hc7); (try clear hc8); (try replace hb := drewB hb); (try replace HX1 := Lib.hid (blk_keep HX1.out hb)); (try replace HX2 := Lib.hid (blk_keep HX2.out hb)); (try replace HX3 := Lib.hid (blk_keep HX3.out hb)); (try replace HX4 := Lib.hid (blk_keep HX4.out hb)); (try replace HX5 := Lib.hid (blk_keep HX5.out hb)); (try replace HX6 := Lib.hid (blk_keep HX6.out hb)); (try replace HX7 := Lib.hid (blk_keep HX7.out hb)); (try replace HX8 := Lib.hid (blk_keep HX8.out hb)); (try replace HC := Lib.hid (HC.out.trans (hb.mono HC.out.size))); replace HB := Lib.hid (HB.out.trans (hb.mono HB.out.size)); clear hb; have HX2 := Lib.hid x4; clear x4; generalize World.alloc w7 (.cells #[.int .i64 (jp : Int), .int .i64 0, .int .i64 1] 54 (0, 0)) = W5 at *; generalize World.heap w7 = h5 at *; (try have hc1 := box_cells HX1.out); (try have hc2 := box_cells HX2.out); (try have hc3 := box_cells HX3.out); (try have hc4 := box_cells HX4.out); (try have hc5 := box_cells HX5.out); (try have hc6 := box_cells HX6.out); (try have hc7 := box_cells HX7.out); (try have hc8 := box_cells HX8.out)
  go_cut [16, 17] (fun s16 s17 V => ∃ b1 b2, s16 = .pointer (some ⟨b1, 0, none⟩) ∧ s17 = .pointer (some ⟨b2, 0, none⟩) ∧ W5.heap.size ≤ b1 ∧ W5.heap.size ≤ b2 ∧ V.heap[b1]? = some (.cells #[.int .i64 sb, .int .i64 sn, .int .i64 sd] 54 (0, 0)) ∧ V.heap[b2]? = some (.cells #[.int .i64 ub, .int .i64 un, .int .i64 ud] 54 (0, 0)) ∧ Below W5.heap.size W5 V)
  case first =>
    have j1 : W5.cell? ⟨vh.size, 0, none⟩ = some (.int .i64 p.id) := hc4 0
    have j2 := hc4 1
    have HSi2 := Lib.hid (fun V (hV : RowKit.Below W5.heap.size W5 V) => HSi.out V (HC.out.trans (hV.mono HC.out.size)))
    have HUn2 := Lib.hid (fun V (hV : RowKit.Below W5.heap.size W5 V) => HUn.out V (HC.out.trans (hV.mono HC.out.size)))
    have KS := Lib.hid (fun W (hb : RowKit.Below W5.heap.size W5 W) => show W.cell? ⟨vh.size, 0, none⟩ = some (.int .i64 p.id) ∧ W.cell? ⟨vh.size, 1, none⟩ = some (.slice (some ⟨b, off, none⟩) ms.length cap) from ⟨keepE j1 hb, keepE j2 hb⟩)
    clear j1 j2
    (try clear hc1); (try clear hc2); (try clear hc3); (try clear hc4); (try clear hc5); (try clear hc6); (try clear hc7); (try clear hc8)
    clear HSI HUN HSi HUn HUw HUs HRa HHd HLm HC HX1 HX2 HX3 HX4
    refine wp_region_noPanic ?_
    refine wp_region_held_drew (S := fun W => W.cell? ⟨vh.size, 0, none⟩ = some (.int .i64 p.id) ∧ W.cell? ⟨vh.size, 1, none⟩ = some (.slice (some ⟨b, off, none⟩) ms.length cap)) (by kernel_rfl) (KS.out _ (Below.refl _ _).drew) (fun hHeld => ?_)
    (refine wpAnyH_take1 0 (oi := ?_) (v := ?_) ?_ (by kernel_rfl) (by kernel_rfl) (by kernel_rfl) (by assumption) ?_ ?_ ?_; rotate_left 2; (· simp only [List.getElem?_toArray, List.getElem?_cons_succ, List.getElem?_cons_zero]; try rfl); (· refine ⟨by kernel_rfl, ?_⟩; intro wq hSw; obtain ⟨y0, y1⟩ := hSw; go_simp; first | done | with_reducible rfl); (· exact fun _ _ _ h => h); try simp only [Act.put, List.setIfInBounds_toArray, List.set_cons_zero, List.set_cons_succ])
    (refine wpAnyH_take1 1 (oi := ?_) (v := ?_) ?_ (by kernel_rfl) (by kernel_rfl) (by kernel_rfl) (by assumption) ?_ ?_ ?_; rotate_left 2; (· simp only [List.getElem?_toArray, List.getElem?_cons_succ, List.getElem?_cons_zero]; try rfl); (· refine ⟨by kernel_rfl, ?_⟩; intro wq hSw; obtain ⟨y0, y1⟩ := hSw; go_simp; first | done | with_reducible rfl); (· exact fun _ _ _ h => h); try simp only [Act.put, List.setIfInBounds_toArray, List.set_cons_zero, List.set_cons_succ])
    (refine wpAnyH_take1 3 (oi := ?_) (v := ?_) ?_ (by kernel_rfl) (by kernel_rfl) (by kernel_rfl) (by assumption) ?_ ?_ ?_; rotate_left 2; (· simp only [List.getElem?_toArray, List.getElem?_cons_succ, List.getElem?_cons_zero]; try rfl); (· refine ⟨by kernel_rfl, ?_⟩; intro wq hSw; obtain ⟨y0, y1⟩ := hSw; go_simp; first | done | with_reducible rfl); (· exact fun _ _ _ h => h); try simp only [Act.put, List.setIfInBounds_toArray, List.set_cons_zero, List.set_cons_succ])
    (refine wpAnyH_take1 4 (oi := ?_) (v := ?_) ?_ (by kernel_rfl) (by kernel_rfl) (by kernel_rfl) (by assumption) ?_ ?_ ?_; rotate_left 2; (· simp only [List.getElem?_toArray, List.getElem?_cons_succ, List.getElem?_cons_zero]; try rfl); (· refine ⟨by kernel_rfl, ?_⟩; intro wq hSw; obtain ⟨y0, y1⟩ := hSw; go_simp; first | done | with_reducible rfl); (· exact fun _ _ _ h => h); try simp only [Act.put, List.setIfInBounds_toArray, List.set_cons_zero, List.set_cons_succ])
    refine wpAnyH_by [2, 5, 6, 7, 8, 9] (fun A D a v => ∃ x82 x85 x16 x17, a = (((A.put (some 82) x82).put (some 85) x85).put (some 16) x16).put (some 17) x17 ∧ (D 2 = true → x82 = .agg #[.int .i64 sb, .int .i64 sn, .int .i64 sd]) ∧ (D 5 = true → x85 = .agg #[.int .i64 ub, .int .i64 un, .int .i64 ud]) ∧ BoxI W5 (D 6) (D 8) x16 v (.cells #[.int .i64 sb, .int .i64 sn, .int .i64 sd] 54 (0, 0)) ∧ BoxI W5 (D 7) (D 9) x17 v (.cells #[.int .i64 ub, .int .i64 un, .int .i64 ud] 54 (0, 0)) ∧ (D 6 = true → D 7 = true → x16 ≠ x17) ∧ (D 8 = true → D 6 = true) ∧ (D 9 = true → D 7 = true) ∧ Below W5.heap.size W5 v) (by kernel_rfl) rfl rfl (by kernel_rfl) ?_ ?_ ?_ ?_
    · refine ⟨_, _, _, _, rfl, fun h => absurd h (by decide), fun h => absurd h (by decide), fun h => absurd h (by decide), fun h => absurd h (by decide), fun h => absurd h (by decide), fun h => absurd h (by decide), fun h => absurd h (by decide), (Below.refl _ _).drew⟩
    · rintro D b1 v ⟨x82, x85, x16, x17, _, _, _, _, _, _, _, _, hb⟩
      exact KS.out _ hb
    · rintro D b1 v ⟨x82, x85, x16, x17, rfl, h82, h85, h16, h17, hne, d86, d97, hb⟩
      (refine StepAll.cons (o := ?_) ?_ (fun hd hdep => ?_) ?_; rotate_left 1; (· simp only [List.getElem?_toArray, List.getElem?_cons_succ, List.getElem?_cons_zero]; try rfl))
      · intro K hK
        (try simp only [Act.put, List.setIfInBounds_toArray, List.set_cons_zero, List.set_cons_succ])
        go_simp
        refine (HSi2.out _ hb).mono ?_
        rintro e w8 ⟨rfl, hbb⟩
        go_simp
        exact hK.out _ _ ⟨_, x85, x16, x17, rfl, fun _ => rfl, h85, h16.below hbb, h17.below hbb, hne, d86, d97, hb.trans (hbb.mono hb.size)⟩
      (refine StepAll.cons (o := ?_) ?_ (fun hd hdep => ?_) ?_; rotate_left 1; (· simp only [List.getElem?_toArray, List.getElem?_cons_succ, List.getElem?_cons_zero]; try rfl))
      · intro K hK
        (try simp only [Act.put, List.setIfInBounds_toArray, List.set_cons_zero, List.set_cons_succ])
        go_simp
        refine (HUn2.out _ hb).mono ?_
        rintro e w8 ⟨rfl, hbb⟩
        go_simp
        exact hK.out _ _ ⟨x82, _, x16, x17, rfl, h82, fun _ => rfl, h16.below hbb, h17.below hbb, hne, d86, d97, hb.trans (hbb.mono hb.size)⟩
      (refine StepAll.cons (o := ?_) ?_ (fun hd hdep => ?_) ?_; rotate_left 1; (· simp only [List.getElem?_toArray, List.getElem?_cons_succ, List.getElem?_cons_zero]; try rfl))
      · intro K hK
        (try simp only [Act.put, List.setIfInBounds_toArray, List.set_cons_zero, List.set_cons_succ])
        go_simp
        exact hK.out _ _ ⟨x82, x85, _, x17, rfl, h82, h85, fun _ => ⟨v.heap.size, _, _, _, rfl, hb.size, heap_alloc_new _ _, fun h => by have h9 := d86 h; rw [hd] at h9; cases h9⟩, h17.below (below_box _), fun _ h7 e => by
          obtain ⟨c, _, _, _, e2, _, hz, _⟩ := h17 h7
          rw [e2] at e
          have h9 := lt_blk hz
          injection e with e
          injection e with e
          injection e with e
          omega, fun _ => rfl, d97, hb.alloc hb.size _⟩
      (refine StepAll.cons (o := ?_) ?_ (fun hd hdep => ?_) ?_; rotate_left 1; (· simp only [List.getElem?_toArray, List.getElem?_cons_succ, List.getElem?_cons_zero]; try rfl))
      · intro K hK
        (try simp only [Act.put, List.setIfInBounds_toArray, List.set_cons_zero, List.set_cons_succ])
        go_simp
        exact hK.out _ _ ⟨x82, x85, x16, _, rfl, h82, h85, h16.below (below_box _), fun _ => ⟨v.heap.size, _, _, _, rfl, hb.size, heap_alloc_new _ _, fun h => by have h9 := d97 h; rw [hd] at h9; cases h9⟩, fun h6 _ e => by
          obtain ⟨c, _, _, _, e2, _, hz, _⟩ := h16 h6
          rw [e2] at e
          have h9 := lt_blk hz
          injection e with e
          injection e with e
          injection e with e
          omega, d86, fun _ => rfl, hb.alloc hb.size _⟩
      (refine StepAll.cons (o := ?_) ?_ (fun hd hdep => ?_) ?_; rotate_left 1; (· simp only [List.getElem?_toArray, List.getElem?_cons_succ, List.getElem?_cons_zero]; try rfl))
      · have hdd : D 6 = true ∧ D 2 = true := ⟨hdep ⟨6, .data⟩ (by simp) rfl, hdep ⟨2, .data⟩ (by simp) rfl⟩
        clear hdep
        obtain ⟨c, u0, u1, u2, rfl, hc, hz, _⟩ := h16 hdd.1
        obtain rfl := h82 hdd.2
        have hcc := box_cells hz; have hff := box_free hz; have hlz := lt_blk hz
        intro K hK
        (try simp only [Act.put, List.setIfInBounds_toArray, List.set_cons_zero, List.set_cons_succ])
        go_simp
        exact hK.out _ _ ⟨_, x85, _, x17, rfl, fun _ => rfl, h85, fun _ => ⟨c, _, _, _, rfl, hc, pos3_at hz, fun _ => pos3_at hz⟩, h17.set3 (fun h7 => (hne hdd.1 h7).symm), hne, fun _ => hdd.1, d97, pos3_below hb hc⟩
      (refine StepAll.cons (o := ?_) ?_ (fun hd hdep => ?_) ?_; rotate_left 1; (· simp only [List.getElem?_toArray, List.getElem?_cons_succ, List.getElem?_cons_zero]; try rfl))
      · have hdd : D 7 = true ∧ D 5 = true := ⟨hdep ⟨7, .data⟩ (by simp) rfl, hdep ⟨5, .data⟩ (by simp) rfl⟩
        clear hdep
        obtain ⟨c, u0, u1, u2, rfl, hc, hz, _⟩ := h17 hdd.1
        obtain rfl := h85 hdd.2
        have hcc := box_cells hz; have hff := box_free hz; have hlz := lt_blk hz
        intro K hK
        (try simp only [Act.put, List.setIfInBounds_toArray, List.set_cons_zero, List.set_cons_succ])
        go_simp
        exact hK.out _ _ ⟨x82, _, x16, _, rfl, h82, fun _ => rfl, h16.set3 (fun h6 => hne h6 hdd.1), fun _ => ⟨c, _, _, _, rfl, hc, pos3_at hz, fun _ => pos3_at hz⟩, hne, d86, fun _ => hdd.1, pos3_below hb hc⟩
      exact StepAll.nil
    · rintro D b1 v hall ⟨x82, x85, x16, x17, rfl, h82, h85, h16, h17, hne, d86, d97, hb⟩
      obtain ⟨c, _, _, _, rfl, hc, _, hz⟩ := h16 (hall 6 (by simp))
      obtain ⟨c', _, _, _, rfl, hc', _, hz'⟩ := h17 (hall 7 (by simp))
      replace hz := hz (hall 8 (by simp)); replace hz' := hz' (hall 9 (by simp))
      (try simp only [Act.put, List.setIfInBounds_toArray, List.set_cons_zero, List.set_cons_succ])
      refine NoPanic.normal ?_
      go_wp2
      go_meet
      case rel => exact ⟨c, c', rfl, rfl, hc, hc', hz, hz', hb⟩
  case rest =>
  obtain ⟨b1, b2, rfl, rfl, hz1, hz2, hx1, hx2, hb⟩ := hcut
  (try clear hc1); (try clear hc2); (try clear hc3); (try clear hc4); (try clear hc5); (try clear hc6); (try clear hc7); (try clear hc8)
  (try replace hb := drewB hb); (try replace HX1 := Lib.hid (blk_keep HX1.out hb)); (try replace HX2 := Lib.hid (blk_keep HX2.out hb)); (try replace HX3 := Lib.hid (blk_keep HX3.out hb)); (try replace HX4 := Lib.hid (blk_keep HX4.out hb)); (try replace HX5 := Lib.hid (blk_keep HX5.out hb)); (try replace HX6 := Lib.hid (blk_keep HX6.out hb)); (try replace HX7 := Lib.hid (blk_keep HX7.out hb)); (try replace HX8 := Lib.hid (blk_keep HX8.out hb)); (try replace HC := Lib.hid (HC.out.trans (hb.mono HC.out.size))); replace HB := Lib.hid (HB.out.trans (hb.mono HB.out.size)); clear hb
  have HX5 := Lib.hid hx1; have HX6 := Lib.hid hx2
  clear hx1 hx2 HSi HUn
  generalize wc = W6 at *
  (try have hc1 := box_cells HX1.out); (try have hc2 := box_cells HX2.out); (try have hc3 := box_cells HX3.out); (try have hc4 := box_cells HX4.out); (try have hc5 := box_cells HX5.out); (try have hc6 := box_cells HX6.out); (try have hc7 := box_cells HX7.out); (try have hc8 := box_cells HX8.out)
  have HS1 := Lib.hid (fun V (hV : Below W4.heap.size W4 V) => show Calls Tryz.prog 23 #[.slice ab s.bars.length cb, .slice ta l.length tcap, .agg #[.int .i64 sb, .int .i64 sn, .int .i64 sd], .agg #[.int .i64 (jp : Int), .int .i64 0, .int .i64 1]] V (fun e w' => e = .returned (.tuple #[.agg #[.int .i64 n1, .int .i64 d1], .int .i64 0]) ∧ Below V.heap.size V w') from by
    have h := pSec_any ab cb s.bars ta tcap l ⟨sb, ⟨sn, sd⟩⟩ (startP jp) V (Nat.le_trans HUw.out.tw.few.bars (by decide)) (Nat.le_trans HUw.out.tw.tl (by decide)) (HUw.out.tw.sc.bars.below hV) (HUw.out.tw.te.below hV)
    have h9 := (free_parts HFx.out).1
    rw [HSI.out] at h9
    rw [h9] at h
    exact h)
  have HS2 := Lib.hid (fun V (hV : Below W4.heap.size W4 V) => show Calls Tryz.prog 23 #[.slice ab s.bars.length cb, .slice ta l.length tcap, .agg #[.int .i64 (jp : Int), .int .i64 0, .int .i64 1], .agg #[.int .i64 ub, .int .i64 un, .int .i64 ud]] V (fun e w' => e = .returned (.tuple #[.agg #[.int .i64 n2, .int .i64 d2], .int .i64 0]) ∧ Below V.heap.size V w') from by
    have h := pSec_any ab cb s.bars ta tcap l (startP jp) ⟨ub, ⟨un, ud⟩⟩ V (Nat.le_trans HUw.out.tw.few.bars (by decide)) (Nat.le_trans HUw.out.tw.tl (by decide)) (HUw.out.tw.sc.bars.below hV) (HUw.out.tw.te.below hV)
    have h9 := (free_parts HFx.out).2
    rw [HUN.out] at h9
    rw [h9] at h
    exact h)
  go_upto_region 12 with (go_at_call 23; refine (HS1.out _ HC.out).mono ?_; rintro e w8 ⟨rfl, hb⟩; (try clear hc1); (try clear hc2); (try clear hc3); (try clear hc4); (try clear hc5); (try clear hc6); (try clear hc7); (try clear hc8); (try replace hb := drewB hb); (try replace HX1 := Lib.hid (blk_keep HX1.out hb)); (try replace HX2 := Lib.hid (blk_keep HX2.out hb)); (try replace HX3 := Lib.hid (blk_keep HX3.out hb)); (try replace HX4 := Lib.hid (blk_keep HX4.out hb)); (try replace HX5 := Lib.hid (blk_keep HX5.out hb)); (try replace HX6 := Lib.hid (blk_keep HX6.out hb)); (try replace HX7 := Lib.hid (blk_keep HX7.out hb)); (try replace HX8 := Lib.hid (blk_keep HX8.out hb)); (try replace HC := Lib.hid (HC.out.trans (hb.mono HC.out.size))); replace HB := Lib.hid (HB.out.trans (hb.mono HB.out.size)); clear hb; (try have hc1 := box_cells HX1.out); (try have hc2 := box_cells HX2.out); (try have hc3 := box_cells HX3.out); (try have hc4 := box_cells HX4.out); (try have hc5 := box_cells HX5.out); (try have hc6 := box_cells HX6.out); (try have hc7 := box_cells HX7.out); (try have hc8 := box_cells HX8.out))
  have x4 := heap_alloc_new w8 (.cells #[.int .i64 n1, .int .i64 d1] 32 (0, 0)); have hb := (Below.refl (w8).heap.size w8).alloc (Nat.le_refl _) (.cells #[.int .i64 n1, .int .i64 d1] 32 (0, 0)); (try clear hc1); (try clear hc2); (try clear hc3); (try clear hc4); (try clear hc5); (try clear hc6); (try clear hc7); (try clear hc8); (try replace hb := drewB hb); (try replace HX1 := Lib.hid (blk_keep HX1.out hb)); (try replace HX2 := Lib.hid (blk_keep HX2.out hb)); (try replace HX3 := Lib.hid (blk_keep HX3.out hb)); (try replace HX4 := Lib.hid (blk_keep HX4.out hb)); (try replace HX5 := Lib.hid (blk_keep HX5.out hb)); (try replace HX6 := Lib.hid (blk_keep HX6.out hb)); (try replace HX7 := Lib.hid (blk_keep HX7.out hb)); (try replace HX8 := Lib.hid (blk_keep HX8.out hb)); (try replace HC := Lib.hid (HC.out.trans (hb.mono HC.out.size))); replace HB := Lib.hid (HB.out.trans (hb.mono HB.out.size)); clear hb; have HX7 := Lib.hid x4; clear x4; generalize World.alloc w8 (.cells #[.int .i64 n1, .int .i64 d1] 32 (0, 0)) = W8 at *; generalize World.heap w8 = h8 at *; (try have hc1 := box_cells HX1.out); (try have hc2 := box_cells HX2.out); (try have hc3 := box_cells HX3.out); (try have hc4 := box_cells HX4.out); (try have hc5 := box_cells HX5.out); (try have hc6 := box_cells HX6.out); (try have hc7 := box_cells HX7.out); (try have hc8 := box_cells HX8.out)
  clear HS1
  go_upto_region 13 with (go_at_call 23; refine (HS2.out _ HC.out).mono ?_; rintro e w9 ⟨rfl, hb⟩; (try clear hc1); (try clear hc2); (try clear hc3); (try clear hc4); (try clear hc5); (try clear hc6); (try clear hc7); (try clear hc8); (try replace hb := drewB hb); (try replace HX1 := Lib.hid (blk_keep HX1.out hb)); (try replace HX2 := Lib.hid (blk_keep HX2.out hb)); (try replace HX3 := Lib.hid (blk_keep HX3.out hb)); (try replace HX4 := Lib.hid (blk_keep HX4.out hb)); (try replace HX5 := Lib.hid (blk_keep HX5.out hb)); (try replace HX6 := Lib.hid (blk_keep HX6.out hb)); (try replace HX7 := Lib.hid (blk_keep HX7.out hb)); (try replace HX8 := Lib.hid (blk_keep HX8.out hb)); (try replace HC := Lib.hid (HC.out.trans (hb.mono HC.out.size))); replace HB := Lib.hid (HB.out.trans (hb.mono HB.out.size)); clear hb; (try have hc1 := box_cells HX1.out); (try have hc2 := box_cells HX2.out); (try have hc3 := box_cells HX3.out); (try have hc4 := box_cells HX4.out); (try have hc5 := box_cells HX5.out); (try have hc6 := box_cells HX6.out); (try have hc7 := box_cells HX7.out); (try have hc8 := box_cells HX8.out))
  have x4 := heap_alloc_new w9 (.cells #[.int .i64 n2, .int .i64 d2] 32 (0, 0)); have hb := (Below.refl (w9).heap.size w9).alloc (Nat.le_refl _) (.cells #[.int .i64 n2, .int .i64 d2] 32 (0, 0)); (try clear hc1); (try clear hc2); (try clear hc3); (try clear hc4); (try clear hc5); (try clear hc6); (try clear hc7); (try clear hc8); (try replace hb := drewB hb); (try replace HX1 := Lib.hid (blk_keep HX1.out hb)); (try replace HX2 := Lib.hid (blk_keep HX2.out hb)); (try replace HX3 := Lib.hid (blk_keep HX3.out hb)); (try replace HX4 := Lib.hid (blk_keep HX4.out hb)); (try replace HX5 := Lib.hid (blk_keep HX5.out hb)); (try replace HX6 := Lib.hid (blk_keep HX6.out hb)); (try replace HX7 := Lib.hid (blk_keep HX7.out hb)); (try replace HX8 := Lib.hid (blk_keep HX8.out hb)); (try replace HC := Lib.hid (HC.out.trans (hb.mono HC.out.size))); replace HB := Lib.hid (HB.out.trans (hb.mono HB.out.size)); clear hb; have HX8 := Lib.hid x4; clear x4; generalize World.alloc w9 (.cells #[.int .i64 n2, .int .i64 d2] 32 (0, 0)) = W9 at *; generalize World.heap w9 = h9 at *; (try have hc1 := box_cells HX1.out); (try have hc2 := box_cells HX2.out); (try have hc3 := box_cells HX3.out); (try have hc4 := box_cells HX4.out); (try have hc5 := box_cells HX5.out); (try have hc6 := box_cells HX6.out); (try have hc7 := box_cells HX7.out); (try have hc8 := box_cells HX8.out)
  clear HS2
  have hq1 : ∀ W, (binOp .neq 32 (.agg #[.int .i64 n1, .int .i64 d1]) (.agg #[.int .i64 n1, .int .i64 d1])).run Tryz.prog W = .ok (.bool false) W := fun W => by have h := neq_rt n1 d1 n1 d1 W; simpa using h
  have hq2 : ∀ W, (binOp .neq 32 (.agg #[.int .i64 n2, .int .i64 d2]) (.agg #[.int .i64 n2, .int .i64 d2])).run Tryz.prog W = .ok (.bool false) W := fun W => by have h := neq_rt n2 d2 n2 d2 W; simpa using h
  go_upto_region 15 with (fail)
  have heq1 := fun W => eql_po sb sn sd 0 0 1 W
  have heq2 := fun W => eql_po ub un ud (s.bars.length : Int) 0 1 W
  have HP1 := Lib.hid (show (sb == 0 && (sn == 0 && sd == 1)) = false → (⟨sb, ⟨sn, sd⟩⟩ : Po) ≠ startP 0 from fun h => po_ne h)
  have HP2 := Lib.hid (show (ub == (s.bars.length : Int) && (un == 0 && ud == 1)) = false → (⟨ub, ⟨un, ud⟩⟩ : Po) ≠ startP s.bars.length from fun h => po_ne h)
  generalize (sb == 0 && (sn == 0 && sd == 1)) = E0 at *
  generalize (ub == (s.bars.length : Int) && (un == 0 && ud == 1)) = G0 at *
  have g0 := cell_regrown (hc5 0); have g1 := cell_regrown (hc5 1); have g2 := cell_regrown (hc5 2); have g3 := cell_regrown (hc6 0); have g4 := cell_regrown (hc6 1); have g5 := cell_regrown (hc6 2); have g6 := cell_regrown (hc1 1)
  refine wp_quietB (by kernel_rfl) (by kernel_rfl) ?_
  (repeat (go_big_quiet_step ((go_at_call 18; refine Calls.regrown_of (HRa.out _ _ _)))))
  refine wpQuiet_nil ?_
  intro w10 hb
  clear g0 g1 g2 g3 g4 g5 g6 heq1 heq2
  (try clear hc1); (try clear hc2); (try clear hc3); (try clear hc4); (try clear hc5); (try clear hc6); (try clear hc7); (try clear hc8); (try replace hb := drewB hb); (try replace HX1 := Lib.hid (blk_keep HX1.out hb)); (try replace HX2 := Lib.hid (blk_keep HX2.out hb)); (try replace HX3 := Lib.hid (blk_keep HX3.out hb)); (try replace HX4 := Lib.hid (blk_keep HX4.out hb)); (try replace HX5 := Lib.hid (blk_keep HX5.out hb)); (try replace HX6 := Lib.hid (blk_keep HX6.out hb)); (try replace HX7 := Lib.hid (blk_keep HX7.out hb)); (try replace HX8 := Lib.hid (blk_keep HX8.out hb)); (try replace HC := Lib.hid (HC.out.trans (hb.mono HC.out.size))); replace HB := Lib.hid (HB.out.trans (hb.mono HB.out.size)); clear hb; (try have hc1 := box_cells HX1.out); (try have hc2 := box_cells HX2.out); (try have hc3 := box_cells HX3.out); (try have hc4 := box_cells HX4.out); (try have hc5 := box_cells HX5.out); (try have hc6 := box_cells HX6.out); (try have hc7 := box_cells HX7.out); (try have hc8 := box_cells HX8.out)
  have HMe := Lib.hid (fun W (hb : Below w10.heap.size w10 W) => show MeAt W (some ⟨b, off, none⟩) ms from HUw.out.tw.me.below (HC.out.trans (hb.mono HC.out.size)))
  have HNo := Lib.hid (fun k (h : k < ms.length) x (hx : x ∈ ms[k].notes) => show ¬ (laterB (endQ k ms[k].len x) ⟨sb, ⟨sn, sd⟩⟩ = true ∧ laterB ⟨ub, ⟨un, ud⟩⟩ ⟨k, x.start⟩ = true) from by rw [← HSI.out, ← HUN.out]; exact rests_me HUw.out.tem HUw.out.vw HUw.out.sy HLm.out (by omega) k h x hx)
  have HEn := Lib.hid (show (⟨sb, ⟨sn, sd⟩⟩ : Po) = startP 0 ∨ ∃ k, ∃ h : k < ms.length, ∃ x ∈ ms[k].notes, endQ k ms[k].len x = ⟨sb, ⟨sn, sd⟩⟩ from by rw [← HSI.out]; exact ends_me HUw.out.sy HLm.out (by omega))
  have HBg := Lib.hid (show (⟨ub, ⟨un, ud⟩⟩ : Po) = startP s.bars.length ∨ ∃ k, ∃ h : k < ms.length, ∃ x ∈ ms[k].notes, (⟨k, x.start⟩ : Po) = ⟨ub, ⟨un, ud⟩⟩ from by rw [← HUN.out, ← HLm.out]; exact begs_me HUw.out.sy)
  have HOk := Lib.hid (fun k (h : k < ms.length) x (hx : x ∈ ms[k].notes) => show 0 ≤ ticksI x.start ∧ 0 ≤ ticksI x.len ∧ ticksI x.start + ticksI x.len ≤ 1000000000 from by
    obtain ⟨h1, h2, h3⟩ := HUw.out.v.msv.note k h x hx
    exact ⟨(ticks_nonneg h1).1, (ticks_nonneg h2).1, h3⟩)
  have HSm := Lib.hid HUw.out.v.msv.small
  have HBw := Lib.hid HB.out
  clear HUw HUs HC HFx HSI HUN htem hq1 hq2 HRa HHd HB
  go_upto_region 16 with (fail)
  go_wp2
  (try clear hc1); (try clear hc2); (try clear hc3); (try clear hc4); (try clear hc5); (try clear hc6); (try clear hc7); (try clear hc8)
  clear hrj hrj2 hwj hwn hn0 hz hqm
  go_loopw [22, 23, 136] (fun s22 s23 s136 wi => ∃ (k : Nat) (E G : Bool), k ≤ ms.length ∧ s136 = .int .i64 k ∧ s22 = .bool E ∧ s23 = .bool G ∧ Hid (E = false → (⟨sb, ⟨sn, sd⟩⟩ : Po) ≠ startP 0 ∧ ∀ k' (h : k' < ms.length), k' < k → ∀ x ∈ ms[k'].notes, endQ k' ms[k'].len x ≠ ⟨sb, ⟨sn, sd⟩⟩) ∧ Hid (G = false → (⟨ub, ⟨un, ud⟩⟩ : Po) ≠ startP s.bars.length ∧ ∀ k' (h : k' < ms.length), k' < k → ∀ x ∈ ms[k'].notes, (⟨k', x.start⟩ : Po) ≠ ⟨ub, ⟨un, ud⟩⟩) ∧ Below w10.heap.size w10 wi) (fun _ _ s136 _ => ms.length - (intOf s136).toNat)
  case atStart => exact ⟨0, E0, G0, Nat.zero_le _, rfl, rfl, rfl, Lib.hid (fun h => ⟨HP1.out h, fun k' _ h => absurd h (Nat.not_lt_zero _)⟩), Lib.hid (fun h => ⟨HP2.out h, fun k' _ h => absurd h (Nat.not_lt_zero _)⟩), Below.refl _ _⟩
  case round =>
    obtain ⟨kk, E, G, hkk, rfl, rfl, rfl, HE, HG, hbe⟩ := hrel
    have HBe := Lib.hid hbe
    clear hbe
    have hfew := HLm.out
    by_cases hlt : kk < ms.length
    · obtain ⟨b', o', e', hb', c0, c1, c2, c3, c4⟩ := (HMe.out _ HBe.out).get kk hlt
      cases e'
      have HMk := Lib.hid (fun W (hb : Below w10.heap.size w10 W) => (HMe.out W hb).notes _ (List.getElem_mem hlt))
      have HOk2 := Lib.hid (HOk.out kk hlt); have HNo2 := Lib.hid (HNo.out kk hlt)
      have hsm := HSm.out kk hlt
      have HEs := Lib.hid (fun (E' : Bool) (h : E' = false → E = false ∧ ∀ x ∈ ms[kk].notes, endQ kk ms[kk].len x ≠ ⟨sb, ⟨sn, sd⟩⟩) (h2 : E' = false) => show (⟨sb, ⟨sn, sd⟩⟩ : Po) ≠ startP 0 ∧ ∀ k' (h : k' < ms.length), k' < kk + 1 → ∀ x ∈ ms[k'].notes, endQ k' ms[k'].len x ≠ ⟨sb, ⟨sn, sd⟩⟩ from ⟨(HE.out (h h2).1).1, fun k' h3 h4 x hx => by
        rcases Nat.lt_or_ge k' kk with h5 | h5
        · exact (HE.out (h h2).1).2 k' h3 h5 x hx
        · obtain rfl : k' = kk := by omega
          exact (h h2).2 x hx⟩)
      have HGs := Lib.hid (fun (G' : Bool) (h : G' = false → G = false ∧ ∀ x ∈ ms[kk].notes, (⟨kk, x.start⟩ : Po) ≠ ⟨ub, ⟨un, ud⟩⟩) (h2 : G' = false) => show (⟨ub, ⟨un, ud⟩⟩ : Po) ≠ startP s.bars.length ∧ ∀ k' (h : k' < ms.length), k' < kk + 1 → ∀ x ∈ ms[k'].notes, (⟨k', x.start⟩ : Po) ≠ ⟨ub, ⟨un, ud⟩⟩ from ⟨(HG.out (h h2).1).1, fun k' h3 h4 x hx => by
        rcases Nat.lt_or_ge k' kk with h5 | h5
        · exact (HG.out (h h2).1).2 k' h3 h5 x hx
        · obtain rfl : k' = kk := by omega
          exact (h h2).2 x hx⟩)
      clear HE HG
      generalize ms[kk] = M at *
      have hle6 : ms.length ≤ 60 := by rw [hfew]; exact hnb2
      clear hfew
      go_upto_region 19 with (fail)
      have HXm := Lib.hid (heap_alloc_new wr (.cells #[.int .i64 M.bar, .int .i64 M.key, .int .i64 M.len.n, .int .i64 M.len.d, .slice M.na M.notes.length M.ncap] 60))
      have hb := (Below.refl wr.heap.size wr).alloc (Nat.le_refl _) (.cells #[.int .i64 M.bar, .int .i64 M.key, .int .i64 M.len.n, .int .i64 M.len.d, .slice M.na M.notes.length M.ncap] 60)
      replace HBe := Lib.hid (HBe.out.trans (hb.mono HBe.out.size))
      clear hb c0 c1 c2 c3 c4 hb'
      generalize wr.alloc (.cells #[.int .i64 M.bar, .int .i64 M.key, .int .i64 M.len.n, .int .i64 M.len.d, .slice M.na M.notes.length M.ncap] 60) = W11 at *
      generalize wr.heap.size = mb at *
      obtain ⟨bx, ox, hbx⟩ := WrAt.addr (HMk.out W11 HBe.out)
      have HV := Lib.hid (show RsL kk M ⟨sb, ⟨sn, sd⟩⟩ ⟨ub, ⟨un, ud⟩⟩ mb b1 b2 W11 from ⟨HXm.out, blk_keep HX5.out HBe.out, blk_keep HX6.out HBe.out, fun W hb => HMk.out W (HBe.out.trans (hb.mono HBe.out.size)), by have := HLm.out; omega, hsm, HOk2.out, HNo2.out⟩)
      have hcm := box_cells HXm.out
      go_wp2
      refine rests2_any HV.out E G bx ox hbx _ ?_
      intro t8 t27 t28 t29 t30 t144 t145 t146 t147 t148 t149 t150 t151 t152 t153 t154 t155 t156 t157 t158 t159 t160 t161 t162 t163 t164 t165 t166 t167 t168 t169 t170 t171 t172 t173 t174 t175 t176 t177 t178 t179 t180 t181 t182 t183 t184 t185 t186 t187 t188 t189 t190 t191 t192 E' G' W' hE' hG' hb
      have HB2 := Lib.hid (HBe.out.trans (hb.mono HBe.out.size))
      have HE' := Lib.hid (HEs.out E' hE'); have HG' := Lib.hid (HGs.out G' hG')
      clear hb hcm hE' hG'
      go_wp2
      exact ⟨⟨kk + 1, E', G', by omega, by go_num, rfl, rfl, HE', HG', HB2.out⟩, by simp [intOf]; omega⟩
    · obtain rfl : kk = ms.length := by omega
      obtain rfl : E = true := by
        cases E
        · exfalso
          obtain ⟨h1, h2⟩ := HE.out rfl
          rcases HEn.out with h | ⟨k', h3, x, hx, h4⟩
          · exact h1 h
          · exact h2 k' h3 h3 x hx h4
        · rfl
      obtain rfl : G = true := by
        cases G
        · exfalso
          obtain ⟨h1, h2⟩ := HG.out rfl
          rcases HBg.out with h | ⟨k', h3, x, hx, h4⟩
          · exact h1 h
          · exact h2 k' h3 h3 x hx h4
        · rfl
      clear HE HG hfew
      go_wp2
      go_ret
      exact ⟨rfl, HBw.out.trans (HBe.out.mono HBw.out.size)⟩
end Go.Proofs.YtcelciomhngajaaGreatDoor

