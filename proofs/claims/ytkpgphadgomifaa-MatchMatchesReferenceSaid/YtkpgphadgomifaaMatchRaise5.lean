/- match.raise: the loop that gives columns anew (its seventh). -/
import Derived.Test.YtkpgphadgomifaaMatchRaise4
namespace Go.Proofs.Ytkpgphadgomifaa
set_option linter.unusedSimpArgs false
set_option linter.unusedVariables false
open Go.RowKit Go.Sort Go.Shelf

def L7I (c : List (List Int)) (k bow : Nat) (u' v' ow : Nat → Int) (ord : List Nat) (k0 : Nat) (w7 : World) (g : Nat) (s19 : Value) (W : World) : Prop :=
  ∃ (kk : Int) (o : Nat → Int), s19 = .int .i64 kk ∧ RowAt W bow (wideL c) 3 (iv o) ∧ KeepB w7.heap.size [bow] w7 W ∧
    ((∃ (k' : Nat) (pre : List Nat), kk = (k' : Int) ∧ g = pre.length + 2 ∧ Aug (cc c) (wideL c) k u' v' ow ord k0 k' pre o) ∨ (kk = -1 ∧ g = 1 ∧ Pot (cc c) (wideL c) (k + 1) ((k + 1 : Nat) * (wideL c * 1000000)) u' v' o))
set_option maxRecDepth 1000000 in
set_option maxHeartbeats 4000000 in
theorem loop7_any {c : List (List Int)} {a : Option Addr} {k bp bu bv bow bd bf bo : Nat} {u v ow : Nat → Int} {wo : World} (X : RC c a k bp bu bv bow bd bf bo u v ow wo) (k0 : Nat) (dist frm : Nat → Int) (ord : List Nat) (F : Fin (cc c) (wideL c) k u v ow dist frm ord k0)
    {s0 s1 s2 s3 s4 s7 s9 s10 s11 s12 s13 s14 s15 s16 s17 s18 s20 s21 s22 s23 s24 s25 s26 s27 s28 s29 s30 s31 s32 s33 s34 s35 s36 s37 s38 s39 s40 s41 s42 s43 s44 s45 s46 s47 s48 s49 s50 s51 s52 s53 s54 s55 s56 s57 s58 s59 s60 s61 s62 s63 s64 s65 s66 s67 s68 s69 s70 s71 s72 s73 s74 s75 s76 s77 s78 s79 s80 s81 s82 s83 s84 s85 s86 s87 s88 s89 s90 s91 s92 s93 s94 s95 s96 s97 s98 s99 s100 s101 s102 s103 s104 s105 s106 s107 s108 s109 s110 s111 s112 s113 s114 s115 s116 s117 s118 s119 s120 s121 s122 s123 s124 s125 s126 s127 s128 s129 s130 s131 s132 s133 s134 s135 s136 s137 s138 s139 s140 s141 s142 s143 s144 s145 s146 s147 s148 s149 s150 s151 s152 s153 s154 s155 s156 s157 s158 s159 s160 s161 s162 s163 s164 s165 s166 s167 s168 s169 s170 s171 s172 s173 s174 s175 s176 s177 s178 s179 s180 s181 s182 s183 s184 s185 s186 s187 s188 s189 s190 s191 s192 s193 s194 s195 s196 s197 s198 s199 s200 s201 s202 s203 s204 s205 s206 s207 s208 s209 s210 s211 s212 s213 s214 s215 s216 s217 s218 s219 s220 s221 s222 s223 s224 : Value} (Q : Exit → Act → World → Prop) (w7 : World) (u' v' : Nat → Int) (q : NewP (wideL c) k u v ow dist ord (dist k0) u' v')
    (rf : RowAt w7 bf (wideL c) 3 (iv frm)) (ro : RowAt w7 bow (wideL c) 3 (iv ow))
    (hexit : ∀ (t19 t198 t199 t200 t201 t202 t203 t204 t205 t206 t207 t208 t209 t210 t211 t212 t213 t214 t215 t216 t217 t218 t219 t220 t221 t222 : Value) (W' : World) (o : Nat → Int), RowAt W' bow (wideL c) 3 (iv o) → KeepB w7.heap.size [bow] w7 W' → Pot (cc c) (wideL c) (k + 1) ((k + 1 : Nat) * (wideL c * 1000000)) u' v' o → Q (.exit 12) ⟨(List.toArray (s0 :: s1 :: s2 :: s3 :: s4 :: .slice (some ⟨bow, 0, none⟩) (wideL c) (wideL c) :: .int .i64 (k : Int) :: s7 :: .slice (some ⟨bf, 0, none⟩) (wideL c) (wideL c) :: s9 :: s10 :: s11 :: s12 :: s13 :: s14 :: s15 :: s16 :: s17 :: s18 :: t19 :: s20 :: s21 :: s22 :: s23 :: s24 :: s25 :: s26 :: s27 :: s28 :: s29 :: s30 :: s31 :: s32 :: s33 :: s34 :: s35 :: s36 :: s37 :: s38 :: s39 :: s40 :: s41 :: s42 :: s43 :: s44 :: s45 :: s46 :: s47 :: s48 :: s49 :: s50 :: s51 :: s52 :: s53 :: s54 :: s55 :: s56 :: s57 :: s58 :: s59 :: s60 :: s61 :: s62 :: s63 :: s64 :: s65 :: s66 :: s67 :: s68 :: s69 :: s70 :: s71 :: s72 :: s73 :: s74 :: s75 :: s76 :: s77 :: s78 :: s79 :: s80 :: s81 :: s82 :: s83 :: s84 :: s85 :: s86 :: s87 :: s88 :: s89 :: s90 :: s91 :: s92 :: s93 :: s94 :: s95 :: s96 :: s97 :: s98 :: s99 :: s100 :: s101 :: s102 :: s103 :: s104 :: s105 :: s106 :: s107 :: s108 :: s109 :: s110 :: s111 :: s112 :: s113 :: s114 :: s115 :: s116 :: s117 :: s118 :: s119 :: s120 :: s121 :: s122 :: s123 :: s124 :: s125 :: s126 :: s127 :: s128 :: s129 :: s130 :: s131 :: s132 :: s133 :: s134 :: s135 :: s136 :: s137 :: s138 :: s139 :: s140 :: s141 :: s142 :: s143 :: s144 :: s145 :: s146 :: s147 :: s148 :: s149 :: s150 :: s151 :: s152 :: s153 :: s154 :: s155 :: s156 :: s157 :: s158 :: s159 :: s160 :: s161 :: s162 :: s163 :: s164 :: s165 :: s166 :: s167 :: s168 :: s169 :: s170 :: s171 :: s172 :: s173 :: s174 :: s175 :: s176 :: s177 :: s178 :: s179 :: s180 :: s181 :: s182 :: s183 :: s184 :: s185 :: s186 :: s187 :: s188 :: s189 :: s190 :: s191 :: s192 :: s193 :: s194 :: s195 :: s196 :: s197 :: t198 :: t199 :: t200 :: t201 :: t202 :: t203 :: t204 :: t205 :: t206 :: t207 :: t208 :: t209 :: t210 :: t211 :: t212 :: t213 :: t214 :: t215 :: t216 :: t217 :: t218 :: t219 :: t220 :: t221 :: t222 :: s223 :: s224 :: List.nil)), []⟩ W') :
    Code.wp Try.prog (Code.loop (raiseBody 6)) Q ⟨(List.toArray (s0 :: s1 :: s2 :: s3 :: s4 :: .slice (some ⟨bow, 0, none⟩) (wideL c) (wideL c) :: .int .i64 (k : Int) :: s7 :: .slice (some ⟨bf, 0, none⟩) (wideL c) (wideL c) :: s9 :: s10 :: s11 :: s12 :: s13 :: s14 :: s15 :: s16 :: s17 :: s18 :: .int .i64 (k0 : Int) :: s20 :: s21 :: s22 :: s23 :: s24 :: s25 :: s26 :: s27 :: s28 :: s29 :: s30 :: s31 :: s32 :: s33 :: s34 :: s35 :: s36 :: s37 :: s38 :: s39 :: s40 :: s41 :: s42 :: s43 :: s44 :: s45 :: s46 :: s47 :: s48 :: s49 :: s50 :: s51 :: s52 :: s53 :: s54 :: s55 :: s56 :: s57 :: s58 :: s59 :: s60 :: s61 :: s62 :: s63 :: s64 :: s65 :: s66 :: s67 :: s68 :: s69 :: s70 :: s71 :: s72 :: s73 :: s74 :: s75 :: s76 :: s77 :: s78 :: s79 :: s80 :: s81 :: s82 :: s83 :: s84 :: s85 :: s86 :: s87 :: s88 :: s89 :: s90 :: s91 :: s92 :: s93 :: s94 :: s95 :: s96 :: s97 :: s98 :: s99 :: s100 :: s101 :: s102 :: s103 :: s104 :: s105 :: s106 :: s107 :: s108 :: s109 :: s110 :: s111 :: s112 :: s113 :: s114 :: s115 :: s116 :: s117 :: s118 :: s119 :: s120 :: s121 :: s122 :: s123 :: s124 :: s125 :: s126 :: s127 :: s128 :: s129 :: s130 :: s131 :: s132 :: s133 :: s134 :: s135 :: s136 :: s137 :: s138 :: s139 :: s140 :: s141 :: s142 :: s143 :: s144 :: s145 :: s146 :: s147 :: s148 :: s149 :: s150 :: s151 :: s152 :: s153 :: s154 :: s155 :: s156 :: s157 :: s158 :: s159 :: s160 :: s161 :: s162 :: s163 :: s164 :: s165 :: s166 :: s167 :: s168 :: s169 :: s170 :: s171 :: s172 :: s173 :: s174 :: s175 :: s176 :: s177 :: s178 :: s179 :: s180 :: s181 :: s182 :: s183 :: s184 :: s185 :: s186 :: s187 :: s188 :: s189 :: s190 :: s191 :: s192 :: s193 :: s194 :: s195 :: s196 :: s197 :: s198 :: s199 :: s200 :: s201 :: s202 :: s203 :: s204 :: s205 :: s206 :: s207 :: s208 :: s209 :: s210 :: s211 :: s212 :: s213 :: s214 :: s215 :: s216 :: s217 :: s218 :: s219 :: s220 :: s221 :: s222 :: s223 :: s224 :: List.nil)), []⟩ w7 := by
  obtain ⟨f1, f2, f3, f4⟩ := formE_ok X.he
  have HX := Lib.hid X; have HQ := Lib.hid hexit; have HF := Lib.hid F; have Hq := Lib.hid q; have Hrf := Lib.hid rf; have Hro := Lib.hid ro
  have hkm := X.hk
  have hbf : bf ≠ bow := by have := X.rm.lt; have := X.le; omega
  have lf := rf.lt
  clear X f3 f4 hexit F q rf ro
  conv => arg 2; arg 1; whnf
  go_loopg [19] (ord.length + 2) (fun g s19 W => L7I c k bow u' v' ow ord k0 w7 g s19 W)
  case atStart => exact ⟨k0, ow, rfl, Hro.out, KeepB.refl _ _ _, .inl ⟨k0, ord, rfl, rfl, Aug.start HX.out.pot HF.out Hq.out⟩⟩
  case round =>
    obtain ⟨kk, o, rfl, r, K, h⟩ := hrel
    have Hr := Lib.hid r; have HK := Lib.hid K
    clear r K Hro
    rcases h with ⟨k', pre, rfl, hg, A⟩ | ⟨rfl, hg, P⟩
    · have HG := Lib.hid hg; have HA := Lib.hid A
      have hkn := A.hk
      have par := (A.par HF.out).1
      have Hpar := Lib.hid par
      clear hg A par
      have gf : wr.cell? ⟨bf, k', none⟩ = some (.int .i64 (frm k')) := (Hrf.out.of_eq (HK.out.block bf lf (by simp; omega))).cell hkn
      have fo := Hr.out.free k'
      have go : wr.cell? ⟨bow, k', none⟩ = some (.int .i64 (o k')) := Hr.out.cell hkn
      have hnn : ¬ ((k' : Int) < 0) := by omega
      rcases Hpar.out with ⟨e, _⟩ | ⟨k2, i, _, e, _⟩
      · rw [e] at gf
        have HE := Lib.hid e; clear e
        go_wp2
        go_roundg 1
        case measure => have := HG.out; omega
        case rel => exact ⟨-1, upd o k' (k : Int), rfl, (Hr.out.set hkn (.int .i64 (k : Int))).congr fun _ _ => by rw [iv_upd], HK.out.set (p := ⟨bow, k', none⟩) (.inl (by simp)) _, .inr ⟨rfl, rfl, by
          have := HA.out.last HX.out.pot HF.out Hq.out (by rw [HE.out]; decide)
          rw [show (((k + 1 : Nat) : Int) * ((wideL c : Int) * 1000000)) = (k : Int) * ((wideL c : Int) * 1000000) + (wideL c : Int) * 1000000 by rw [Int.natCast_add, Int.add_mul]; simp]
          exact this⟩⟩
      · rw [e] at gf
        obtain ⟨pre', s1, s2, s3, s4, s5, A2⟩ := HA.out.step HX.out.pot HF.out Hq.out e
        have HA2 := Lib.hid A2; have HS1 := Lib.hid s1
        clear A2 e s1 s5
        have go2 : wr.cell? ⟨bow, k2, none⟩ = some (.int .i64 (o k2)) := Hr.out.cell s2
        have hn2 : ¬ ((k2 : Int) < 0) := by omega
        go_wp2
        go_roundg (pre'.length + 2)
        case measure => have := HG.out; have := HS1.out; omega
        case rel => exact ⟨k2, upd o k' (o k2), rfl, (Hr.out.set hkn (.int .i64 (o k2))).congr fun _ _ => by rw [iv_upd], HK.out.set (p := ⟨bow, k', none⟩) (.inl (by simp)) _, .inl ⟨k2, pre', rfl, rfl, HA2.out⟩⟩
    · have HP := Lib.hid P; clear P
      go_wp2
      exact HQ.out _ _ _ _ _ _ _ _ _ _ _ _ _ _ _ _ _ _ _ _ _ _ _ _ _ _ wr o Hr.out HK.out HP.out
end Go.Proofs.Ytkpgphadgomifaa
