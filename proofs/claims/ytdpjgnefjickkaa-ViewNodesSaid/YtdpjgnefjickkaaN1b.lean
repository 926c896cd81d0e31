/- ViewNodes: a round of its second loop. -/
import Derived.Test.YtdpjgnefjickkaaN1a
namespace Go.Proofs.Ytdpjgnefjickkaa
open Go.RowKit
set_option maxRecDepth 100000
set_option maxHeartbeats 64000000
set_option linter.unusedVariables false
theorem nodes_round {n : Int}
    {s : BitVec 32}
    {j : BitVec 32}
    {l : BitVec 32}
    {f : BitVec 32}
    {A : Option Addr}
    {m : Nat}
    {c : Nat}
    {w : World}
    {b : B}
    (hR : b.R)
    (hbn : b.n ≤ 65535)
    {u7 : Value}
    {u8 : Value}
    {k_d0 : Nat}
    {g9 : Nat}
    (hg9 : w.heap.size + 2 < g9)
    {u21 : Value}
    {u22 : Value}
    {u23 : Value}
    {u24 : Value}
    {u25 : Value}
    {u26 : Value}
    {u27 : Value}
    {u28 : Value}
    {u29 : Value}
    {u30 : Value}
    {u31 : Value}
    {u32 : Value}
    {u33 : Value}
    {u34 : Value}
    {u35 : Value}
    {u36 : Value}
    {u37 : Value}
    {u38 : Value}
    {u39 : Value}
    {u40 : Value}
    {u41 : Value}
    {u42 : Value}
    {u43 : Value}
    {u45 : Value}
    {u46 : Value}
    {u47 : Value}
    {u48 : Value}
    {u49 : Value}
    {u50 : Value}
    {u51 : Value}
    {u52 : Value}
    {u53 : Value}
    {u54 : Value}
    {u55 : Value}
    {u56 : Value}
    {u57 : Value}
    {u58 : Value}
    {u59 : Value}
    {u60 : Value}
    {u61 : Value}
    {u62 : Value}
    {u63 : Value}
    {u64 : Value}
    {u65 : Value}
    {u66 : Value}
    {u67 : Value}
    {u68 : Value}
    {u69 : Value}
    {u70 : Value}
    {u71 : Value}
    {u72 : Value}
    {u73 : Value}
    {u74 : Value}
    {u75 : Value}
    {u76 : Value}
    {u77 : Value}
    {u78 : Value}
    {u79 : Value}
    {u80 : Value}
    {u81 : Value}
    {u82 : Value}
    {u83 : Value}
    {u84 : Value}
    {u85 : Value}
    {u86 : Value}
    {u167 : Value}
    {u168 : Value}
    {u169 : Value}
    {u170 : Value}
    {u171 : Value}
    {u172 : Value}
    {u173 : Value}
    {u174 : Value}
    {u176 : Value}
    {u177 : Value}
    {u178 : Value}
    {u179 : Value}
    {u180 : Value}
    {u181 : Value}
    {u182 : Value}
    {u183 : Value}
    {u184 : Value}
    {u185 : Value}
    {u186 : Value}
    {u187 : Value}
    {u188 : Value}
    {u189 : Value}
    {u190 : Value}
    {u191 : Value}
    {u192 : Value}
    {u193 : Value}
    {u194 : Value}
    {u195 : Value}
    {u196 : Value}
    {u197 : Value}
    {u198 : Value}
    {u199 : Value}
    {u200 : Value}
    {u201 : Value}
    {u202 : Value}
    {u203 : Value}
    {u204 : Value}
    {u205 : Value}
    {u206 : Value}
    {u207 : Value}
    {u208 : Value}
    {u209 : Value}
    {u210 : Value}
    {u211 : Value}
    {u212 : Value}
    {u213 : Value}
    {u214 : Value}
    {u215 : Value}
    {u216 : Value}
    {u217 : Value}
    {u218 : Value}
    {u219 : Value}
    {u220 : Value}
    {u221 : Value}
    {u222 : Value}
    {u223 : Value}
    {u224 : Value}
    {m' : Nat}
    (hm60 : m' ≤ 60)
    {ll : List E}
    (hlm : RdE w A m' ll)
    {gk : Nat}
    {wr : World}
    {u4 : Value}
    {u11 : Value}
    {u12 : Value}
    {u13 : Value}
    {u14 : Value}
    {u15 : Value}
    {u90 : Value}
    {u91 : Value}
    {u92 : Value}
    {u93 : Value}
    {u94 : Value}
    {u95 : Value}
    {u96 : Value}
    {u97 : Value}
    {u98 : Value}
    {u99 : Value}
    {u100 : Value}
    {u101 : Value}
    {u102 : Value}
    {u103 : Value}
    {u104 : Value}
    {u105 : Value}
    {u106 : Value}
    {u107 : Value}
    {u108 : Value}
    {u109 : Value}
    {u110 : Value}
    {u111 : Value}
    {u112 : Value}
    {u113 : Value}
    {u114 : Value}
    {u115 : Value}
    {u116 : Value}
    {u117 : Value}
    {u118 : Value}
    {u119 : Value}
    {u120 : Value}
    {u121 : Value}
    {u122 : Value}
    {u123 : Value}
    {u124 : Value}
    {u125 : Value}
    {u126 : Value}
    {u127 : Value}
    {u128 : Value}
    {u129 : Value}
    {u130 : Value}
    {u131 : Value}
    {u132 : Value}
    {u133 : Value}
    {u134 : Value}
    {u135 : Value}
    {u136 : Value}
    {u137 : Value}
    {u138 : Value}
    {u139 : Value}
    {u140 : Value}
    {u141 : Value}
    {u142 : Value}
    {u143 : Value}
    {u144 : Value}
    {u145 : Value}
    {u146 : Value}
    {u147 : Value}
    {u148 : Value}
    {u149 : Value}
    {u150 : Value}
    {u151 : Value}
    {u152 : Value}
    {u153 : Value}
    {u154 : Value}
    {u155 : Value}
    {u156 : Value}
    {u157 : Value}
    {u158 : Value}
    {u159 : Value}
    {u160 : Value}
    {u161 : Value}
    {u162 : Value}
    {u163 : Value}
    {u164 : Value}
    {u165 : Value}
    {u166 : Value}
    {J_d0 : Nat → Act → World → Prop}
    {K_d0 : Act → World → Prop}
    (a_d1 : ∀ (k : Nat) (a' : Act) (w' : World),
    (∃ u4 u11 u12 u13 u14 u15 u89 u90 u91 u92 u93 u94 u95 u96 u97 u98 u99 u100 u101 u102 u103 u104 u105 u106 u107 u108
        u109 u110 u111 u112 u113 u114 u115 u116 u117 u118 u119 u120 u121 u122 u123 u124 u125 u126 u127 u128 u129 u130
        u131 u132 u133 u134 u135 u136 u137 u138 u139 u140 u141 u142 u143 u144 u145 u146 u147 u148 u149 u150 u151 u152
        u153 u154 u155 u156 u157 u158 u159 u160 u161 u162 u163 u164 u165 u166,
        (∃ k_1,
            k + k_1 = m' + 1 ∧
              k_1 ≤ m' ∧ u89 = Value.int IntKind.i64 ↑k_1 ∧ Run w w' b (curB b (List.take k_1 ll)) g9) ∧
          a' =
            {
              tmps :=
                (List.toArray (Value.agg
                    #[Value.int IntKind.i64 n, Value.int IntKind.u32 (bi s), Value.int IntKind.u32 (bi j),
                      Value.int IntKind.u32 (bi l), Value.int IntKind.u32 (bi f)] :: Value.slice A m c :: Value.pointer (some { block := w.heap.size, off := 0 }) :: undef :: u4 :: Value.pointer (some { block := w.heap.size + 1, off := 0 }) :: Value.pointer (some { block := w.heap.size + 2, off := 0 }) :: u7 :: u8 :: Value.pointer (some { block := g9, off := 0 }) :: undef :: u11 :: u12 :: u13 :: u14 :: u15 :: undef :: undef :: undef :: undef :: undef :: u21 :: u22 :: u23 :: u24 :: u25 :: u26 :: u27 :: u28 :: u29 :: u30 :: u31 :: u32 :: u33 :: u34 :: u35 :: u36 :: u37 :: u38 :: u39 :: u40 :: u41 :: u42 :: u43 :: Value.int IntKind.i64 ↑k_d0 :: u45 :: u46 :: u47 :: u48 :: u49 :: u50 :: u51 :: u52 :: u53 :: u54 :: u55 :: u56 :: u57 :: u58 :: u59 :: u60 :: u61 :: u62 :: u63 :: u64 :: u65 :: u66 :: u67 :: u68 :: u69 :: u70 :: u71 :: u72 :: u73 :: u74 :: u75 :: u76 :: u77 :: u78 :: u79 :: u80 :: u81 :: u82 :: u83 :: u84 :: u85 :: u86 :: Value.slice A m' c :: Value.int IntKind.i64 ↑m' :: u89 :: u90 :: u91 :: u92 :: u93 :: u94 :: u95 :: u96 :: u97 :: u98 :: u99 :: u100 :: u101 :: u102 :: u103 :: u104 :: u105 :: u106 :: u107 :: u108 :: u109 :: u110 :: u111 :: u112 :: u113 :: u114 :: u115 :: u116 :: u117 :: u118 :: u119 :: u120 :: u121 :: u122 :: u123 :: u124 :: u125 :: u126 :: u127 :: u128 :: u129 :: u130 :: u131 :: u132 :: u133 :: u134 :: u135 :: u136 :: u137 :: u138 :: u139 :: u140 :: u141 :: u142 :: u143 :: u144 :: u145 :: u146 :: u147 :: u148 :: u149 :: u150 :: u151 :: u152 :: u153 :: u154 :: u155 :: u156 :: u157 :: u158 :: u159 :: u160 :: u161 :: u162 :: u163 :: u164 :: u165 :: u166 :: u167 :: u168 :: u169 :: u170 :: u171 :: u172 :: u173 :: u174 :: undef :: u176 :: u177 :: u178 :: u179 :: u180 :: u181 :: u182 :: u183 :: u184 :: u185 :: u186 :: u187 :: u188 :: u189 :: u190 :: u191 :: u192 :: u193 :: u194 :: u195 :: u196 :: u197 :: u198 :: u199 :: u200 :: u201 :: u202 :: u203 :: u204 :: u205 :: u206 :: u207 :: u208 :: u209 :: u210 :: u211 :: u212 :: u213 :: u214 :: u215 :: u216 :: u217 :: u218 :: u219 :: u220 :: u221 :: u222 :: u223 :: u224 :: [])),
              defers := [] }) →
      J_d0 k a' w')
    (a_d0 : ∀ (a' : Act) (w' : World), Handed J_d0 gk a' w' → K_d0 a' w')
    {k : Nat}
    (hg : gk + k = m' + 1)
    (hk : k ≤ m')
    {u : B}
    (hsu : u.s = b.s)
    (hnu : u.n = b.n)
    (hRu : u.R)
    (hrun : Run w wr b u g9)
    (HU : Hid (curB b (List.take k ll) = u))
    {QQ : Exit → Act → World → Prop}
    (hlt : k < m') :
    Code.wp Try.prog nBody2 (Exit.then K_d0 QQ) {
      tmps :=
        (List.toArray (Value.agg
            #[Value.int IntKind.i64 n, Value.int IntKind.u32 (bi s), Value.int IntKind.u32 (bi j),
              Value.int IntKind.u32 (bi l), Value.int IntKind.u32 (bi f)] :: Value.slice A m c :: Value.pointer (some { block := w.heap.size, off := 0 }) :: undef :: u4 :: Value.pointer (some { block := w.heap.size + 1, off := 0 }) :: Value.pointer (some { block := w.heap.size + 2, off := 0 }) :: u7 :: u8 :: Value.pointer (some { block := g9, off := 0 }) :: undef :: u11 :: u12 :: u13 :: u14 :: u15 :: undef :: undef :: undef :: undef :: undef :: u21 :: u22 :: u23 :: u24 :: u25 :: u26 :: u27 :: u28 :: u29 :: u30 :: u31 :: u32 :: u33 :: u34 :: u35 :: u36 :: u37 :: u38 :: u39 :: u40 :: u41 :: u42 :: u43 :: Value.int IntKind.i64 ↑k_d0 :: u45 :: u46 :: u47 :: u48 :: u49 :: u50 :: u51 :: u52 :: u53 :: u54 :: u55 :: u56 :: u57 :: u58 :: u59 :: u60 :: u61 :: u62 :: u63 :: u64 :: u65 :: u66 :: u67 :: u68 :: u69 :: u70 :: u71 :: u72 :: u73 :: u74 :: u75 :: u76 :: u77 :: u78 :: u79 :: u80 :: u81 :: u82 :: u83 :: u84 :: u85 :: u86 :: Value.slice A m' c :: Value.int IntKind.i64 ↑m' :: Value.int IntKind.i64 ↑k :: u90 :: u91 :: u92 :: u93 :: u94 :: u95 :: u96 :: u97 :: u98 :: u99 :: u100 :: u101 :: u102 :: u103 :: u104 :: u105 :: u106 :: u107 :: u108 :: u109 :: u110 :: u111 :: u112 :: u113 :: u114 :: u115 :: u116 :: u117 :: u118 :: u119 :: u120 :: u121 :: u122 :: u123 :: u124 :: u125 :: u126 :: u127 :: u128 :: u129 :: u130 :: u131 :: u132 :: u133 :: u134 :: u135 :: u136 :: u137 :: u138 :: u139 :: u140 :: u141 :: u142 :: u143 :: u144 :: u145 :: u146 :: u147 :: u148 :: u149 :: u150 :: u151 :: u152 :: u153 :: u154 :: u155 :: u156 :: u157 :: u158 :: u159 :: u160 :: u161 :: u162 :: u163 :: u164 :: u165 :: u166 :: u167 :: u168 :: u169 :: u170 :: u171 :: u172 :: u173 :: u174 :: undef :: u176 :: u177 :: u178 :: u179 :: u180 :: u181 :: u182 :: u183 :: u184 :: u185 :: u186 :: u187 :: u188 :: u189 :: u190 :: u191 :: u192 :: u193 :: u194 :: u195 :: u196 :: u197 :: u198 :: u199 :: u200 :: u201 :: u202 :: u203 :: u204 :: u205 :: u206 :: u207 :: u208 :: u209 :: u210 :: u211 :: u212 :: u213 :: u214 :: u215 :: u216 :: u217 :: u218 :: u219 :: u220 :: u221 :: u222 :: u223 :: u224 :: [])),
      defers := [] } wr := by
  conv => arg 2; whnf
  obtain ⟨ad, hA, had, hcell⟩ := (hlm.below (Nat.le_refl _) hrun.2.2.2.1).2.2.2 (by omega)
  subst hA
  obtain ⟨xw, xn, hx⟩ : ∃ xw xn, atE ll k = ⟨xw, xn⟩ := ⟨_, _, rfl⟩
  have hxo : E.ok ⟨xw, xn⟩ := hx ▸ atE_ok hlm.2.2.1 (by rw [hlm.1]; exact hlt)
  obtain ⟨c0, c1⟩ := hcell k hlt
  have hsn := curB_snoc b ll k (by rw [hlm.1]; exact hlt)
  rw [hx] at c0 c1 hsn
  rw [HU.out] at hsn
  dsimp only at c0 c1
  obtain ⟨q, rfl⟩ : ∃ q : Nat, xn = q := ⟨xn.toNat, by have := hxo.2.2.1; dsimp only at this; omega⟩
  cases hp : plainB ⟨xw, (q : Int)⟩ with
  | false => -- DONE2
    rw [hp] at hsn
    simp only [Bool.false_eq_true, if_false] at hsn
    have HSN := Lib.hid hsn
    have hcase : xw = 4 ∨ xw = 0 ∨ 4 < xw ∨ ((xw == 4) = false ∧ (xw == 0) = false ∧ decide (4 < xw) = false ∧ decide (31 < (q : Int)) = true) := by
      obtain ⟨x1, x2, x3, x4⟩ := hxo
      dsimp only at x1 x2 x3 x4
      have : ¬ (1 ≤ xw ∧ xw ≤ 3 ∧ 0 ≤ (q : Int) ∧ (q : Int) ≤ 31) := fun ⟨y1, y2, y3, y4⟩ => by
        unfold plainB at hp
        simp [y1, y2, y3, y4] at hp
      by_cases e1 : xw = 4
      · exact .inl e1
      · by_cases e2 : xw = 0
        · exact .inr (.inl e2)
        · by_cases e3 : 4 < xw
          · exact .inr (.inr (.inl e3))
          · exact .inr (.inr (.inr ⟨by simpa using e1, by simpa using e2, by simpa using e3, by simp; omega⟩))
    clear hsn hx hcell hp
    have hd : ∃ t4 t0 tm tn, (xw == 4) = t4 ∧ (xw == 0) = t0 ∧ decide (4 < xw) = tm ∧ decide (31 < (q : Int)) = tn ∧ (t4 = true ∨ (t4 = false ∧ t0 = true) ∨ (t4 = false ∧ t0 = false ∧ tm = true) ∨ (t4 = false ∧ t0 = false ∧ tm = false ∧ tn = true)) := by
      refine ⟨_, _, _, _, rfl, rfl, rfl, rfl, ?_⟩
      rcases hcase with h | h | h | ⟨h1, h2, h3, h4⟩
      · exact .inl (by simp [h])
      · exact .inr (.inl ⟨by simp [h], by simp [h]⟩)
      · exact .inr (.inr (.inl ⟨by simp; omega, by simp; omega, by simpa using h⟩))
      · exact .inr (.inr (.inr ⟨h1, h2, h3, h4⟩))
    obtain ⟨t4, t0, tm, tn, k4, k0, km, kn, hd⟩ := hd
    clear hcase
    rcases hd with rfl | ⟨rfl, rfl⟩ | ⟨rfl, rfl, rfl⟩ | ⟨rfl, rfl, rfl, rfl⟩
    all_goals go_wp2_with fail
    all_goals go_roundg (m' - k)
    all_goals try case measure => omega
    all_goals exact ⟨k + 1, by omega, by omega, by go_num, by rw [HSN.out]; exact hrun.alloc _⟩
  | true => -- DONE2
    rw [hp] at hsn
    simp only [if_true] at hsn
    have hpl := plain_of hp
    obtain ⟨s1, s2, s3, s4⟩ := step_plain u _ hpl
    have hup := fun i hi => upd_in u hRu _ hpl i hi
    obtain ⟨u', is, e', hst⟩ : ∃ u' is e', stepB u ⟨xw, (q : Int)⟩ = (u', is, e') := ⟨_, _, _, rfl⟩
    rw [hst] at hsn s1 s2 s3 s4 hup
    dsimp only at hsn s1 s2 s3 s4 hup
    subst s3 s4
    obtain ⟨y1, y2, y3, y4⟩ := hpl
    dsimp only at y1 y2 y3 y4
    have hq : q < 32 := by omega
    obtain ⟨d0, d1, d2, d3, d4, -⟩ := hrun.1.five
    have hlt1 := hrun.1.lt
    have f1 : (bi u'.s != bi u.s) = false := by rw [s2]; simp
    have f2 : (u'.n != u.n) = false := by rw [s1]; simp
    have f3 : (xw == 4) = false := by simp; omega
    have f4 : (xw == 0) = false := by simp; omega
    have f5 : decide (4 < xw) = false := by simp; omega
    have f6 : decide (31 < (q : Int)) = false := by simp; omega
    obtain ⟨sb, hsb⟩ : ∃ sb, b.s.getLsbD q = sb := ⟨_, rfl⟩
    have f7 : (Go.bits .and .u32 (bi b.s / 2 ^ q) 1 == 1) = sb := by rw [bit_test]; exact hsb
    have HSN := Lib.hid hsn
    have HST := Lib.hid hst
    have HUP := Lib.hid hup
    have S2 := Lib.hid s2
    have HSU := Lib.hid hsu
    have HSB := Lib.hid hsb
    clear hsn hst hup s1 s2 hsu hsb hx hcell hp hnu
    by_cases w1' : xw = 1
    · subst w1'
      cases sb with
      | true =>
        go_wp2_with (go_at_call 12; go_must (refine (step_Bat u hRu ⟨_, (q : Int)⟩ hxo _ _ _ HST.out _).mono ?_; rintro e w1 ⟨rfl, hb⟩; obtain ⟨hrun1, p0, p1, p2, p3, p4, q0, q1, q2, q3, q4, r0, r1, r2, r3, r4, a0, a1, z1, z2, z3, z4, xx0, xx1⟩ := after_step hrun hb hq))
        go_roundg (m' - k)
        case measure => omega
        case rel =>
          refine ⟨k + 1, by omega, by omega, by go_num, ?_⟩
          rw [HSN.out]
          exact (run_next hrun1 (fun i hi => by have h := HUP.out i hi; have s1 := HSB.out; rw [← HSU.out] at s1; unfold upd at h; simpa [s1] using h)).alloc _
      | false =>
        go_wp2_with (go_at_call 12; go_must (refine (step_Bat u hRu ⟨_, (q : Int)⟩ hxo _ _ _ HST.out _).mono ?_; rintro e w1 ⟨rfl, hb⟩; obtain ⟨hrun1, p0, p1, p2, p3, p4, q0, q1, q2, q3, q4, r0, r1, r2, r3, r4, a0, a1, z1, z2, z3, z4, xx0, xx1⟩ := after_step hrun hb hq))
        go_roundg (m' - k)
        case measure => omega
        case rel =>
          refine ⟨k + 1, by omega, by omega, by go_num, ?_⟩
          rw [HSN.out]
          exact (run_set hrun1 q hq true (fun i hi => by have h := HUP.out i hi; have s1 := HSB.out; rw [← HSU.out] at s1; unfold upd at h; simpa [s1] using h)).alloc _
    · have f8 : (xw == 1) = false := by simpa using w1'
      have f9 : (xw != 1) = true := by simpa using w1'
      have W1 := Lib.hid w1'
      clear w1'
      go_wp2_with (go_at_call 12; go_must (refine (step_Bat u hRu ⟨_, (q : Int)⟩ hxo _ _ _ HST.out _).mono ?_; rintro e w1 ⟨rfl, hb⟩; obtain ⟨hrun1, p0, p1, p2, p3, p4, q0, q1, q2, q3, q4, r0, r1, r2, r3, r4, a0, a1, z1, z2, z3, z4, xx0, xx1⟩ := after_step hrun hb hq))
      go_roundg (m' - k)
      case measure => omega
      case rel =>
        refine ⟨k + 1, by omega, by omega, by go_num, ?_⟩
        rw [HSN.out]
        exact (run_set hrun1 q hq false (fun i hi => by have h := HUP.out i hi; have s1 := W1.out; unfold upd at h; simpa [s1] using h)).alloc _
end Go.Proofs.Ytdpjgnefjickkaa
