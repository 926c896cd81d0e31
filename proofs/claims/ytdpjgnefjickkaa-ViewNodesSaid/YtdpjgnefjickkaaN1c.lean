/- ViewNodes: what stands behind its second loop. -/
import Derived.Test.YtdpjgnefjickkaaN1a
namespace Go.Proofs.Ytdpjgnefjickkaa
open Go.RowKit
set_option maxRecDepth 100000
set_option maxHeartbeats 64000000
set_option linter.unusedVariables false
theorem nodes_tail {n : Int}
    {s : BitVec 32}
    {j : BitVec 32}
    {l : BitVec 32}
    {f : BitVec 32}
    {A : Option Addr}
    {m : Nat}
    {c : Nat}
    {w : World}
    {b : B}
    (hR : b.R)
    (hbn : b.n ≤ 65535)
    {u7 : Value}
    {u8 : Value}
    {k_d0 : Nat}
    {g9 : Nat}
    (hg9 : w.heap.size + 2 < g9)
    {u21 : Value}
    {u22 : Value}
    {u23 : Value}
    {u24 : Value}
    {u25 : Value}
    {u26 : Value}
    {u27 : Value}
    {u28 : Value}
    {u29 : Value}
    {u30 : Value}
    {u31 : Value}
    {u32 : Value}
    {u33 : Value}
    {u34 : Value}
    {u35 : Value}
    {u36 : Value}
    {u37 : Value}
    {u38 : Value}
    {u39 : Value}
    {u40 : Value}
    {u41 : Value}
    {u42 : Value}
    {u43 : Value}
    {u45 : Value}
    {u46 : Value}
    {u47 : Value}
    {u48 : Value}
    {u49 : Value}
    {u50 : Value}
    {u51 : Value}
    {u52 : Value}
    {u53 : Value}
    {u54 : Value}
    {u55 : Value}
    {u56 : Value}
    {u57 : Value}
    {u58 : Value}
    {u59 : Value}
    {u60 : Value}
    {u61 : Value}
    {u62 : Value}
    {u63 : Value}
    {u64 : Value}
    {u65 : Value}
    {u66 : Value}
    {u67 : Value}
    {u68 : Value}
    {u69 : Value}
    {u70 : Value}
    {u71 : Value}
    {u72 : Value}
    {u73 : Value}
    {u74 : Value}
    {u75 : Value}
    {u76 : Value}
    {u77 : Value}
    {u78 : Value}
    {u79 : Value}
    {u80 : Value}
    {u81 : Value}
    {u82 : Value}
    {u83 : Value}
    {u84 : Value}
    {u85 : Value}
    {u86 : Value}
    {u167 : Value}
    {u168 : Value}
    {u169 : Value}
    {u170 : Value}
    {u171 : Value}
    {u172 : Value}
    {u173 : Value}
    {u174 : Value}
    {u176 : Value}
    {u177 : Value}
    {u178 : Value}
    {u179 : Value}
    {u180 : Value}
    {u181 : Value}
    {u182 : Value}
    {u183 : Value}
    {u184 : Value}
    {u185 : Value}
    {u186 : Value}
    {u187 : Value}
    {u188 : Value}
    {u189 : Value}
    {u190 : Value}
    {u191 : Value}
    {u192 : Value}
    {u193 : Value}
    {u194 : Value}
    {u195 : Value}
    {u196 : Value}
    {u197 : Value}
    {u198 : Value}
    {u199 : Value}
    {u200 : Value}
    {u201 : Value}
    {u202 : Value}
    {u203 : Value}
    {u204 : Value}
    {u205 : Value}
    {u206 : Value}
    {u207 : Value}
    {u208 : Value}
    {u209 : Value}
    {u210 : Value}
    {u211 : Value}
    {u212 : Value}
    {u213 : Value}
    {u214 : Value}
    {u215 : Value}
    {u216 : Value}
    {u217 : Value}
    {u218 : Value}
    {u219 : Value}
    {u220 : Value}
    {u221 : Value}
    {u222 : Value}
    {u223 : Value}
    {u224 : Value}
    {m' : Nat}
    {wr : World}
    {u4 : Value}
    {u11 : Value}
    {u12 : Value}
    {u13 : Value}
    {u14 : Value}
    {u15 : Value}
    {u91 : Value}
    {u92 : Value}
    {u93 : Value}
    {u94 : Value}
    {u95 : Value}
    {u96 : Value}
    {u97 : Value}
    {u98 : Value}
    {u99 : Value}
    {u100 : Value}
    {u101 : Value}
    {u102 : Value}
    {u103 : Value}
    {u104 : Value}
    {u105 : Value}
    {u106 : Value}
    {u107 : Value}
    {u108 : Value}
    {u109 : Value}
    {u110 : Value}
    {u111 : Value}
    {u112 : Value}
    {u113 : Value}
    {u114 : Value}
    {u115 : Value}
    {u116 : Value}
    {u117 : Value}
    {u118 : Value}
    {u119 : Value}
    {u120 : Value}
    {u121 : Value}
    {u122 : Value}
    {u123 : Value}
    {u124 : Value}
    {u125 : Value}
    {u126 : Value}
    {u127 : Value}
    {u128 : Value}
    {u129 : Value}
    {u130 : Value}
    {u131 : Value}
    {u132 : Value}
    {u133 : Value}
    {u134 : Value}
    {u135 : Value}
    {u136 : Value}
    {u137 : Value}
    {u138 : Value}
    {u139 : Value}
    {u140 : Value}
    {u141 : Value}
    {u142 : Value}
    {u143 : Value}
    {u144 : Value}
    {u145 : Value}
    {u146 : Value}
    {u147 : Value}
    {u148 : Value}
    {u149 : Value}
    {u150 : Value}
    {u151 : Value}
    {u152 : Value}
    {u153 : Value}
    {u154 : Value}
    {u155 : Value}
    {u156 : Value}
    {u157 : Value}
    {u158 : Value}
    {u159 : Value}
    {u160 : Value}
    {u161 : Value}
    {u162 : Value}
    {u163 : Value}
    {u164 : Value}
    {u165 : Value}
    {u166 : Value}
    {k : Nat}
    {u : B}
    (hRu : u.R)
    (hrun : Run w wr b u g9)
    (d0 : wr.cell? { block := w.heap.size, off := 0 } = some (Value.int IntKind.i64 u.n))
    (d1 : wr.cell? { block := w.heap.size, off := 1 } = some (Value.int IntKind.u32 (bi u.s)))
    (d2 : wr.cell? { block := w.heap.size, off := 2 } = some (Value.int IntKind.u32 (bi u.j)))
    (d3 : wr.cell? { block := w.heap.size, off := 3 } = some (Value.int IntKind.u32 (bi u.l)))
    (d4 : wr.cell? { block := w.heap.size, off := 4 } = some (Value.int IntKind.u32 (bi u.f)))
    (hlt1 : w.heap.size < wr.heap.size)
    {v' : B}
    {is : Bool}
    (HST : Hid (stepB u { what := 4, node := 99 } = (v', is, 0)))
    (HC : Hid (changed u 32 = is))
    (HE : Hid (∀ (i : Nat), i < 32 → v'.s.getLsbD i = inB u i))
    (HF : Hid ((is = true → v'.n = b.n + 1) ∧ (is = false → v' = u)))
    (HSU : Hid (u.s = b.s)) :
    let Q' : Exit → Act → World → Prop := bodyPost Try.prog Try.f5 fun e w' => e = Ending.returned (Value.bool true) ∧ Below w.heap.size w w'
    ∀ (K : Act → World → Prop) (_ : ∀ (a : Act) (w : World), Code.wp Try.prog (seqR nTail) Q' a w → K a w), Code.wp Try.prog (seqL nTail) (Exit.then K Q') {
      tmps :=
        (List.toArray (Value.agg
            #[Value.int IntKind.i64 n, Value.int IntKind.u32 (bi s), Value.int IntKind.u32 (bi j),
              Value.int IntKind.u32 (bi l), Value.int IntKind.u32 (bi f)] :: Value.slice A m c :: Value.pointer (some { block := w.heap.size, off := 0 }) :: undef :: u4 :: Value.pointer (some { block := w.heap.size + 1, off := 0 }) :: Value.pointer (some { block := w.heap.size + 2, off := 0 }) :: u7 :: u8 :: Value.pointer (some { block := g9, off := 0 }) :: undef :: u11 :: u12 :: u13 :: u14 :: u15 :: undef :: undef :: undef :: undef :: undef :: u21 :: u22 :: u23 :: u24 :: u25 :: u26 :: u27 :: u28 :: u29 :: u30 :: u31 :: u32 :: u33 :: u34 :: u35 :: u36 :: u37 :: u38 :: u39 :: u40 :: u41 :: u42 :: u43 :: Value.int IntKind.i64 ↑k_d0 :: u45 :: u46 :: u47 :: u48 :: u49 :: u50 :: u51 :: u52 :: u53 :: u54 :: u55 :: u56 :: u57 :: u58 :: u59 :: u60 :: u61 :: u62 :: u63 :: u64 :: u65 :: u66 :: u67 :: u68 :: u69 :: u70 :: u71 :: u72 :: u73 :: u74 :: u75 :: u76 :: u77 :: u78 :: u79 :: u80 :: u81 :: u82 :: u83 :: u84 :: u85 :: u86 :: Value.slice A m' c :: Value.int IntKind.i64 ↑m' :: Value.int IntKind.i64 ↑k :: Value.bool false :: u91 :: u92 :: u93 :: u94 :: u95 :: u96 :: u97 :: u98 :: u99 :: u100 :: u101 :: u102 :: u103 :: u104 :: u105 :: u106 :: u107 :: u108 :: u109 :: u110 :: u111 :: u112 :: u113 :: u114 :: u115 :: u116 :: u117 :: u118 :: u119 :: u120 :: u121 :: u122 :: u123 :: u124 :: u125 :: u126 :: u127 :: u128 :: u129 :: u130 :: u131 :: u132 :: u133 :: u134 :: u135 :: u136 :: u137 :: u138 :: u139 :: u140 :: u141 :: u142 :: u143 :: u144 :: u145 :: u146 :: u147 :: u148 :: u149 :: u150 :: u151 :: u152 :: u153 :: u154 :: u155 :: u156 :: u157 :: u158 :: u159 :: u160 :: u161 :: u162 :: u163 :: u164 :: u165 :: u166 :: u167 :: u168 :: u169 :: u170 :: u171 :: u172 :: u173 :: u174 :: undef :: u176 :: u177 :: u178 :: u179 :: u180 :: u181 :: u182 :: u183 :: u184 :: u185 :: u186 :: u187 :: u188 :: u189 :: u190 :: u191 :: u192 :: u193 :: u194 :: u195 :: u196 :: u197 :: u198 :: u199 :: u200 :: u201 :: u202 :: u203 :: u204 :: u205 :: u206 :: u207 :: u208 :: u209 :: u210 :: u211 :: u212 :: u213 :: u214 :: u215 :: u216 :: u217 :: u218 :: u219 :: u220 :: u221 :: u222 :: u223 :: u224 :: [])),
      defers := [] } wr := by
  intro Q' K hK
  conv => arg 2; whnf
  conv at hK => intro a w; arg 1; arg 2; whnf
  go_cut [16, 17, 18] (fun s1 s2 s3 we => ∃ g : Nat, s1 = .pointer (some ⟨g, 0, none⟩) ∧ s2 = .bool is ∧ s3 = .int .i64 0 ∧ Blk we g 28 #[.int .i64 v'.n, .int .u32 (bi v'.s), .int .u32 (bi v'.j), .int .u32 (bi v'.l), .int .u32 (bi v'.f)] ∧ Run w we b u g9)
  case first => -- DONE
    go_wp2_with (go_at_call 12; refine (step_Bat u hRu ⟨4, 99⟩ ⟨by decide, by decide, by decide, by decide⟩ _ _ _ HST.out _).mono ?_; rintro e w1 ⟨rfl, hb⟩)
    go_meet
    exact ⟨w1.heap.size, rfl, rfl, rfl, Blk.new w1 28 _, (hrun.below hb (Nat.le_refl _)).alloc _⟩
  case rest =>
  obtain ⟨g16, rfl, rfl, rfl, hV, hrn⟩ := hcut
  clear hrun d0 d1 d2 d3 d4 hlt1
  go_wp2_with fail
  go_loopg [19, 175] 33 (fun g ch i wr => ∃ k : Nat, g + k = 33 ∧ k ≤ 32 ∧ i = .int .u8 k ∧ ch = .bool (changed u k) ∧ Below wc.heap.size wc wr)
  case atStart => exact ⟨0, by omega, by omega, rfl, rfl, Below.refl _ _⟩
  case round =>
  obtain ⟨k, hg, hk, rfl, rfl, hbr⟩ := hrel
  have hr := hrn.below hbr (Nat.le_refl _)
  have hv := hV.below hbr hV.lt
  have hcs := changed_succ u k
  by_cases hlt : k < 32
  · have i0 := (hr.2.1.cell k).trans (cA_get _ _ hlt)
    have w1 := hr.2.2.1.cell 1
    simp only [List.getElem?_toArray, List.getElem?_cons_zero, List.getElem?_cons_succ] at w1
    obtain ⟨v0, v1, v2, v3, v4, -⟩ := hv.five
    have z1 := hr.2.1.lt
    have z2 := hv.lt
    have z3 := hr.2.2.1.lt
    have hhas := HE.out k hlt
    have hsk : u.s.getLsbD k = b.s.getLsbD k := by rw [HSU.out]
    rw [hsk] at hcs
    obtain ⟨ck, hck⟩ : ∃ ck, changed u k = ck := ⟨_, rfl⟩
    obtain ⟨ik, hik⟩ : ∃ ik, inB u k = ik := ⟨_, rfl⟩
    obtain ⟨sk, hsk'⟩ : ∃ sk, b.s.getLsbD k = sk := ⟨_, rfl⟩
    have t1 : (Go.bits .and .u32 (bi b.s / 2 ^ k) 1 == 1) = sk := by rw [bit_test]; exact hsk'
    rw [hck, hik, hsk'] at hcs
    rw [hik] at hhas i0
    rw [hck]
    have HCS := Lib.hid hcs
    have HAS := Lib.hid hhas
    have b1 : (0 : Int) ≤ (k : Int) := by omega
    have b2 : (k : Int) < 32 := by omega
    clear hcs hhas hsk hck hik hsk' hr hv
    go_upto_region 33 with fail
    go_cut [19] (fun s1 wx => s1 = .bool (ck || (ik != sk)) ∧ ∃ q, wx = wr.drewN q)
    case first => -- DONE
      cases ck <;> cases ik <;> cases sk
      all_goals go_quiet (fail)
      all_goals go_wp2_with fail
      all_goals go_meet
      all_goals exact ⟨rfl, _, rfl⟩
    case rest =>
    obtain ⟨rfl, q, rfl⟩ := hcut
    go_upto_region 34 with fail
    go_cut [197] (fun s1 wx => s1 = .bool false ∧ Below wr.heap.size wr wx)
    case first => -- DONE
      go_region_held3 (fun w' => w'.cell? ⟨w.heap.size + 1, k, none⟩ = some (.bool ik) ∧ w'.cell? ⟨g16, 0, none⟩ = some (.int .i64 v'.n) ∧ w'.cell? ⟨g16, 1, none⟩ = some (.int .u32 (bi v'.s)) ∧ w'.cell? ⟨g16, 2, none⟩ = some (.int .u32 (bi v'.j)) ∧ w'.cell? ⟨g16, 3, none⟩ = some (.int .u32 (bi v'.l)) ∧ w'.cell? ⟨g16, 4, none⟩ = some (.int .u32 (bi v'.f)))
        (go_keep)
        (first
          | (go_at_call 13; refine (has_calls v' k hlt ik HAS.out _).mono ?_; rintro e w2 ⟨rfl, rfl⟩))
      go_wp2_with fail
      go_meet
      exact ⟨rfl, below_alloc (below_drewN _ _) _⟩
    case rest =>
    obtain ⟨rfl, hbx⟩ := hcut
    have hbr2 := hbr.trans (hbx.mono hbr.size)
    clear i0 w1 v0 v1 v2 v3 v4 z1 z2 z3 HAS t1 hbx hbr
    go_wp2_with fail
    go_roundg (32 - k)
    case measure => omega
    case rel =>
      exact ⟨k + 1, by omega, by omega, by go_num, by rw [HCS.out], hbr2⟩
  · have hk32 : decide ((k : Int) < 32) = false := by simp; omega
    have hck : changed u k = is := by
      rw [show k = 32 by omega]; exact HC.out
    rw [hck]
    obtain ⟨d0, d1, d2, d3, d4, -⟩ := hr.1.five
    obtain ⟨r0, r1, r2, r3, r4, -⟩ := hr.2.2.1.five
    obtain ⟨v0, v1, v2, v3, v4, -⟩ := hv.five
    have z1 := hr.1.lt
    have z2 := hv.lt
    have z3 := hr.2.2.1.lt
    have hf := HF.out
    have hbr3 := hrn.2.2.2.1.trans (hbr.mono (by have := hrn.1.lt; omega))
    clear hck hcs hr hv hlt hk hg
    cases is with
    | true =>
      have e1 := hf.1 rfl
      have e2 : (v'.n == b.n + 1) = true := by rw [e1]; simp
      have e3 : -9223372036854775808 ≤ b.n + 1 := by have := hR.1; omega
      have e4 : b.n + 1 ≤ 9223372036854775807 := by omega
      clear hf
      go_wp2_with (go_at_call 8; refine (awake_calls _).mono ?_; rintro e w2 ⟨rfl, hb2⟩)
      go_ret
      exact ⟨rfl, hbr3.trans (hb2.mono hbr3.size)⟩
    | false =>
      have e1 := hf.2 rfl
      subst e1
      clear hf
      go_wp2_with (go_at_call 8; refine (awake_calls _).mono ?_; rintro e w2 ⟨rfl, hb2⟩)
      go_ret
      exact ⟨rfl, hbr3.trans (hb2.mono hbr3.size)⟩
end Go.Proofs.Ytdpjgnefjickkaa
