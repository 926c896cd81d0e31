/- Which of two frames goes on, if both are sent at once: by their heads, bit by bit. -/
import Derived.Test.YtnmcmgecdcnbiaaDoorK2
namespace Go.Proofs.YtnmcmgecdcnbiaaDoor
open Go.RowKit
set_option maxRecDepth 100000
set_option maxHeartbeats 6400000
set_option linter.unusedVariables false
def bf : List Bool → List Bool → Bool
  | a :: x, b :: y => if (a != b) = true then b else bf x y
  | _, _ => false
theorem bf_nil_r (l : List Bool) : bf l [] = false := by cases l <;> rfl
theorem below_tr {W w w2 : World} (h : Below W.heap.size W w) (hb : Below w.heap.size w w2) : Below W.heap.size W w2 := h.trans (hb.mono h.size)
theorem drop_at (l : List Bool) (j : Nat) (h : j < l.length) : ∃ a, l.drop j = a :: l.drop (j + 1) ∧ (bls l)[j]? = some (.bool a) := by
  refine ⟨l[j], List.drop_eq_getElem_cons h, ?_⟩
  unfold bls
  rw [List.getElem?_map, List.getElem?_eq_getElem h]
  rfl
theorem before_calls (i1 d1 i2 d2 : Int) (x1 m1 x2 m2 : Bool) (A1 A2 : Option Addr) (n1 c1 n2 c2 : Nat) (la lb : List Bool) (hd1 : 0 ≤ d1 ∧ d1 ≤ 255) (hd2 : 0 ≤ d2 ∧ d2 ≤ 255)
    (hr1 : ∀ w, Calls Tryd.prog 13 #[.agg #[.int .u32 i1, .bool x1, .bool m1, .int .u8 d1, .slice A1 n1 c1]] w fun e w' => e = .returned (.bool true) ∧ Below w.heap.size w w')
    (hr2 : ∀ w, Calls Tryd.prog 13 #[.agg #[.int .u32 i2, .bool x2, .bool m2, .int .u8 d2, .slice A2 n2 c2]] w fun e w' => e = .returned (.bool true) ∧ Below w.heap.size w w')
    (hf1 : ∀ w, Calls Tryd.prog 31 #[.agg #[.int .u32 i1, .bool x1, .bool m1, .int .u8 d1, .slice A1 n1 c1]] w fun e w' => ∃ v, e = .returned v ∧ w'.ownsRow w.heap.size 4 1 v la.length (bls la) ∧ Below w.heap.size w w')
    (hf2 : ∀ w, Calls Tryd.prog 31 #[.agg #[.int .u32 i2, .bool x2, .bool m2, .int .u8 d2, .slice A2 n2 c2]] w fun e w' => ∃ v, e = .returned v ∧ w'.ownsRow w.heap.size 4 1 v lb.length (bls lb) ∧ Below w.heap.size w w')
    (hla : la.length ≤ 100) (hlb : lb.length ≤ 100) (v : Bool) (hv : bf la lb = v) (w : World) :
    Calls Tryd.prog 22 #[.agg #[.int .u32 i1, .bool x1, .bool m1, .int .u8 d1, .slice A1 n1 c1], .agg #[.int .u32 i2, .bool x2, .bool m2, .int .u8 d2, .slice A2 n2 c2]] w fun e w' => e = .returned (.bool v) ∧ Below w.heap.size w w' := by
  have R1 := Lib.hid hr1
  have R2 := Lib.hid hr2
  have F1 := Lib.hid hf1
  have F2 := Lib.hid hf2
  have HV := Lib.hid hv
  clear hr1 hr2 hf1 hf2 hv
  go_enter Tryd.func22, Tryd.ntmps22
  go_wp2_with fail
  refine (R1.out _).mono ?_
  rintro e w1 ⟨rfl, hb1⟩
  obtain ⟨hA, hB, hz, hbw⟩ := after2 hb1
  obtain ⟨b0, b1, b2, b3, b4, -⟩ := hB.five
  go_wp2_with fail
  refine (R2.out _).mono ?_
  rintro e w2 ⟨rfl, hb2⟩
  have hA2 := hA.below hb2 hA.lt
  have hB2 := hB.below hb2 hB.lt
  have hbw2 := hbw.trans (hb2.mono hbw.size)
  clear hA hB hz hbw b0 b1 b2 b3 b4 hb1 hb2
  go_upto_region 3 with fail
  go_cut [5, 6] (fun s5 s6 wd => ∃ B1 k1 B2 k2, s5 = .slice B1 la.length k1 ∧ s6 = .slice B2 lb.length k2 ∧ Reads wd wd.heap.size 1 B1 la.length (bls la) ∧ Reads wd wd.heap.size 1 B2 lb.length (bls lb) ∧ Below w2.heap.size w2 wd)
  case first =>
    have keepL : ∀ w' : World, Below w2.heap.size w2 w' → (w'.cell? ⟨w.heap.size, 0, none⟩ = some (.int .u32 i1) ∧ w'.cell? ⟨w.heap.size, 1, none⟩ = some (.bool x1) ∧ w'.cell? ⟨w.heap.size, 2, none⟩ = some (.bool m1) ∧ w'.cell? ⟨w.heap.size, 3, none⟩ = some (.int .u8 d1) ∧ w'.cell? ⟨w.heap.size, 4, none⟩ = some (.slice A1 n1 c1) ∧ w'.cell? ⟨w.heap.size + 1, 0, none⟩ = some (.int .u32 i2) ∧ w'.cell? ⟨w.heap.size + 1, 1, none⟩ = some (.bool x2) ∧ w'.cell? ⟨w.heap.size + 1, 2, none⟩ = some (.bool m2) ∧ w'.cell? ⟨w.heap.size + 1, 3, none⟩ = some (.int .u8 d2) ∧ w'.cell? ⟨w.heap.size + 1, 4, none⟩ = some (.slice A2 n2 c2) ∧ Below w2.heap.size w2 w') := fun w' hb =>
      ⟨(hA2.below hb hA2.lt).cell 0, (hA2.below hb hA2.lt).cell 1, (hA2.below hb hA2.lt).cell 2, (hA2.below hb hA2.lt).cell 3, (hA2.below hb hA2.lt).cell 4, (hB2.below hb hB2.lt).cell 0, (hB2.below hb hB2.lt).cell 1, (hB2.below hb hB2.lt).cell 2, (hB2.below hb hB2.lt).cell 3, (hB2.below hb hB2.lt).cell 4, hb⟩
    have KL := Lib.hid keepL
    clear keepL
    go_region_held3 (fun w' => w'.cell? ⟨w.heap.size, 0, none⟩ = some (.int .u32 i1) ∧ w'.cell? ⟨w.heap.size, 1, none⟩ = some (.bool x1) ∧ w'.cell? ⟨w.heap.size, 2, none⟩ = some (.bool m1) ∧ w'.cell? ⟨w.heap.size, 3, none⟩ = some (.int .u8 d1) ∧ w'.cell? ⟨w.heap.size, 4, none⟩ = some (.slice A1 n1 c1) ∧ w'.cell? ⟨w.heap.size + 1, 0, none⟩ = some (.int .u32 i2) ∧ w'.cell? ⟨w.heap.size + 1, 1, none⟩ = some (.bool x2) ∧ w'.cell? ⟨w.heap.size + 1, 2, none⟩ = some (.bool m2) ∧ w'.cell? ⟨w.heap.size + 1, 3, none⟩ = some (.int .u8 d2) ∧ w'.cell? ⟨w.heap.size + 1, 4, none⟩ = some (.slice A2 n2 c2) ∧ Below w2.heap.size w2 w') (exact KL.out _ (by first | assumption | exact (Below.refl w2.heap.size w2).drew)) (first
      | (go_at_call_of 31 (Value.slice A1 n1 c1); refine (F1.out _).mono ?_; rintro e w3 ⟨v1, rfl, ho1, hb3⟩; have hB3 := below_tr (W := w2) (by first | assumption | exact (Below.refl w2.heap.size w2).drew) hb3; obtain ⟨B1, k1, rfl, -, -, hrd1⟩ := own_reads ho1)
      | (go_at_call 31; refine (F2.out _).mono ?_; rintro e w4 ⟨v2, rfl, ho2, hb4⟩; have hB4 := below_tr (W := w2) (by first | assumption | exact (Below.refl w2.heap.size w2).drew) hb4; obtain ⟨B2, k2, rfl, -, -, hrd2⟩ := own_reads ho2))
    go_wp2_with fail
    go_meet
    exact ⟨B1, k1, B2, k2, rfl, rfl, (hrd1.below hb4).more hb4.size, hrd2, hB4⟩
  case rest =>
    obtain ⟨B1, k1, B2, k2, rfl, rfl, hx1, hx2, hbd⟩ := hcut
    have hbw3 := hbw2.trans (hbd.mono hbw2.size)
    clear hA2 hB2 hbd hbw2 R1 R2 F1 F2
    go_upto_region 4 with fail
    go_cut [24, 25] (fun s24 s25 we => ∃ k : Nat, s24 = .int .i64 (k : Int) ∧ s25 = .int .i64 0 ∧ (k ≤ la.length ∧ k ≤ lb.length) ∧ (k = la.length ∨ k = lb.length) ∧ wc = we)
    case first =>
      by_cases hc : (lb.length : Int) < (la.length : Int)
      · go_wp2_with fail
        go_meet
        exact ⟨lb.length, rfl, rfl, by omega, .inr rfl, rfl⟩
      · go_wp2_with fail
        go_meet
        exact ⟨la.length, rfl, rfl, by omega, .inl rfl, rfl⟩
    case rest =>
      obtain ⟨k, rfl, rfl, hk, hke, rfl⟩ := hcut
      have HKE := Lib.hid hke
      clear hke
      obtain ⟨hk1, hk2⟩ := hk
      go_wp2_with fail
      go_loopg [25] (k + 1) (fun g i wr => ∃ j : Nat, g + j = k + 1 ∧ j ≤ k ∧ i = .int .i64 j ∧ bf (la.drop j) (lb.drop j) = v ∧ Below wc.heap.size wc wr)
      case atStart => exact ⟨0, by omega, by omega, rfl, by simpa using HV.out, Below.refl _ _⟩
      case round =>
        obtain ⟨j, hg, hj, rfl, hbf, hbr⟩ := hrel
        by_cases hlt : j < k
        · obtain ⟨a, e1, u1⟩ := drop_at la j (by omega)
          obtain ⟨b, e2, u2⟩ := drop_at lb j (by omega)
          rw [e1, e2] at hbf
          unfold bf at hbf
          obtain ⟨ad, ua, rfl, _, ha, hca⟩ := (hx1.below hbr).at_ (k := j) (by omega)
          obtain ⟨bd, ub, rfl, _, hb', hcb⟩ := (hx2.below hbr).at_ (k := j) (by omega)
          obtain rfl := Option.some.inj (u1.symm.trans ha)
          obtain rfl := Option.some.inj (u2.symm.trans hb')
          have HBF := Lib.hid hbf
          have hlj1 : (j : Int) < (la.length : Int) := by omega
          have hlj2 : (j : Int) < (lb.length : Int) := by omega
          clear hbf e1 e2 u1 u2 ha hb' hx1 hx2
          cases a
          · cases b
            · go_wp2_with fail
              go_quiet (fail)
              go_wp2_with fail
              go_roundg (k - j)
              case measure => omega
              case rel => exact ⟨j + 1, by omega, by omega, by go_num, HBF.out, below_dn hbr _⟩
            · go_wp2_with fail
              go_quiet (fail)
              go_wp2_with fail
              go_returns
              exact ⟨by rw [← HBF.out]; rfl, hbw3.trans ((below_dn hbr _).mono hbw3.size)⟩
          · cases b
            · go_wp2_with fail
              go_quiet (fail)
              go_wp2_with fail
              go_returns
              exact ⟨by rw [← HBF.out]; rfl, hbw3.trans ((below_dn hbr _).mono hbw3.size)⟩
            · go_wp2_with fail
              go_quiet (fail)
              go_wp2_with fail
              go_roundg (k - j)
              case measure => omega
              case rel => exact ⟨j + 1, by omega, by omega, by go_num, HBF.out, below_dn hbr _⟩
        · have hge : k ≤ j := by omega
          have hv0 : v = false := by
            rw [← hbf]
            rcases HKE.out with h | h
            · rw [List.drop_eq_nil_of_le (by omega)]; rfl
            · have e : lb.drop j = [] := List.drop_eq_nil_of_le (by omega)
              rw [e]; exact bf_nil_r _
          subst hv0
          clear hlt hbf hx1 hx2
          go_wp2_with fail
          go_returns
          exact ⟨rfl, hbw3.trans (hbr.mono hbw3.size)⟩
end Go.Proofs.YtnmcmgecdcnbiaaDoor
