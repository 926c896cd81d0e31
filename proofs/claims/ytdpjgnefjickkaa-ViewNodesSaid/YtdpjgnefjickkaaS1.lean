/- ViewSame is true of every input: any nodes to begin with, any events, cut anywhere. No conditions. -/
import Derived.Test.YtdpjgnefjickkaaRows
import Derived.Test.YtdpjgnefjickkaaA5
import Derived.Test.YtdpjgnefjickkaaR0
import Derived.OpenShut
import Derived.ShutString
import Derived.ChangeOld
namespace Go.Proofs.Ytdpjgnefjickkaa
open Go.ChangeShapes Go.WideShapes Go.ChangeAt Go.RowKit
set_option linter.unusedVariables false

theorem own : ownKnob Try.prog.godebug = none := by kernel_rfl
theorem laidOut : laidOutB Try.prog = true := by kernel_rfl
theorem Try.cells33 : Try.prog.cellsOf 33 = 2 := by kernel_rfl

/-- An argument of type []Event. -/
theorem open_events {H : Type} {enc : TypeId × Value → H} {w : World} {base : Nat} {spare : Nat → Bool} {held : Bool} {A : Option Addr} {n c : Nat} {d : DataW H} {p : List MemPlace}
    (h : DataW.Trod enc Try.prog w base spare held 23 (.slice A n c) d p) (lt : ∀ x ∈ p, x.block < w.heap.size) : ∃ l : List E, RdE w A n l ∧ n ≤ c ∧ c ≤ maxLen := by
  obtain ⟨fuel, hf⟩ := h
  rcases open_slice_fields Try.underlying23 Try.underlying33 (by kernel_rfl) (by rw [Try.cells33]; rfl) hf with ⟨hcs, _⟩ | ⟨a, len, cap, m, D, Pl, hcs, _, hl, hm, hmm, hx, hi⟩
  · simp [Value.cells] at hcs
    obtain ⟨rfl, rfl, rfl⟩ := hcs
    exact ⟨[], ⟨rfl, by omega, fun x h => by simp at h, fun h => absurd h (by omega)⟩, by omega, by omega⟩
  · simp [Value.cells] at hcs
    obtain ⟨rfl, rfl, rfl⟩ := hcs
    have hnm : n ≤ m := by rw [hmm]; split <;> omega
    simp only [Prod.mk.injEq] at hx
    obtain ⟨_, rfl⟩ := hx
    have hone : ∀ i, i < n → ∃ x : E, x.ok ∧ w.cell? (a.add (i * 2)) = some (.int .u8 x.what) ∧ w.cell? (a.add (i * 2 + 1)) = some (.int .u8 x.node) := fun i hin => by
      obtain ⟨ys, k, _, _, _, hf2⟩ := hi i (by omega)
      obtain ⟨v0, y0, hc0, _, ht0⟩ := hf2 0 _ rfl
      obtain ⟨v1, y1, hc1, _, ht1⟩ := hf2 1 _ rfl
      obtain ⟨x0, e0, _, wf0⟩ := DataW.trod_int Try.underlying5 ht0
      obtain ⟨x1, e1, _, wf1⟩ := DataW.trod_int Try.underlying5 ht1
      simp at e0 e1
      subst e0 e1
      have b0 := bounds_u8 wf0
      have b1 := bounds_u8 wf1
      exact ⟨⟨x0, x1⟩, ⟨b0.1, b0.2, b1.1, b1.2⟩, hc0, hc1⟩
    obtain ⟨l, hll, hq⟩ := exists_list E.z _ n hone
    refine ⟨l, ⟨hll, by simp only [maxLen] at hm; omega, fun x hxm => ?_, fun hn => ?_⟩, hl, hm⟩
    · obtain ⟨i, hi2, rfl⟩ := List.mem_iff_getElem.1 hxm
      have := (hq i (by omega)).1
      rwa [List.getD_eq_getElem?_getD, List.getElem?_eq_getElem hi2] at this
    · refine ⟨a, rfl, row_lt lt (Nat.mul_pos (by omega) (by decide)), fun i hi2 => ?_⟩
      obtain ⟨_, q1, q2⟩ := hq i hi2
      refine ⟨q1, ?_⟩
      refine Eq.trans (congrArg _ ?_) q2
      obtain ⟨b, off, spot⟩ := a
      have hs : spot = none := by
        have := (hq 0 hn).2.1
        simpa [Addr.add] using World.cell?_spot this
      subst hs
      unfold Addr.add
      by_cases h0 : i * 2 = 0
      · simp [h0]
      · simp [h0]; omega
set_option maxRecDepth 100000 in
theorem same_lifted (os : Os) (started : os.Started) (H : Type) (enc : TypeId × Value → H) :
    ReturnsInHanded {} Try.checked os 3 .any (Rows.viewSameSpec.pre6 enc Try.prog Try.f3 Rows.viewSameRow.domain false) (Rows.viewSameSpec.post enc Try.prog Try.f3 false true false false) := by
  refine returnsInHanded_of_change (C := Try.checked) own started (by kernel_rfl) Try.func3
    (ChangeSpec.witness6 (enc := enc) (C := Try.checked) false ⟨#[], #[.int .u32 0, .slice none 0 0, .int .u8 0], []⟩ 8 (by kernel_rfl) (by kernel_rfl) (by kernel_rfl) (by kernel_rfl)) ?_
  intro W base args ds gs before hval0 hW hcnd _
  have hval : ∀ (j : Nat) t v, Try.f3.params[j]? = some t → args[j]? = some v → Value.okWide Try.prog W .any base t v := hval0
  have hW' := hW
  obtain ⟨p, q, hA0, hV, rfl, hfz, hnd⟩ := hW
  have hA : DataW.TrodAll enc Try.prog W 0 (fun _ => true) true Try.f3.params.toList args.toList ds p := hA0
  rw [Try.params3] at hA hval
  obtain ⟨v0, vs0, d0, ds0, p0, q0, hargs, rfl, rfl, h0, r0⟩ := trodAll_cons hA
  obtain ⟨v1, vs1, d1, ds1, p1, q1, rfl, rfl, rfl, h1, r1⟩ := trodAll_cons r0
  obtain ⟨v2, vs2, d2, ds2, p2, q2, rfl, rfl, rfl, h2, r2⟩ := trodAll_cons r1
  obtain ⟨rfl, rfl, rfl⟩ := trodAll_nil r2
  obtain rfl : args = #[v0, v1, v2] := by cases args; simp_all
  obtain ⟨rfl, rfl⟩ := trodVars_none hV
  obtain ⟨a0, rfl, rfl, rfl, w0⟩ := open_int Try.underlying22 (hval 0 22 v0 rfl rfl) h0
  obtain ⟨a1, len1, cap1, rfl⟩ := okWide_slice Try.underlying23 (hval 1 23 v1 rfl rfl)
  have k1 := h1
  have lt1 : ∀ x ∈ p1, x.block < W.heap.size := by obtain ⟨m, hm⟩ := k1; exact DataW.trod_lt m _ _ _ hm
  obtain ⟨l1, hl1, hc1, hm1⟩ := open_events h1 lt1
  obtain ⟨a2, rfl, rfl, rfl, w2⟩ := open_int Try.underlying5 (hval 2 5 v2 rfl rfl) h2
  clear hA0 hval0
  have b0 := bounds_u32 w0
  have b2 := bounds_u8 w2
  obtain ⟨s, rfl⟩ : ∃ s : BitVec 32, a0 = bi s := ⟨BitVec.ofNat 32 a0.toNat, by unfold bi; rw [BitVec.toNat_ofNat, Nat.mod_eq_of_lt (by omega)]; omega⟩
  refine (same_calls s a1 len1 cap1 l1 a2 b2.1 b2.2 W hl1 hc1 hm1).mono fun e W' ⟨he, bel⟩ => ?_
  subst he
  exact ⟨_, rfl, _, _, _, [], _, [], hW', trodAll_mk1 (shut_bool Try.underlying4 _), (trodAll_cons_mk (shut_int Try.underlying22 w0) (trodAll_cons_mk (Below.trod laidOut (by kernel_rfl) (of_decide_eq_true (by kernel_rfl)) k1 bel lt1) (trodAll_cons_mk (shut_int Try.underlying5 w2) trodAll_mk0))), rfl, bel.frame _, fun h => by cases h⟩
/-- ViewSame holds at every input. -/
theorem viewSame_holds : Rows.ViewSameSaid :=
  OpenClaim.holds_of_wide 3 Try.f3 rfl rfl rfl rfl rfl rfl rfl ⟨rfl, rfl, rfl, rfl, rfl⟩ rfl rfl rfl rfl rfl (by kernel_rfl) Try.func3 (by kernel_rfl)
    (of_decide_eq_true (by kernel_rfl)) (by unfold Func.isWrapper; first | (rw [if_pos (by decide +kernel)]; kernel_rfl) | (rw [if_neg (by decide +kernel)]; exact ⟨rfl, rfl⟩))
    (fun os started H enc _ => same_lifted os started H enc)
#print axioms viewSame_holds
end Go.Proofs.Ytdpjgnefjickkaa
