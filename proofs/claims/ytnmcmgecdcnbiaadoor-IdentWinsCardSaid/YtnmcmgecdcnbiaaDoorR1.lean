/- Opening the arguments of the chapter's laws: idents, frames, bytes; what the listed variable gives. -/
import Derived.Test.YtnmcmgecdcnbiaaDoorRows
import Derived.Test.YtnmcmgecdcnbiaaDoorR0
import Derived.Test.YtnmcmgecdcnbiaaDoorI6
import Derived.OpenShut
import Derived.ShutString
import Derived.ChangeOld
import Derived.Lib.SmallJoins
import Derived.ProofKit
import Derived.LaidMore
import Derived.Stop.Joined
namespace Go.Proofs.YtnmcmgecdcnbiaaDoor
open Go.ChangeShapes Go.WideShapes Go.ChangeAt Go.RowKit Go.Joins Go.Deep
set_option linter.unusedVariables false
set_option maxRecDepth 100000
theorem own : ownKnob Tryd.prog.godebug = none := by kernel_rfl
theorem laidOut : laidOutB Tryd.prog = true := by kernel_rfl
section
variable {H : Type} {enc : TypeId × Value → H} {P : Program} {w : World} {base : Nat} {spare : Nat → Bool} {held : Bool}
theorem open_bytes {t e : TypeId} {A : Option Addr} {n c : Nat} {d : DataW H} {p : List MemPlace} (ht : P.underlying t = some (.slice e)) (he : P.underlying e = some (.int .u8)) (hc : P.cellsOf e = 1)
    (h : DataW.Trod enc P w base spare held t (.slice A n c) d p) (lt : ∀ x ∈ p, x.block < w.heap.size) : ∃ ds : List Int, Reads w w.heap.size 1 A n (u8s ds) ∧ (∀ d ∈ ds, 0 ≤ d ∧ d ≤ 255) ∧ n ≤ c ∧ c ≤ maxLen := by
  obtain ⟨fuel, hf⟩ := h
  rcases open_ints ht he hc hf with ⟨hcs, _⟩ | ⟨a, len, cap, zs, hcs, _, hl, hm, hz, hx, hcell, hwf⟩
  · simp [Value.cells] at hcs
    obtain ⟨rfl, rfl, rfl⟩ := hcs
    exact ⟨[], Reads.none_, fun d h => by simp at h, by omega, by simp [maxLen]⟩
  · simp [Value.cells] at hcs
    obtain ⟨rfl, rfl, rfl⟩ := hcs
    have hzl : n ≤ zs.length := by rw [hz]; split <;> omega
    simp only [Prod.mk.injEq] at hx
    obtain ⟨_, rfl⟩ := hx
    refine ⟨zs.take n, ⟨by simp [u8s]; omega, fun hn => ⟨a, rfl, ?_, fun j u hu => ?_⟩⟩, fun d hd => bounds_u8 (hwf d (List.mem_of_mem_take hd)), hl, hm⟩
    · exact row_lt (Pl := []) (by simpa using lt) (by omega)
    · have hj : j < n := by
        rcases Nat.lt_or_ge j n with h1 | h1
        · exact h1
        · rw [List.getElem?_eq_none (by simp [u8s]; omega)] at hu; cases hu
      have hc2 := hcell j (by omega)
      unfold u8s at hu
      rw [List.getElem?_map, List.getElem?_take_of_lt hj, List.getElem?_eq_getElem (by omega)] at hu
      rw [hc2, ← hu, List.getD_eq_getElem?_getD, List.getElem?_eq_getElem (by omega)]
      rfl
end
section
variable {H : Type} {enc : TypeId × Value → H} {w : World} {base : Nat} {spare : Nat → Bool} {held : Bool}
theorem open_ident {r : Reach} {b0 : Nat} {v : Value} {d : DataW H} {p : List MemPlace} (hv : Value.okWide Tryd.prog w r b0 24 v) (h : DataW.Trod enc Tryd.prog w base spare held 24 v d p) :
    ∃ k f s q : Int, v = .agg #[.int .u8 k, .int .u8 f, .int .u16 s, .int .u8 q] ∧ (0 ≤ k ∧ k ≤ 255) ∧ (0 ≤ f ∧ f ≤ 255) ∧ (0 ≤ s ∧ s ≤ 65535) ∧ (0 ≤ q ∧ q ≤ 255) := by
  obtain ⟨e0, e1, e2, e3, y0, y1, y2, y3, nn, rfl, _, _, t0, t1, t2, t3⟩ := open_agg4 Tryd.underlying24 (by kernel_rfl) (by kernel_rfl) hv h
  obtain ⟨k, q0, _, w0⟩ := DataW.trod_int Tryd.underlying5 t0
  obtain ⟨f, q1, _, w1⟩ := DataW.trod_int Tryd.underlying5 t1
  obtain ⟨s, q2, _, w2⟩ := DataW.trod_int Tryd.underlying22 t2
  obtain ⟨q, q3, _, w3⟩ := DataW.trod_int Tryd.underlying5 t3
  simp at q0 q1 q2 q3
  subst q0 q1 q2 q3
  exact ⟨_, _, _, _, rfl, bounds_u8 w0, bounds_u8 w1, bounds_u16 w2, bounds_u8 w3⟩
end
theorem gWid : Tryd.prog.globalNamed "jackstay/ident.widths" = some 0 := by kernel_rfl
theorem tWid : (Tryd.prog.globals[0]?).map (·.type) = some 48 := by kernel_rfl
abbrev laidW : List (String × DataW Unit) := [("jackstay/ident.widths", Rows.laid_jackstay_ident_widths)]
theorem of_laid {W : World} (h : laidMetH Tryd.prog laidW W) : Wid W := by
  rw [MakeChecks.laidMetH_plain _ _ _ (by kernel_rfl)] at h
  obtain ⟨ps, ⟨g0, t0, cs0, f0, p0, q0, hg0, ht0, hv0, hd0, hrest⟩, _⟩ := h
  obtain rfl := Option.some.inj (gWid.symm.trans hg0)
  obtain rfl := Option.some.inj (tWid.symm.trans ht0)
  obtain ⟨xs, m1, rfl, hx1, hlen, hn3, hel⟩ := DataW.trod_array Tryd.underlying48 hd0
  have c3 : Tryd.prog.cellsOf 3 = 1 := by kernel_rfl
  have c48 : Tryd.prog.cellsOf 48 = 4 := by kernel_rfl
  simp only [Prod.mk.injEq] at hx1
  obtain ⟨hx1, -⟩ := hx1
  have k0 := World.var?_cell hg0 hv0 0
  have k1 := World.var?_cell hg0 hv0 1
  have k2 := World.var?_cell hg0 hv0 2
  have k3 := World.var?_cell hg0 hv0 3
  obtain ⟨l⟩ := cs0
  rw [c3] at hel
  rw [c48] at hlen
  have h0 := hel 0 (by decide)
  have h1 := hel 1 (by decide)
  have h2 := hel 2 (by decide)
  have h3 := hel 3 (by decide)
  match l, hlen, xs, hn3, hx1, h0, h1, h2, h3, k0, k1, k2, k3 with
  | [a, b, c, d], _, [x0, x1, x2, x3], _, hx1, h0, h1, h2, h3, k0, k1, k2, k3 =>
    obtain ⟨n0, e0, q0, _⟩ := DataW.trod_int Tryd.underlying3 (show DataW.trod _ Tryd.prog W 0 _ false m1 3 [a] = some x0 from h0)
    obtain ⟨n1, e1, q1, _⟩ := DataW.trod_int Tryd.underlying3 (show DataW.trod _ Tryd.prog W 0 _ false m1 3 [b] = some x1 from h1)
    obtain ⟨n2, e2, q2, _⟩ := DataW.trod_int Tryd.underlying3 (show DataW.trod _ Tryd.prog W 0 _ false m1 3 [c] = some x2 from h2)
    obtain ⟨n3, e3, q3, _⟩ := DataW.trod_int Tryd.underlying3 (show DataW.trod _ Tryd.prog W 0 _ false m1 3 [d] = some x3 from h3)
    subst q0 q1 q2 q3
    simp at e0 e1 e2 e3
    subst e0 e1 e2 e3
    simp [Rows.laid_jackstay_ident_widths] at hx1
    obtain ⟨rfl, rfl, rfl, rfl⟩ := hx1
    refine ⟨?_, by simpa using k0, by simpa using k1, by simpa using k2, by simpa using k3⟩
    rcases Nat.eq_zero_or_pos W.heap.size with h | h
    · exfalso
      simp [World.cell?, h] at k0
    · exact h
end Go.Proofs.YtnmcmgecdcnbiaaDoor
