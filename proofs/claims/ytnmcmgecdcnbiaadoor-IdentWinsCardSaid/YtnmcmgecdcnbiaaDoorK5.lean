/- Frames of idents: the one of the lesser identifier goes on, and has the lesser key; identifiers are less as idents are. -/
import Derived.Test.YtnmcmgecdcnbiaaDoorK4
import Derived.Test.YtnmcmgecdcnbiaaDoorJ3
namespace Go.Proofs.YtnmcmgecdcnbiaaDoor
open Go.RowKit
set_option linter.unusedVariables false
theorem val_ext (id : Nat) (h : id < 536870912) (m : Bool) : val (firstL id true m) 0 = (((id / 262144) * 4 + 3) * 262144 + id % 262144) * 2 + (if m then 1 else 0) := by
  unfold firstL
  rw [if_pos rfl, val_append, val_append, val_append, val_append]
  have e1 : val [false] 0 = 0 := rfl
  rw [e1, val_all (id / 262144) 11 (by omega), val_add [true, true], val_add (bitsN id 18 18), bitsN_len, val_bits id 18 18 (Nat.le_refl _)]
  unfold val val
  have e2 : val [true, true] 0 = 3 := rfl
  rw [e2]
  simp
  omega
theorem firstL_len (id : Nat) (m : Bool) : (firstL id true m).length = 33 := by simp [firstL, bitsN_len]
theorem before_ext (a b : Nat) (ha : a < 536870912) (hb : b < 536870912) : bf (firstL a true false) (firstL b true false) = decide ((a : Int) < (b : Int)) := by
  rw [bf_val _ _ (by rw [firstL_len, firstL_len]), val_ext a ha, val_ext b hb]
  refine decide_eq_decide.2 ?_
  simp
  omega
theorem key_lt (a b : Int) (h0 : 0 ≤ a) (h1 : 0 ≤ b) : decide (keyI a true false < keyI b true false) = decide (a < b) := by
  unfold keyI flagI
  refine decide_eq_decide.2 ?_
  simp
  omega
theorem mk_lt (k f s r k' f' s' r' : Int) (h : okI k f r = true) (h' : okI k' f' r' = true) (hk : 0 ≤ k) (hf : 0 ≤ f) (hs : 0 ≤ s ∧ s ≤ 65535) (hr : 0 ≤ r) (hk' : 0 ≤ k') (hf' : 0 ≤ f') (hs' : 0 ≤ s' ∧ s' ≤ 65535) (hr' : 0 ≤ r') :
    decide (mkI k f s r < mkI k' f' s' r') = lessI k f s r k' f' s' r' := by
  obtain ⟨k1, f1, r1⟩ : k ≤ 9 ∧ f ≤ 31 ∧ r ≤ 15 := by unfold okI at h; simp at h; exact ⟨h.1.1, h.1.2, h.2⟩
  obtain ⟨k2, f2, r2⟩ : k' ≤ 9 ∧ f' ≤ 31 ∧ r' ≤ 15 := by unfold okI at h'; simp at h'; exact ⟨h'.1.1, h'.1.2, h'.2⟩
  unfold mkI lessI
  simp only [bne_iff_ne, ne_eq]
  split
  · exact decide_eq_decide.2 (by omega)
  · split
    · exact decide_eq_decide.2 (by omega)
    · split
      · exact decide_eq_decide.2 (by omega)
      · exact decide_eq_decide.2 (by omega)
theorem mk_eq (k f s r k' f' s' r' : Int) (h : okI k f r = true) (h' : okI k' f' r' = true) (hk : 0 ≤ k) (hf : 0 ≤ f) (hs : 0 ≤ s ∧ s ≤ 65535) (hr : 0 ≤ r) (hk' : 0 ≤ k') (hf' : 0 ≤ f') (hs' : 0 ≤ s' ∧ s' ≤ 65535) (hr' : 0 ≤ r') :
    (mkI k f s r = mkI k' f' s' r') ↔ (k = k' ∧ f = f' ∧ s = s' ∧ r = r') := by
  obtain ⟨k1, f1, r1⟩ : k ≤ 9 ∧ f ≤ 31 ∧ r ≤ 15 := by unfold okI at h; simp at h; exact ⟨h.1.1, h.1.2, h.2⟩
  obtain ⟨k2, f2, r2⟩ : k' ≤ 9 ∧ f' ≤ 31 ∧ r' ≤ 15 := by unfold okI at h'; simp at h'; exact ⟨h'.1.1, h'.1.2, h'.2⟩
  unfold mkI
  omega
end Go.Proofs.YtnmcmgecdcnbiaaDoor
