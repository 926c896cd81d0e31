/- IdentWins: the frame of the lesser ident wins, whatever the data; of three less is as it should be; unlike idents have unlike identifiers. -/
import Derived.Test.YtnmcmgecdcnbiaaDoorK5
import Derived.Laws.StructEq
namespace Go.Proofs.YtnmcmgecdcnbiaaDoor
open Go.RowKit
set_option maxRecDepth 100000
set_option maxHeartbeats 6400000
set_option linter.unusedVariables false
theorem fields24 : (Tryd.prog.fieldsOf 24).toList.map (·.type) = [5, 5, 22, 5] := by kernel_rfl
def eqI (k f s r k' f' s' r' : Int) : Bool := k == k' && (f == f' && (s == s' && r == r'))
theorem eqI_iff (k f s r k' f' s' r' : Int) : eqI k f s r k' f' s' r' = true ↔ (k = k' ∧ f = f' ∧ s = s' ∧ r = r') := by simp [eqI]
theorem equal24 (k f s r k' f' s' r' : Int) (w : World) : (Op.equalIn 10000 24 (.agg #[.int .u8 k, .int .u8 f, .int .u16 s, .int .u8 r]) (.agg #[.int .u8 k', .int .u8 f', .int .u16 s', .int .u8 r'])).run Tryd.prog w = .ok (eqI k f s r k' f' s' r') w := by
  unfold eqI
  by_cases e1 : k = k' <;> by_cases e2 : f = f' <;> by_cases e3 : s = s' <;> by_cases e4 : r = r' <;> simp [go_sem, e1, e2, e3, e4]
theorem less_trans (k f s r k' f' s' r' k2 f2 s2 r2 : Int) (h1 : lessI k f s r k' f' s' r' = true) (h2 : lessI k' f' s' r' k2 f2 s2 r2 = true) : lessI k f s r k2 f2 s2 r2 = true := by
  unfold lessI at *
  simp only [bne_iff_ne, ne_eq] at *
  repeat' split at h1
  all_goals repeat' split at h2
  all_goals repeat' split
  all_goals simp at *
  all_goals omega
theorem less_anti (k f s r k' f' s' r' : Int) : ¬ (lessI k f s r k' f' s' r' = true ∧ lessI k' f' s' r' k f s r = true) := by
  unfold lessI
  simp only [bne_iff_ne, ne_eq]
  rintro ⟨h1, h2⟩
  repeat' split at h1
  all_goals repeat' split at h2
  all_goals simp at *
  all_goals omega
theorem less_total (k f s r k' f' s' r' : Int) (h1 : lessI k f s r k' f' s' r' = false) (h2 : lessI k' f' s' r' k f s r = false) : k = k' ∧ f = f' ∧ s = s' ∧ r = r' := by
  unfold lessI at *
  simp only [bne_iff_ne, ne_eq] at *
  repeat' split at h1
  all_goals repeat' split at h2
  all_goals simp at *
  all_goals omega
end Go.Proofs.YtnmcmgecdcnbiaaDoor
