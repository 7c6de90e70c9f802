/- The law FnExactIsValidKey returns true for each number. Condition: it is an int. -/
import Derived.Test.YtdeodpoljdacpaaPFnExactIsValidKeyx1
import Derived.Test.YtdeodpoljdacpaaLib
namespace Go.Proofs.Ytdeodpoljdacpaa.Pure
open Go.RowKit Go.Proofs.Ytdeodpoljdacpaa.PFnExactIsValidKey Go.Proofs.YtdeodpoljdacpaaW.PrintWords Go.Proofs.YtdeodpoljdacpaaW.PrintLast Go.Proofs.YtdeodpoljdacpaaW.PrintMore Go.Proofs.Ytdeodpoljdacpaa.Lib

theorem s_In (a l h : Int) : spec_l1In.f a l h = some (decide (l ≤ a ∧ a ≤ h)) := by
  unfold spec_l1In.f; by_cases e : l ≤ a <;> simp [e]
theorem i_In (a l h : Int) : impl_InRange.f a l h = some (decide (l ≤ a ∧ a ≤ h)) := by
  unfold impl_InRange.f; by_cases e : l ≤ a <;> simp [e]
theorem FnExactIsValidKey : laws_FnExactIsValidKey.Pure := by
  intro a _
  unfold laws_FnExactIsValidKey.f spec_IsValidKey.f impl_IsValidKey.f
  rw [s_In, i_In]; simp

end Go.Proofs.Ytdeodpoljdacpaa.Pure
