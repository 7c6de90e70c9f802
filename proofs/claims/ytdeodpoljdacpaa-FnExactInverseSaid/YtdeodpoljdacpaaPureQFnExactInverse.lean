/- The law FnExactInverse returns true for each interval. Conditions: both its numbers are ints. -/
import Derived.Test.YtdeodpoljdacpaaQFnExactInversex1
import Derived.Test.YtdeodpoljdacpaaLib
namespace Go.Proofs.Ytdeodpoljdacpaa.Pure
open Go.RowKit Go.Proofs.Ytdeodpoljdacpaa.QFnExactInverse Go.Proofs.YtdeodpoljdacpaaW.PrintWords Go.Proofs.YtdeodpoljdacpaaW.PrintLast Go.Proofs.YtdeodpoljdacpaaW.PrintMore Go.Proofs.Ytdeodpoljdacpaa.Lib 

theorem s_In (a l h : Int) : spec_l1In.f a l h = some (decide (l ≤ a ∧ a ≤ h)) := by
  unfold spec_l1In.f; by_cases e : l ≤ a <;> simp [e]
theorem i_In (a l h : Int) : impl_InRange.f a l h = some (decide (l ≤ a ∧ a ≤ h)) := by
  unfold impl_InRange.f; by_cases e : l ≤ a <;> simp [e]
theorem FnExactInverse : ∀ (a b : Int), (Lit.int .i64 a).wf = true → (Lit.int .i64 b).wf = true → laws_FnExactInverse.f a b = some true := by
  intro a b _ _
  unfold laws_FnExactInverse.f laws_toInterval.f spec_Inverse.f impl_Inverse.f impl_isSmall.f laws_eqInterval.f
  simp only [s_In, i_In, Option.bind_some]
  by_cases h1 : -1000 ≤ a ∧ a ≤ 1000 <;> by_cases h2 : -1000 ≤ b ∧ b ≤ 1000 <;> simp [h1, h2]

end Go.Proofs.Ytdeodpoljdacpaa.Pure
