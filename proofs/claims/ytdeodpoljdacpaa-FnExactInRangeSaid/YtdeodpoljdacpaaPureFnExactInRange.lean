/- The law FnExactInRange returns true for all three numbers. Conditions: each is an int. -/
import Derived.Test.YtdeodpoljdacpaaPFnExactInRangex1
import Derived.Test.YtdeodpoljdacpaaLib
namespace Go.Proofs.Ytdeodpoljdacpaa.Pure
open Go.RowKit Go.Proofs.Ytdeodpoljdacpaa.PFnExactInRange Go.Proofs.YtdeodpoljdacpaaW.PrintWords Go.Proofs.YtdeodpoljdacpaaW.PrintLast Go.Proofs.YtdeodpoljdacpaaW.PrintMore Go.Proofs.Ytdeodpoljdacpaa.Lib

theorem FnExactInRange : laws_FnExactInRange.Pure := by
  intro a l h _ _ _
  unfold laws_FnExactInRange.f spec_InRange.f impl_InRange.f
  by_cases e : l ≤ a <;> simp [e, ge_iff_le]

end Go.Proofs.Ytdeodpoljdacpaa.Pure
