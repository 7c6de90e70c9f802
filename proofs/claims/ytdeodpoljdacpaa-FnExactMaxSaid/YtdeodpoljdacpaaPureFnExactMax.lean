/- The law FnExactMax returns true for both numbers. Conditions: each is an int. -/
import Derived.Test.YtdeodpoljdacpaaPFnExactMaxx1
import Derived.Test.YtdeodpoljdacpaaLib
namespace Go.Proofs.Ytdeodpoljdacpaa.Pure
open Go.RowKit Go.Proofs.Ytdeodpoljdacpaa.PFnExactMax Go.Proofs.YtdeodpoljdacpaaW.PrintWords Go.Proofs.YtdeodpoljdacpaaW.PrintLast Go.Proofs.YtdeodpoljdacpaaW.PrintMore Go.Proofs.Ytdeodpoljdacpaa.Lib

theorem FnExactMax : laws_FnExactMax.Pure := by
  intro a b _ _
  unfold laws_FnExactMax.f spec_Max.f impl_Max.f mx
  by_cases e : a < b <;> simp [e, gt_iff_lt]

end Go.Proofs.Ytdeodpoljdacpaa.Pure
