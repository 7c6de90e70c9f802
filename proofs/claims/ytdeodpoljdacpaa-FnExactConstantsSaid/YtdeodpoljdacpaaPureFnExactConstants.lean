/- The law FnExactConstants returns true. No condition. -/
import Derived.Test.YtdeodpoljdacpaaPFnExactConstantsx1
import Derived.Test.YtdeodpoljdacpaaLib
namespace Go.Proofs.Ytdeodpoljdacpaa.Pure
open Go.RowKit Go.Proofs.Ytdeodpoljdacpaa.PFnExactConstants Go.Proofs.YtdeodpoljdacpaaW.PrintWords Go.Proofs.YtdeodpoljdacpaaW.PrintLast Go.Proofs.YtdeodpoljdacpaaW.PrintMore Go.Proofs.Ytdeodpoljdacpaa.Lib

theorem FnExactConstants : laws_FnExactConstants.Pure := by
  unfold laws_FnExactConstants.Pure laws_FnExactConstants.f; rfl

end Go.Proofs.Ytdeodpoljdacpaa.Pure
