/- The law FnExactCeilDiv returns true for both numbers. Conditions: each is an int. -/
import Derived.Test.YtdeodpoljdacpaaPFnExactCeilDivx1
import Derived.Test.YtdeodpoljdacpaaLib
namespace Go.Proofs.Ytdeodpoljdacpaa.Pure
open Go.RowKit Go.Proofs.Ytdeodpoljdacpaa.PFnExactCeilDiv Go.Proofs.YtdeodpoljdacpaaW.PrintWords Go.Proofs.YtdeodpoljdacpaaW.PrintLast Go.Proofs.YtdeodpoljdacpaaW.PrintMore Go.Proofs.Ytdeodpoljdacpaa.Lib

theorem s_In (a l h : Int) : spec_l1In.f a l h = some (decide (l ≤ a ∧ a ≤ h)) := by
  unfold spec_l1In.f; by_cases e : l ≤ a <;> simp [e]
theorem i_In (a l h : Int) : impl_InRange.f a l h = some (decide (l ≤ a ∧ a ≤ h)) := by
  unfold impl_InRange.f; by_cases e : l ≤ a <;> simp [e]
theorem FnExactCeilDiv : laws_FnExactCeilDiv.Pure := by
  intro a b _ _
  have e : spec_CeilDiv.f a b = impl_CeilDiv.f a b := by unfold spec_CeilDiv.f impl_CeilDiv.f; simp only [s_In, i_In]
  have h : ∃ r, impl_CeilDiv.f a b = some r := by
    unfold impl_CeilDiv.f; simp only [i_In, Option.bind_some, decide_eq_true_eq]
    split
    · split
      · rw [if_neg (by omega)]; exact ⟨_, rfl⟩
      · exact ⟨_, rfl⟩
    · exact ⟨_, rfl⟩
  obtain ⟨r, h⟩ := h
  unfold laws_FnExactCeilDiv.f
  rw [e, h]; simp

end Go.Proofs.Ytdeodpoljdacpaa.Pure
