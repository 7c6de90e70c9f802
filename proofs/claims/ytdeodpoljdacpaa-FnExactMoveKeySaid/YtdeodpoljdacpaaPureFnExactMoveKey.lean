/- The law FnExactMoveKey returns true for each number and each interval. Conditions: all numbers are ints. -/
import Derived.Test.YtdeodpoljdacpaaPFnExactMoveKeyx1
import Derived.Test.YtdeodpoljdacpaaLib
namespace Go.Proofs.Ytdeodpoljdacpaa.Pure
open Go.RowKit Go.Proofs.Ytdeodpoljdacpaa.PFnExactMoveKey Go.Proofs.YtdeodpoljdacpaaW.PrintWords Go.Proofs.YtdeodpoljdacpaaW.PrintLast Go.Proofs.YtdeodpoljdacpaaW.PrintMore Go.Proofs.Ytdeodpoljdacpaa.Lib 

theorem s_In (a l h : Int) : spec_l1In.f a l h = some (decide (l ≤ a ∧ a ≤ h)) := by
  unfold spec_l1In.f; by_cases e : l ≤ a <;> simp [e]
theorem i_In (a l h : Int) : impl_InRange.f a l h = some (decide (l ≤ a ∧ a ≤ h)) := by
  unfold impl_InRange.f; by_cases e : l ≤ a <;> simp [e]
theorem j_same (k : Nat) (n : Int) (z : Bool) (a b : Int) : spec_MoveKey.j0 k n z a b = impl_MoveKey.j0 k n z a b := by
  cases k with
  | zero => rfl
  | succ k =>
    simp only [spec_MoveKey.j0, impl_MoveKey.j0]
    cases z <;> simp [spec_IsKey.f, impl_IsKey.f, s_In, i_In]
theorem j_some (n : Int) (z : Bool) (a b : Int) : ∃ r, impl_MoveKey.j0 1 n z a b = some r := by
  simp only [impl_MoveKey.j0]
  cases z
  · simp only [impl_IsKey.f, i_In, Option.bind_some, Bool.false_eq_true, if_false]
    split <;> exact ⟨_, rfl⟩
  · exact ⟨_, rfl⟩
theorem FnExactMoveKey : ∀ (n a b : Int), (Lit.int .i64 n).wf = true → (Lit.int .i64 a).wf = true → (Lit.int .i64 b).wf = true → ∃ k, laws_FnExactMoveKey.f k n a b = some true := by
  intro n a b _ _ _
  refine ⟨1, ?_⟩
  have e : spec_MoveKey.f 1 n a b = impl_MoveKey.f 1 n a b := by
    unfold spec_MoveKey.f impl_MoveKey.f impl_isSmall.f spec_IsKey.f impl_IsKey.f
    simp only [s_In, i_In, Option.bind_some, j_same]
    by_cases h0 : -7 ≤ n ∧ n ≤ 7 <;> by_cases h1 : -1000 ≤ a ∧ a ≤ 1000 <;> by_cases h2 : -1000 ≤ b ∧ b ≤ 1000 <;> simp [h0, h1, h2]
  have h : ∃ r, impl_MoveKey.f 1 n a b = some r := by
    unfold impl_MoveKey.f impl_isSmall.f impl_IsKey.f
    simp only [i_In, Option.bind_some]
    by_cases h0 : -7 ≤ n ∧ n ≤ 7 <;> by_cases h1 : -1000 ≤ a ∧ a ≤ 1000 <;> by_cases h2 : -1000 ≤ b ∧ b ≤ 1000 <;> simp only [h0, h1, h2, and_self, decide_true, decide_false, if_true, if_false, Option.bind_some, Bool.false_eq_true] <;> exact j_some ..
  obtain ⟨r, h⟩ := h
  unfold laws_FnExactMoveKey.f laws_toInterval.f
  simp only [Option.bind_some]
  rw [e, h]
  simp

end Go.Proofs.Ytdeodpoljdacpaa.Pure
