/- The law FnExactAlterIn returns true for both numbers. Conditions: each is an int. -/
import Derived.Test.YtinfglcccomilaaPFnExactAlterInx1
import Derived.Test.YtinfglcccomilaaLib
namespace Go.Proofs.Ytinfglcccomilaa.Pure
open Go.RowKit Go.Proofs.Ytinfglcccomilaa.PFnExactAlterIn Go.Proofs.YtinfglcccomilaaW.PrintWords Go.Proofs.YtinfglcccomilaaW.PrintLast Go.Proofs.YtinfglcccomilaaW.PrintMore Go.Proofs.Ytinfglcccomilaa.Lib

theorem s_In (a l h : Int) : spec_l1In.f a l h = some (decide (l ≤ a ∧ a ≤ h)) := by
  unfold spec_l1In.f; by_cases e : l ≤ a <;> simp [e]
theorem i_In (a l h : Int) : impl_InRange.f a l h = some (decide (l ≤ a ∧ a ≤ h)) := by
  unfold impl_InRange.f; by_cases e : l ≤ a <;> simp [e]
def outside (k s : Int) : Prop := ¬ ((-7 ≤ k ∧ k ≤ 7) ∧ (0 ≤ s ∧ s ≤ 6))
theorem s_out {k s : Int} (h : outside k s) : spec_AlterIn.f 1 k s = some 0 := by
  unfold spec_AlterIn.f spec_IsKey.f
  by_cases h1 : -7 ≤ k ∧ k ≤ 7
  · have h2 : ¬ (0 ≤ s ∧ s ≤ 6) := fun e => h ⟨h1, e⟩
    simp only [s_In, h1, h2, Option.bind_some, if_true, and_self, decide_true, decide_false, Bool.not_false, spec_AlterIn.j0]
  · simp only [s_In, h1, Option.bind_some, decide_false, Bool.false_eq_true, if_false, spec_AlterIn.j0, if_true]
theorem i_out {k s : Int} (h : outside k s) : impl_AlterIn.f 1 k s = some 0 := by
  unfold impl_AlterIn.f impl_IsKey.f
  by_cases h1 : -7 ≤ k ∧ k ≤ 7
  · have h2 : ¬ (0 ≤ s ∧ s ≤ 6) := fun e => h ⟨h1, e⟩
    simp only [i_In, h1, h2, Option.bind_some, if_true, and_self, decide_true, decide_false, Bool.not_false, impl_AlterIn.j0]
  · simp only [i_In, h1, Option.bind_some, decide_false, Bool.false_eq_true, if_false, impl_AlterIn.j0, if_true]
def tested (i : Fin 15) (j : Fin 7) : Bool := laws_FnExactAlterIn.f 30 ((i.1 : Int) - 7) (j.1 : Int) == some true
theorem all_tested : ∀ (i : Fin 15) (j : Fin 7), tested i j = true := by decide +kernel
theorem FnExactAlterIn : laws_FnExactAlterIn.Pure := by
  intro k s _ _
  by_cases h : (-7 ≤ k ∧ k ≤ 7) ∧ (0 ≤ s ∧ s ≤ 6)
  · have e := all_tested ⟨(k + 7).toNat, by omega⟩ ⟨s.toNat, by omega⟩
    unfold tested at e
    have e1 : (((k + 7).toNat : Nat) : Int) - 7 = k := by omega
    have e2 : ((s.toNat : Nat) : Int) = s := by omega
    simp only [e1, e2, beq_iff_eq] at e
    exact ⟨30, e⟩
  · refine ⟨1, ?_⟩
    unfold laws_FnExactAlterIn.f
    rw [s_out h]
    simp only [Option.bind_some]
    rw [i_out h]
    rfl

end Go.Proofs.Ytinfglcccomilaa.Pure
