/- The law FnExactTonicOf returns true for each number. Condition: it is an int. -/
import Derived.Test.YtdeodpoljdacpaaPFnExactTonicOfx1
import Derived.Test.YtdeodpoljdacpaaLib
namespace Go.Proofs.Ytdeodpoljdacpaa.Pure
open Go.RowKit Go.Proofs.Ytdeodpoljdacpaa.PFnExactTonicOf Go.Proofs.YtdeodpoljdacpaaW.PrintWords Go.Proofs.YtdeodpoljdacpaaW.PrintLast Go.Proofs.YtdeodpoljdacpaaW.PrintMore Go.Proofs.Ytdeodpoljdacpaa.Lib

theorem s_In (a l h : Int) : spec_l1In.f a l h = some (decide (l ≤ a ∧ a ≤ h)) := by
  unfold spec_l1In.f; by_cases e : l ≤ a <;> simp [e]
theorem i_In (a l h : Int) : impl_InRange.f a l h = some (decide (l ≤ a ∧ a ≤ h)) := by
  unfold impl_InRange.f; by_cases e : l ≤ a <;> simp [e]
def modv (a m : Int) : Int := if 1 ≤ m ∧ m ≤ 1000000000000 then a % m else 0
theorem mod_core {a m : Int} (h1 : 1 ≤ m) (h2 : m ≤ 1000000000000) : Int.tmod (wrap64 (Int.tmod a m + m)) m = a % m := by
  have l1 : -m < Int.tmod a m := by have := Int.lt_tmod_of_pos a (show 0 < m by omega); omega
  have l2 : Int.tmod a m < m := Int.tmod_lt_of_pos a (by omega)
  rw [w64 (by omega) (by omega)]
  rw [Int.tmod_eq_emod_of_nonneg (by omega), Int.add_emod_right]
  rw [Int.tmod_eq_emod]
  split
  · simp
  · rw [Int.sub_emod]
    simp [Int.natAbs_of_nonneg (show 0 ≤ m by omega)]
theorem s_Mod (a m : Int) : spec_Mod.f a m = some (modv a m) := by
  unfold spec_Mod.f modv; rw [s_In]; simp only [Option.bind_some, decide_eq_true_eq]
  split
  · rename_i h; rw [if_neg (by omega), mod_core h.1 h.2]
  · rfl
theorem i_Mod (a m : Int) : impl_Mod.f a m = some (modv a m) := by
  unfold impl_Mod.f modv; rw [i_In]; simp only [Option.bind_some, decide_eq_true_eq]
  split
  · rename_i h; rw [if_neg (by omega), mod_core h.1 h.2]
  · rfl
theorem FnExactTonicOf : laws_FnExactTonicOf.Pure := by
  intro a _
  unfold laws_FnExactTonicOf.f spec_TonicOf.f impl_TonicOf.f spec_IsKey.f impl_IsKey.f
  simp only [s_In, i_In, s_Mod, i_Mod, Option.bind_some]
  split <;> simp

end Go.Proofs.Ytdeodpoljdacpaa.Pure
