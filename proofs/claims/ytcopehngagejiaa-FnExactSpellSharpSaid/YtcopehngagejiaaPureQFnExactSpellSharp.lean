/- The law FnExactSpellSharp returns true for each pitch. Conditions: it is an int. -/
import Derived.Test.YtcopehngagejiaaQFnExactSpellSharpx2
import Derived.Test.YtcopehngagejiaaLib
namespace Go.Proofs.Ytcopehngagejiaa.Pure
open Go.RowKit Go.Proofs.Ytcopehngagejiaa.QFnExactSpellSharp Go.Proofs.YtcopehngagejiaaW.PrintWords Go.Proofs.YtcopehngagejiaaW.PrintLast Go.Proofs.YtcopehngagejiaaW.PrintMore Go.Proofs.Ytcopehngagejiaa.Lib 

theorem xIn (a l h : Int) : spec_l1In.f a l h = some (decide (l ≤ a ∧ a ≤ h)) := by
  unfold spec_l1In.f; by_cases e : l ≤ a <;> simp [e]
theorem yIn (a l h : Int) : impl_InRange.f a l h = some (decide (l ≤ a ∧ a ≤ h)) := by
  unfold impl_InRange.f; by_cases e : l ≤ a <;> simp [e]
set_option maxRecDepth 100000 in
theorem lawAll : ∀ i : Fin 108, decide (laws_FnExactSpellSharp.f 500 ((i.1 : Int) + 12) = some true) = true := by decide +kernel
theorem FnExactSpellSharp : laws_FnExactSpellSharp.Pure := by
  intro p _
  by_cases h : 12 ≤ p ∧ p ≤ 119
  · have e := lawAll ⟨(p - 12).toNat, by omega⟩
    have e1 : (((p - 12).toNat : Nat) : Int) + 12 = p := by omega
    simp only [e1, decide_eq_true_eq] at e
    exact ⟨500, e⟩
  · refine ⟨1, ?_⟩
    unfold laws_FnExactSpellSharp.f spec_SpellSharp.f impl_SpellSharp.f laws_eqNote.f
    simp only [xIn, yIn, h, decide_false, Option.bind_some, Bool.false_eq_true, if_false]
    simp

end Go.Proofs.Ytcopehngagejiaa.Pure
