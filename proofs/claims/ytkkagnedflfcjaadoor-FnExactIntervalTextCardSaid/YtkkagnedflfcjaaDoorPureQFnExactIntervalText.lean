/- The law FnExactIntervalText returns true for each interval. Conditions: its numbers are ints. -/
import Derived.Test.YtkkagnedflfcjaaDoorQFnExactIntervalTextx3
import Derived.Test.YtkkagnedflfcjaaDoorLib
namespace Go.Proofs.YtkkagnedflfcjaaDoor.Pure
open Go.RowKit Go.Proofs.YtkkagnedflfcjaaDoor.QFnExactIntervalText Go.Proofs.YtkkagnedflfcjaaDoorW.PrintWords Go.Proofs.YtkkagnedflfcjaaDoorW.PrintLast Go.Proofs.YtkkagnedflfcjaaDoorW.PrintMore Go.Proofs.YtkkagnedflfcjaaDoor.Lib 

theorem xIn (a l h : Int) : spec_l1In.f a l h = some (decide (l ≤ a ∧ a ≤ h)) := by
  unfold spec_l1In.f; by_cases e : l ≤ a <;> simp [e]
def itested (i : Fin 8) (j : Fin 26) : Bool := decide (spec_IntervalText.f 20 (i.1 : Int) ((j.1 : Int) - 5) = impl_IntervalText.f (i.1 : Int) ((j.1 : Int) - 5))
set_option maxRecDepth 100000 in
theorem iall_tested : ∀ (i : Fin 8) (j : Fin 26), itested i j = true := by decide +kernel
/-- Both texts of an interval are the same. -/
theorem itext (a b : Int) (h0 : -9223372036854775808 ≤ b) (h1 : b ≤ 9223372036854775807) : spec_IntervalText.f 20 a b = impl_IntervalText.f a b := by
  by_cases ha : 0 ≤ a ∧ a ≤ 7
  · by_cases hb : -5 ≤ b ∧ b ≤ 20
    · have e := iall_tested ⟨a.toNat, by omega⟩ ⟨(b + 5).toNat, by omega⟩
      unfold itested at e
      have e1 : ((a.toNat : Nat) : Int) = a := by omega
      have e2 : (((b + 5).toNat : Nat) : Int) - 5 = b := by omega
      simp only [e1, e2, decide_eq_true_eq] at e
      exact e
    · have hs : spec_IntervalText.f 20 a b = some ⟨#[]⟩ := by
        unfold spec_IntervalText.f
        simp only [xIn, ha, hb, Option.bind_some, if_true, and_self, decide_true, decide_false, Bool.not_false, spec_IntervalText.j0]
      rw [hs]
      unfold impl_IntervalText.f
      rw [if_pos ha.1, if_pos (by omega)]
      have hc : 0 ≤ rd [0, 2, 4, 5, 7, 9, 11, 12] a ∧ rd [0, 2, 4, 5, 7, 9, 11, 12] a ≤ 12 := by
        have : a = 0 ∨ a = 1 ∨ a = 2 ∨ a = 3 ∨ a = 4 ∨ a = 5 ∨ a = 6 ∨ a = 7 := by omega
        rcases this with rfl | rfl | rfl | rfl | rfl | rfl | rfl | rfl <;> decide
      generalize rd [0, 2, 4, 5, 7, 9, 11, 12] a = c at hc
      have hd : wrap64 (b - c) ≠ 1 ∧ wrap64 (b - c) ≠ 0 ∧ wrap64 (b - c) ≠ -1 ∧ wrap64 (b - c) ≠ -2 := by
        by_cases hw : -9223372036854775808 ≤ b - c
        · rw [w64 hw (by omega)]; omega
        · have : wrap64 (b - c) = b - c + 18446744073709551616 := by unfold wrap64; omega
          rw [this]; omega
      obtain ⟨d1, d2, d3, d4⟩ := hd
      unfold impl_IntervalText.g
      rw [if_neg d1, if_neg d2, if_neg d3, if_neg d4]
  · have hs : spec_IntervalText.f 20 a b = some ⟨#[]⟩ := by
      unfold spec_IntervalText.f
      simp only [xIn, ha, Option.bind_some, decide_false, Bool.false_eq_true, if_false, spec_IntervalText.j0, if_true]
    rw [hs]
    unfold impl_IntervalText.f
    by_cases g : 0 ≤ a
    · rw [if_pos g, if_neg (by omega)]
    · rw [if_neg g]
theorem itext_some (a b : Int) : ∃ t, impl_IntervalText.f a b = some t := by
  unfold impl_IntervalText.f
  split
  · split <;> exact ⟨_, rfl⟩
  · exact ⟨_, rfl⟩
theorem FnExactIntervalText : ∀ (a b : Int), (Lit.int .i64 a).wf = true → (Lit.int .i64 b).wf = true → ∃ k, laws_FnExactIntervalText.f k a b = some true := by
  intro a b _ hb
  have hb := b64 hb
  refine ⟨20, ?_⟩
  obtain ⟨t, ht⟩ := itext_some a b
  unfold laws_FnExactIntervalText.f laws_toInterval.f
  simp only [Option.bind_some, itext a b hb.1 hb.2, ht, if_true]

end Go.Proofs.YtkkagnedflfcjaaDoor.Pure
