/- The law FnExactIsRatio returns true for each ratio. Conditions: both numbers are ints. -/
import Derived.Test.YtinfglcccomilaaPFnExactIsRatiox1
import Derived.Test.YtinfglcccomilaaLib
namespace Go.Proofs.Ytinfglcccomilaa.Pure
open Go.RowKit Go.Proofs.Ytinfglcccomilaa.PFnExactIsRatio Go.Proofs.YtinfglcccomilaaW.PrintWords Go.Proofs.YtinfglcccomilaaW.PrintLast Go.Proofs.YtinfglcccomilaaW.PrintMore Go.Proofs.Ytinfglcccomilaa.Lib 

theorem s_In (a l h : Int) : spec_l1In.f a l h = some (decide (l ≤ a ∧ a ≤ h)) := by
  unfold spec_l1In.f; by_cases e : l ≤ a <;> simp [e]
theorem i_In (a l h : Int) : impl_InRange.f a l h = some (decide (l ≤ a ∧ a ≤ h)) := by
  unfold impl_InRange.f; by_cases e : l ≤ a <;> simp [e]
theorem s_gcd {a b : Int} (ha : 0 ≤ a) (hb : 0 ≤ b) : Ev (fun k => spec_l4Gcd.f k a b) (Int.gcd a b : Int) := by
  refine rounds_of (d := b.toNat) (fun k hk => ?_)
  unfold spec_l4Gcd.f
  exact gcd_loop (L := spec_l4Gcd.l0) (fun k a b => by simp only [spec_l4Gcd.l0]) b.toNat a b ha hb (Nat.le_refl _) k hk
theorem i_gcd {a b : Int} (ha : 0 ≤ a) (hb : 0 ≤ b) : Ev (fun k => impl_divisor.f k a b) (Int.gcd a b : Int) := by
  refine rounds_of (d := b.toNat) (fun k hk => ?_)
  unfold impl_divisor.f
  exact gcd_loop (L := impl_divisor.l0) (fun k a b => by simp only [impl_divisor.l0]) b.toNat a b ha hb (Nat.le_refl _) k hk
theorem s_abs {n : Int} (h1 : -9223372036854775808 < n) (h2 : n ≤ 9223372036854775807) : spec_l4Abs.f n = some (n.natAbs : Int) := by
  unfold spec_l4Abs.f; rw [w64 (by omega) (by omega)]; split <;> (congr 1; omega)
theorem isR_out {n d : Int} (h : ¬ ((1 ≤ d ∧ d ≤ 1000000) ∧ (-1000000000 ≤ n ∧ n ≤ 1000000000))) : isR n d = false := by
  unfold isR; rw [decide_eq_false_iff_not]; intro e; exact h ⟨e.1, e.2.1⟩
theorem isR_in {n d : Int} (h : (1 ≤ d ∧ d ≤ 1000000) ∧ (-1000000000 ≤ n ∧ n ≤ 1000000000)) : isR n d = ((Int.gcd n d : Int) == 1) := by
  unfold isR
  rw [Bool.eq_iff_iff, decide_eq_true_eq, beq_iff_eq]
  constructor
  · intro e; rw [e.2.2]; rfl
  · intro e; exact ⟨h.1, h.2, by omega⟩
theorem s_isR (n d : Int) : Ev (fun k => spec_IsRatio.f k n d) (isR n d) := by
  by_cases h1 : 1 ≤ d ∧ d ≤ 1000000
  · by_cases h2 : -1000000000 ≤ n ∧ n ≤ 1000000000
    · obtain ⟨K, hK⟩ := s_gcd (a := (n.natAbs : Int)) (b := d) (by omega) (by omega)
      refine ⟨K, fun k hk => ?_⟩
      unfold spec_IsRatio.f
      simp only [s_In, h1, h2, s_abs (show -9223372036854775808 < n by omega) (by omega), hK k hk, Option.bind_some, if_true, and_self, decide_true]
      rw [gcd_natAbs, isR_in ⟨h1, h2⟩]
    · refine ⟨0, fun k _ => ?_⟩
      unfold spec_IsRatio.f
      rw [isR_out (fun e => h2 e.2)]
      simp only [s_In, h1, h2, Option.bind_some, if_true, and_self, decide_true, decide_false, Bool.false_eq_true, if_false]
  · refine ⟨0, fun k _ => ?_⟩
    unfold spec_IsRatio.f
    rw [isR_out (fun e => h1 e.1)]
    simp only [s_In, h1, Option.bind_some, decide_false, Bool.false_eq_true, if_false]
theorem i_isR (n d : Int) : Ev (fun k => impl_IsRatio.f k n d) (isR n d) := by
  by_cases h1 : 1 ≤ d ∧ d ≤ 1000000
  · by_cases h2 : -1000000000 ≤ n ∧ n ≤ 1000000000
    · obtain ⟨K, hK⟩ := i_gcd (a := (n.natAbs : Int)) (b := d) (by omega) (by omega)
      refine ⟨K, fun k hk => ?_⟩
      unfold impl_IsRatio.f
      simp only [i_In, h1, h2, mx_abs (show -9223372036854775808 < n by omega) (show n ≤ 9223372036854775807 by omega), hK k hk, Option.bind_some, if_true, and_self, decide_true]
      rw [gcd_natAbs, isR_in ⟨h1, h2⟩]
    · refine ⟨0, fun k _ => ?_⟩
      unfold impl_IsRatio.f
      rw [isR_out (fun e => h2 e.2)]
      simp only [i_In, h1, h2, Option.bind_some, if_true, and_self, decide_true, decide_false, Bool.false_eq_true, if_false]
  · refine ⟨0, fun k _ => ?_⟩
    unfold impl_IsRatio.f
    rw [isR_out (fun e => h1 e.1)]
    simp only [i_In, h1, Option.bind_some, decide_false, Bool.false_eq_true, if_false]
theorem gcd_ne {n d : Int} (hd : 0 < d) : (Int.gcd n d : Int) ≠ 0 := by
  have := Int.gcd_pos_of_ne_zero_right n (show d ≠ 0 by omega); omega
theorem FnExactIsRatio : ∀ (a b : Int), (Lit.int .i64 a).wf = true → (Lit.int .i64 b).wf = true → ∃ k, laws_FnExactIsRatio.f k a b = some true := by
  intro a b _ _
  obtain ⟨K1, h1⟩ := evo (s_isR a b)
  obtain ⟨K2, h2⟩ := evo (i_isR a b)
  refine ⟨K1 + K2, ?_⟩
  unfold laws_FnExactIsRatio.f laws_toRatio.f
  simp only [Option.bind_some, h1 (K1 + K2) (by omega), h2 (K1 + K2) (by omega)]
  simp

end Go.Proofs.Ytinfglcccomilaa.Pure
