/- The law FnExactMakeRatio returns true for both numbers. Conditions: each is an int. -/
import Derived.Test.YtinfglcccomilaaPFnExactMakeRatiox2
import Derived.Test.YtinfglcccomilaaLib
namespace Go.Proofs.Ytinfglcccomilaa.Pure
open Go.RowKit Go.Proofs.Ytinfglcccomilaa.PFnExactMakeRatio Go.Proofs.YtinfglcccomilaaW.PrintWords Go.Proofs.YtinfglcccomilaaW.PrintLast Go.Proofs.YtinfglcccomilaaW.PrintMore Go.Proofs.Ytinfglcccomilaa.Lib

theorem s_In (a l h : Int) : spec_l1In.f a l h = some (decide (l ≤ a ∧ a ≤ h)) := by
  unfold spec_l1In.f; by_cases e : l ≤ a <;> simp [e]
theorem i_In (a l h : Int) : impl_InRange.f a l h = some (decide (l ≤ a ∧ a ≤ h)) := by
  unfold impl_InRange.f; by_cases e : l ≤ a <;> simp [e]
theorem s_gcd {a b : Int} (ha : 0 ≤ a) (hb : 0 ≤ b) : Ev (fun k => spec_l4Gcd.f k a b) (Int.gcd a b : Int) := by
  refine rounds_of (d := b.toNat) (fun k hk => ?_)
  unfold spec_l4Gcd.f
  exact gcd_loop (L := spec_l4Gcd.l0) (fun k a b => by simp only [spec_l4Gcd.l0]) b.toNat a b ha hb (Nat.le_refl _) k hk
theorem i_gcd {a b : Int} (ha : 0 ≤ a) (hb : 0 ≤ b) : Ev (fun k => impl_divisor.f k a b) (Int.gcd a b : Int) := by
  refine rounds_of (d := b.toNat) (fun k hk => ?_)
  unfold impl_divisor.f
  exact gcd_loop (L := impl_divisor.l0) (fun k a b => by simp only [impl_divisor.l0]) b.toNat a b ha hb (Nat.le_refl _) k hk
theorem s_abs {n : Int} (h1 : -9223372036854775808 < n) (h2 : n ≤ 9223372036854775807) : spec_l4Abs.f n = some (n.natAbs : Int) := by
  unfold spec_l4Abs.f; rw [w64 (by omega) (by omega)]; split <;> (congr 1; omega)
theorem isR_out {n d : Int} (h : ¬ ((1 ≤ d ∧ d ≤ 1000000) ∧ (-1000000000 ≤ n ∧ n ≤ 1000000000))) : isR n d = false := by
  unfold isR; rw [decide_eq_false_iff_not]; intro e; exact h ⟨e.1, e.2.1⟩
theorem isR_in {n d : Int} (h : (1 ≤ d ∧ d ≤ 1000000) ∧ (-1000000000 ≤ n ∧ n ≤ 1000000000)) : isR n d = ((Int.gcd n d : Int) == 1) := by
  unfold isR
  rw [Bool.eq_iff_iff, decide_eq_true_eq, beq_iff_eq]
  constructor
  · intro e; rw [e.2.2]; rfl
  · intro e; exact ⟨h.1, h.2, by omega⟩
theorem s_isR (n d : Int) : Ev (fun k => spec_IsRatio.f k n d) (isR n d) := by
  by_cases h1 : 1 ≤ d ∧ d ≤ 1000000
  · by_cases h2 : -1000000000 ≤ n ∧ n ≤ 1000000000
    · obtain ⟨K, hK⟩ := s_gcd (a := (n.natAbs : Int)) (b := d) (by omega) (by omega)
      refine ⟨K, fun k hk => ?_⟩
      unfold spec_IsRatio.f
      simp only [s_In, h1, h2, s_abs (show -9223372036854775808 < n by omega) (by omega), hK k hk, Option.bind_some, if_true, and_self, decide_true]
      rw [gcd_natAbs, isR_in ⟨h1, h2⟩]
    · refine ⟨0, fun k _ => ?_⟩
      unfold spec_IsRatio.f
      rw [isR_out (fun e => h2 e.2)]
      simp only [s_In, h1, h2, Option.bind_some, if_true, and_self, decide_true, decide_false, Bool.false_eq_true, if_false]
  · refine ⟨0, fun k _ => ?_⟩
    unfold spec_IsRatio.f
    rw [isR_out (fun e => h1 e.1)]
    simp only [s_In, h1, Option.bind_some, decide_false, Bool.false_eq_true, if_false]
theorem i_isR (n d : Int) : Ev (fun k => impl_IsRatio.f k n d) (isR n d) := by
  by_cases h1 : 1 ≤ d ∧ d ≤ 1000000
  · by_cases h2 : -1000000000 ≤ n ∧ n ≤ 1000000000
    · obtain ⟨K, hK⟩ := i_gcd (a := (n.natAbs : Int)) (b := d) (by omega) (by omega)
      refine ⟨K, fun k hk => ?_⟩
      unfold impl_IsRatio.f
      simp only [i_In, h1, h2, mx_abs (show -9223372036854775808 < n by omega) (show n ≤ 9223372036854775807 by omega), hK k hk, Option.bind_some, if_true, and_self, decide_true]
      rw [gcd_natAbs, isR_in ⟨h1, h2⟩]
    · refine ⟨0, fun k _ => ?_⟩
      unfold impl_IsRatio.f
      rw [isR_out (fun e => h2 e.2)]
      simp only [i_In, h1, h2, Option.bind_some, if_true, and_self, decide_true, decide_false, Bool.false_eq_true, if_false]
  · refine ⟨0, fun k _ => ?_⟩
    unfold impl_IsRatio.f
    rw [isR_out (fun e => h1 e.1)]
    simp only [i_In, h1, Option.bind_some, decide_false, Bool.false_eq_true, if_false]
theorem gcd_ne {n d : Int} (hd : 0 < d) : (Int.gcd n d : Int) ≠ 0 := by
  have := Int.gcd_pos_of_ne_zero_right n (show d ≠ 0 by omega); omega
theorem i_low {n d : Int} (hn1 : -9223372036854775808 < n) (hn2 : n ≤ 9223372036854775807) (hd : 0 < d) (hd2 : d ≤ 9223372036854775807) : Ev (fun k => impl_lowest.f k n d) (low n d) := by
  obtain ⟨K, hK⟩ := evo (i_gcd (a := (n.natAbs : Int)) (b := d) (by omega) (by omega))
  obtain ⟨K2, hK2⟩ := evo (i_isR (n.tdiv (Int.gcd n d)) (d.tdiv (Int.gcd n d)))
  refine ⟨K + K2 + 1, fun k hk => ?_⟩
  obtain ⟨k, rfl⟩ : ∃ m, k = m + 1 := ⟨k - 1, by omega⟩
  have b1 := tdiv_bd n (Int.gcd n d)
  have b2 := tdiv_bd d (Int.gcd n d)
  show impl_lowest.f (k + 1) n d = _
  unfold impl_lowest.f
  rw [if_neg (by omega)]
  simp only [impl_lowest.j0]
  rw [if_neg (by omega), mx_abs hn1 hn2, hK k (by omega)]
  simp only [Option.bind_some, gcd_natAbs]
  rw [if_neg (gcd_ne hd), w64 (by omega) (by omega), w64 (by omega) (by omega), hK2 k (by omega)]
  simp only [Option.bind_some]
  unfold low; split <;> rfl
def mk (n d : Int) : Int × Int × Bool := if (-1000000000000000 ≤ n ∧ n ≤ 1000000000000000) ∧ (-1000000000000000 ≤ d ∧ d ≤ 1000000000000000) ∧ d ≠ 0 then (if d < 0 then low (-n) (-d) else low n d) else (0, 0, false)
theorem s_j1 {n d : Int} (hn1 : -9223372036854775808 < n) (hn2 : n ≤ 9223372036854775807) (hd : 0 < d) (hd2 : d ≤ 9223372036854775807) : Ev (fun k => spec_MakeRatio.j1 k n d) (low n d) := by
  obtain ⟨K, hK⟩ := evo (s_gcd (a := (n.natAbs : Int)) (b := d) (by omega) (by omega))
  obtain ⟨K2, hK2⟩ := evo (s_isR (n.tdiv (Int.gcd n d)) (d.tdiv (Int.gcd n d)))
  refine ⟨K + K2 + 1, fun k hk => ?_⟩
  obtain ⟨k, rfl⟩ : ∃ m, k = m + 1 := ⟨k - 1, by omega⟩
  have b1 := tdiv_bd n (Int.gcd n d)
  have b2 := tdiv_bd d (Int.gcd n d)
  simp only [spec_MakeRatio.j1]
  rw [s_abs hn1 hn2]
  simp only [Option.bind_some]
  rw [hK k (by omega)]
  simp only [Option.bind_some, gcd_natAbs]
  rw [if_neg (gcd_ne hd), w64 (by omega) (by omega), w64 (by omega) (by omega), hK2 k (by omega)]
  simp only [Option.bind_some]
  unfold low; split <;> rfl
theorem s_mk (n d : Int) : Ev (fun k => spec_MakeRatio.f k n d) (mk n d) := by
  unfold spec_MakeRatio.f mk
  by_cases h1 : -1000000000000000 ≤ n ∧ n ≤ 1000000000000000
  · by_cases h2 : -1000000000000000 ≤ d ∧ d ≤ 1000000000000000
    · simp only [s_In, h1, h2, Option.bind_some, if_true, and_self, decide_true, true_and]
      by_cases h3 : d = 0
      · subst h3
        refine ⟨1, fun k hk => ?_⟩
        obtain ⟨k, rfl⟩ : ∃ m, k = m + 1 := ⟨k - 1, by omega⟩
        simp [spec_MakeRatio.j0]
      · have e : (d == 0) = false := by simp [h3]
        rw [e, if_pos h3]
        by_cases h4 : d < 0
        · rw [if_pos h4]
          refine Ev.step (f := fun k => spec_MakeRatio.j1 k (-n) (-d)) (fun k => ?_) (s_j1 (by omega) (by omega) (by omega) (by omega))
          simp only [spec_MakeRatio.j0]
          rw [if_neg (by decide), if_pos h4, w64 (by omega) (by omega), w64 (by omega) (by omega)]
        · rw [if_neg h4]
          refine Ev.step (f := fun k => spec_MakeRatio.j1 k n d) (fun k => ?_) (s_j1 (by omega) (by omega) (by omega) (by omega))
          simp only [spec_MakeRatio.j0]
          rw [if_neg (by decide), if_neg h4]
    · refine ⟨1, fun k hk => ?_⟩
      obtain ⟨k, rfl⟩ : ∃ m, k = m + 1 := ⟨k - 1, by omega⟩
      simp only [s_In, h1, h2, Option.bind_some, if_true, and_self, decide_true, decide_false, Bool.false_eq_true, if_false, spec_MakeRatio.j0, false_and, and_false]
  · refine ⟨1, fun k hk => ?_⟩
    obtain ⟨k, rfl⟩ : ∃ m, k = m + 1 := ⟨k - 1, by omega⟩
    simp only [s_In, h1, Option.bind_some, decide_false, Bool.false_eq_true, if_false, spec_MakeRatio.j0, if_true, false_and]
theorem i_mk (n d : Int) : Ev (fun k => impl_MakeRatio.f k n d) (mk n d) := by
  unfold impl_MakeRatio.f mk
  by_cases h1 : -1000000000000000 ≤ n ∧ n ≤ 1000000000000000
  · by_cases h2 : -1000000000000000 ≤ d ∧ d ≤ 1000000000000000
    · simp only [i_In, h1, h2, Option.bind_some, if_true, and_self, decide_true, true_and]
      suffices h : Ev (fun k => impl_lowest.f k n d) (if d ≠ 0 then (if d < 0 then low (-n) (-d) else low n d) else (0, 0, false)) from
        Ev.bind (f := fun _ b => some (b.1, b.2.1, b.2.2)) h (Ev.now _)
      by_cases h3 : d = 0
      · subst h3
        refine ⟨1, fun k hk => ?_⟩
        obtain ⟨k, rfl⟩ : ∃ m, k = m + 1 := ⟨k - 1, by omega⟩
        simp [impl_lowest.f, impl_lowest.j0]
      · rw [if_pos h3]
        by_cases h4 : d < 0
        · rw [if_pos h4]
          refine Ev.congr (f := fun k => impl_lowest.f k (-n) (-d)) (fun k => ?_) (i_low (by omega) (by omega) (by omega) (by omega))
          unfold impl_lowest.f
          rw [if_pos h4, if_neg (by omega), w64 (by omega) (by omega), w64 (by omega) (by omega)]
        · rw [if_neg h4]
          exact i_low (by omega) (by omega) (by omega) (by omega)
    · refine ⟨0, fun k _ => ?_⟩
      simp only [i_In, h1, h2, Option.bind_some, if_true, and_self, decide_true, decide_false, Bool.false_eq_true, if_false, false_and, and_false]
  · refine ⟨0, fun k _ => ?_⟩
    simp only [i_In, h1, Option.bind_some, decide_false, Bool.false_eq_true, if_false, false_and]
theorem FnExactMakeRatio : laws_FnExactMakeRatio.Pure := by
  intro n d _ _
  obtain ⟨K1, h1⟩ := evo (s_mk n d)
  obtain ⟨K2, h2⟩ := evo (i_mk n d)
  refine ⟨K1 + K2, ?_⟩
  unfold laws_FnExactMakeRatio.f laws_eqRatio.f
  rw [h1 _ (by omega)]
  simp only [Option.bind_some]
  rw [h2 _ (by omega)]
  simp

end Go.Proofs.Ytinfglcccomilaa.Pure
