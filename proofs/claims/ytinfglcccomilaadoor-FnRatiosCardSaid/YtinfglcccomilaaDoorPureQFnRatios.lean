/- The law FnRatios returns true for each input of bytes. Conditions: each number is a byte; the reach of memory. -/
import Derived.Test.YtinfglcccomilaaDoorQFnRatiosx6
import Derived.Test.YtinfglcccomilaaDoorLib
import Derived.Test.YtinfglcccomilaaDoorDraw
namespace Go.Proofs.YtinfglcccomilaaDoor.Pure
open Go.RowKit Go.Proofs.YtinfglcccomilaaDoor.QFnRatios Go.Proofs.YtinfglcccomilaaDoorW.PrintWords Go.Proofs.YtinfglcccomilaaDoorW.PrintLast Go.Proofs.YtinfglcccomilaaDoorW.PrintMore Go.Proofs.YtinfglcccomilaaDoor.Lib Go.Proofs.YtinfglcccomilaaDoor.Var Go.Proofs.YtinfglcccomilaaDoor.Draw

set_option linter.unusedSimpArgs false
theorem s_In (a l h : Int) : spec_l1In.f a l h = some (decide (l ≤ a ∧ a ≤ h)) := by
  unfold spec_l1In.f; by_cases e : l ≤ a <;> simp [e]
theorem i_In (a l h : Int) : impl_InRange.f a l h = some (decide (l ≤ a ∧ a ≤ h)) := by
  unfold impl_InRange.f; by_cases e : l ≤ a <;> simp [e]
theorem s_gcd {a b : Int} (ha : 0 ≤ a) (hb : 0 ≤ b) : Ev (fun k => spec_l4Gcd.f k a b) (Int.gcd a b : Int) := by
  refine rounds_of (d := b.toNat) (fun k hk => ?_)
  unfold spec_l4Gcd.f
  exact gcd_loop (L := spec_l4Gcd.l0) (fun k a b => by simp only [spec_l4Gcd.l0]) b.toNat a b ha hb (Nat.le_refl _) k hk
theorem i_gcd {a b : Int} (ha : 0 ≤ a) (hb : 0 ≤ b) : Ev (fun k => impl_divisor.f k a b) (Int.gcd a b : Int) := by
  refine rounds_of (d := b.toNat) (fun k hk => ?_)
  unfold impl_divisor.f
  exact gcd_loop (L := impl_divisor.l0) (fun k a b => by simp only [impl_divisor.l0]) b.toNat a b ha hb (Nat.le_refl _) k hk
theorem s_abs {n : Int} (h1 : -9223372036854775808 < n) (h2 : n ≤ 9223372036854775807) : spec_l4Abs.f n = some (n.natAbs : Int) := by
  unfold spec_l4Abs.f; rw [w64 (by omega) (by omega)]; split <;> (congr 1; omega)
theorem isR_out {n d : Int} (h : ¬ ((1 ≤ d ∧ d ≤ 1000000) ∧ (-1000000000 ≤ n ∧ n ≤ 1000000000))) : isR n d = false := by
  unfold isR; rw [decide_eq_false_iff_not]; intro e; exact h ⟨e.1, e.2.1⟩
theorem isR_in {n d : Int} (h : (1 ≤ d ∧ d ≤ 1000000) ∧ (-1000000000 ≤ n ∧ n ≤ 1000000000)) : isR n d = ((Int.gcd n d : Int) == 1) := by
  unfold isR
  rw [Bool.eq_iff_iff, decide_eq_true_eq, beq_iff_eq]
  constructor
  · intro e; rw [e.2.2]; rfl
  · intro e; exact ⟨h.1, h.2, by omega⟩
theorem s_isR (n d : Int) : Ev (fun k => spec_IsRatio.f k n d) (isR n d) := by
  by_cases h1 : 1 ≤ d ∧ d ≤ 1000000
  · by_cases h2 : -1000000000 ≤ n ∧ n ≤ 1000000000
    · obtain ⟨K, hK⟩ := s_gcd (a := (n.natAbs : Int)) (b := d) (by omega) (by omega)
      refine ⟨K, fun k hk => ?_⟩
      unfold spec_IsRatio.f
      simp only [s_In, h1, h2, s_abs (show -9223372036854775808 < n by omega) (by omega), hK k hk, Option.bind_some, if_true, and_self, decide_true]
      rw [gcd_natAbs, isR_in ⟨h1, h2⟩]
    · refine ⟨0, fun k _ => ?_⟩
      unfold spec_IsRatio.f
      rw [isR_out (fun e => h2 e.2)]
      simp only [s_In, h1, h2, Option.bind_some, if_true, and_self, decide_true, decide_false, Bool.false_eq_true, if_false]
  · refine ⟨0, fun k _ => ?_⟩
    unfold spec_IsRatio.f
    rw [isR_out (fun e => h1 e.1)]
    simp only [s_In, h1, Option.bind_some, decide_false, Bool.false_eq_true, if_false]
theorem i_isR (n d : Int) : Ev (fun k => impl_IsRatio.f k n d) (isR n d) := by
  by_cases h1 : 1 ≤ d ∧ d ≤ 1000000
  · by_cases h2 : -1000000000 ≤ n ∧ n ≤ 1000000000
    · obtain ⟨K, hK⟩ := i_gcd (a := (n.natAbs : Int)) (b := d) (by omega) (by omega)
      refine ⟨K, fun k hk => ?_⟩
      unfold impl_IsRatio.f
      simp only [i_In, h1, h2, mx_abs (show -9223372036854775808 < n by omega) (show n ≤ 9223372036854775807 by omega), hK k hk, Option.bind_some, if_true, and_self, decide_true]
      rw [gcd_natAbs, isR_in ⟨h1, h2⟩]
    · refine ⟨0, fun k _ => ?_⟩
      unfold impl_IsRatio.f
      rw [isR_out (fun e => h2 e.2)]
      simp only [i_In, h1, h2, Option.bind_some, if_true, and_self, decide_true, decide_false, Bool.false_eq_true, if_false]
  · refine ⟨0, fun k _ => ?_⟩
    unfold impl_IsRatio.f
    rw [isR_out (fun e => h1 e.1)]
    simp only [i_In, h1, Option.bind_some, decide_false, Bool.false_eq_true, if_false]
theorem gcd_ne {n d : Int} (hd : 0 < d) : (Int.gcd n d : Int) ≠ 0 := by
  have := Int.gcd_pos_of_ne_zero_right n (show d ≠ 0 by omega); omega
theorem i_low {n d : Int} (hn1 : -9223372036854775808 < n) (hn2 : n ≤ 9223372036854775807) (hd : 0 < d) (hd2 : d ≤ 9223372036854775807) : Ev (fun k => impl_lowest.f k n d) (low n d) := by
  obtain ⟨K, hK⟩ := evo (i_gcd (a := (n.natAbs : Int)) (b := d) (by omega) (by omega))
  obtain ⟨K2, hK2⟩ := evo (i_isR (n.tdiv (Int.gcd n d)) (d.tdiv (Int.gcd n d)))
  refine ⟨K + K2 + 1, fun k hk => ?_⟩
  obtain ⟨k, rfl⟩ : ∃ m, k = m + 1 := ⟨k - 1, by omega⟩
  have b1 := tdiv_bd n (Int.gcd n d)
  have b2 := tdiv_bd d (Int.gcd n d)
  show impl_lowest.f (k + 1) n d = _
  unfold impl_lowest.f
  rw [if_neg (by omega)]
  simp only [impl_lowest.j0]
  rw [if_neg (by omega), mx_abs hn1 hn2, hK k (by omega)]
  simp only [Option.bind_some, gcd_natAbs]
  rw [if_neg (gcd_ne hd), w64 (by omega) (by omega), w64 (by omega) (by omega), hK2 k (by omega)]
  simp only [Option.bind_some]
  unfold low; split <;> rfl
def mk (n d : Int) : Int × Int × Bool := if (-1000000000000000 ≤ n ∧ n ≤ 1000000000000000) ∧ (-1000000000000000 ≤ d ∧ d ≤ 1000000000000000) ∧ d ≠ 0 then (if d < 0 then low (-n) (-d) else low n d) else (0, 0, false)
theorem s_j1 {n d : Int} (hn1 : -9223372036854775808 < n) (hn2 : n ≤ 9223372036854775807) (hd : 0 < d) (hd2 : d ≤ 9223372036854775807) : Ev (fun k => spec_MakeRatio.j1 k n d) (low n d) := by
  obtain ⟨K, hK⟩ := evo (s_gcd (a := (n.natAbs : Int)) (b := d) (by omega) (by omega))
  obtain ⟨K2, hK2⟩ := evo (s_isR (n.tdiv (Int.gcd n d)) (d.tdiv (Int.gcd n d)))
  refine ⟨K + K2 + 1, fun k hk => ?_⟩
  obtain ⟨k, rfl⟩ : ∃ m, k = m + 1 := ⟨k - 1, by omega⟩
  have b1 := tdiv_bd n (Int.gcd n d)
  have b2 := tdiv_bd d (Int.gcd n d)
  simp only [spec_MakeRatio.j1]
  rw [s_abs hn1 hn2]
  simp only [Option.bind_some]
  rw [hK k (by omega)]
  simp only [Option.bind_some, gcd_natAbs]
  rw [if_neg (gcd_ne hd), w64 (by omega) (by omega), w64 (by omega) (by omega), hK2 k (by omega)]
  simp only [Option.bind_some]
  unfold low; split <;> rfl
theorem s_mk (n d : Int) : Ev (fun k => spec_MakeRatio.f k n d) (mk n d) := by
  unfold spec_MakeRatio.f mk
  by_cases h1 : -1000000000000000 ≤ n ∧ n ≤ 1000000000000000
  · by_cases h2 : -1000000000000000 ≤ d ∧ d ≤ 1000000000000000
    · simp only [s_In, h1, h2, Option.bind_some, if_true, and_self, decide_true, true_and]
      by_cases h3 : d = 0
      · subst h3
        refine ⟨1, fun k hk => ?_⟩
        obtain ⟨k, rfl⟩ : ∃ m, k = m + 1 := ⟨k - 1, by omega⟩
        simp [spec_MakeRatio.j0]
      · have e : (d == 0) = false := by simp [h3]
        rw [e, if_pos h3]
        by_cases h4 : d < 0
        · rw [if_pos h4]
          refine Ev.step (f := fun k => spec_MakeRatio.j1 k (-n) (-d)) (fun k => ?_) (s_j1 (by omega) (by omega) (by omega) (by omega))
          simp only [spec_MakeRatio.j0]
          rw [if_neg (by decide), if_pos h4, w64 (by omega) (by omega), w64 (by omega) (by omega)]
        · rw [if_neg h4]
          refine Ev.step (f := fun k => spec_MakeRatio.j1 k n d) (fun k => ?_) (s_j1 (by omega) (by omega) (by omega) (by omega))
          simp only [spec_MakeRatio.j0]
          rw [if_neg (by decide), if_neg h4]
    · refine ⟨1, fun k hk => ?_⟩
      obtain ⟨k, rfl⟩ : ∃ m, k = m + 1 := ⟨k - 1, by omega⟩
      simp only [s_In, h1, h2, Option.bind_some, if_true, and_self, decide_true, decide_false, Bool.false_eq_true, if_false, spec_MakeRatio.j0, false_and, and_false]
  · refine ⟨1, fun k hk => ?_⟩
    obtain ⟨k, rfl⟩ : ∃ m, k = m + 1 := ⟨k - 1, by omega⟩
    simp only [s_In, h1, Option.bind_some, decide_false, Bool.false_eq_true, if_false, spec_MakeRatio.j0, if_true, false_and]
theorem i_mk (n d : Int) : Ev (fun k => impl_MakeRatio.f k n d) (mk n d) := by
  unfold impl_MakeRatio.f mk
  by_cases h1 : -1000000000000000 ≤ n ∧ n ≤ 1000000000000000
  · by_cases h2 : -1000000000000000 ≤ d ∧ d ≤ 1000000000000000
    · simp only [i_In, h1, h2, Option.bind_some, if_true, and_self, decide_true, true_and]
      suffices h : Ev (fun k => impl_lowest.f k n d) (if d ≠ 0 then (if d < 0 then low (-n) (-d) else low n d) else (0, 0, false)) from
        Ev.bind (f := fun _ b => some (b.1, b.2.1, b.2.2)) h (Ev.now _)
      by_cases h3 : d = 0
      · subst h3
        refine ⟨1, fun k hk => ?_⟩
        obtain ⟨k, rfl⟩ : ∃ m, k = m + 1 := ⟨k - 1, by omega⟩
        simp [impl_lowest.f, impl_lowest.j0]
      · rw [if_pos h3]
        by_cases h4 : d < 0
        · rw [if_pos h4]
          refine Ev.congr (f := fun k => impl_lowest.f k (-n) (-d)) (fun k => ?_) (i_low (by omega) (by omega) (by omega) (by omega))
          unfold impl_lowest.f
          rw [if_pos h4, if_neg (by omega), w64 (by omega) (by omega), w64 (by omega) (by omega)]
        · rw [if_neg h4]
          exact i_low (by omega) (by omega) (by omega) (by omega)
    · refine ⟨0, fun k _ => ?_⟩
      simp only [i_In, h1, h2, Option.bind_some, if_true, and_self, decide_true, decide_false, Bool.false_eq_true, if_false, false_and, and_false]
  · refine ⟨0, fun k _ => ?_⟩
    simp only [i_In, h1, Option.bind_some, decide_false, Bool.false_eq_true, if_false, false_and]
theorem isR_pos {n d : Int} (h : isR n d = true) : (1 ≤ d ∧ d ≤ 1000000) ∧ (-1000000000 ≤ n ∧ n ≤ 1000000000) ∧ Int.gcd n d = 1 := by
  unfold isR at h; exact of_decide_eq_true h
theorem mul_bd {x y a b : Int} (hx : -a ≤ x ∧ x ≤ a) (hy : -b ≤ y ∧ y ≤ b) : -(a * b) ≤ x * y ∧ x * y ≤ a * b := by
  have h1 : x.natAbs ≤ a.natAbs := by omega
  have h2 : y.natAbs ≤ b.natAbs := by omega
  have h3 : (x * y).natAbs ≤ a.natAbs * b.natAbs := by rw [Int.natAbs_mul]; exact Nat.mul_le_mul h1 h2
  have h4 : (a * b).natAbs = a.natAbs * b.natAbs := Int.natAbs_mul a b
  have h5 : 0 ≤ a * b := Int.mul_nonneg (by omega) (by omega)
  omega
def addv (a b c d : Int) : Int × Int × Bool := if isR a b = true ∧ isR c d = true then low (a * d + c * b) (b * d) else (0, 0, false)
theorem i_add (a b c d : Int) : Ev (fun k => impl_AddRatio.f k a b c d) (addv a b c d) := by
  obtain ⟨K1, h1⟩ := evo (i_isR a b)
  obtain ⟨K2, h2⟩ := evo (i_isR c d)
  unfold addv
  by_cases g1 : isR a b = true
  · by_cases g2 : isR c d = true
    · obtain ⟨p1, p2, _⟩ := isR_pos g1
      obtain ⟨q1, q2, _⟩ := isR_pos g2
      have m1 := mul_bd (x := a) (y := d) (a := 1000000000) (b := 1000000) (by omega) (by omega)
      have m2 := mul_bd (x := c) (y := b) (a := 1000000000) (b := 1000000) (by omega) (by omega)
      have m3 := mul_bd (x := b) (y := d) (a := 1000000) (b := 1000000) (by omega) (by omega)
      have m4 : 0 < b * d := Int.mul_pos (by omega) (by omega)
      obtain ⟨K3, h3⟩ := evo (i_low (n := a * d + c * b) (d := b * d) (by omega) (by omega) m4 (by omega))
      refine ⟨K1 + K2 + K3, fun k hk => ?_⟩
      show impl_AddRatio.f k a b c d = _
      unfold impl_AddRatio.f
      simp only [h1 k (by omega), h2 k (by omega), g1, g2, Option.bind_some, if_true, and_self]
      rw [w64 (n := a * d) (by omega) (by omega), w64 (n := c * b) (by omega) (by omega), w64 (n := a * d + c * b) (by omega) (by omega), w64 (n := b * d) (by omega) (by omega), h3 k (by omega)]
      rfl
    · refine ⟨K1 + K2, fun k hk => ?_⟩
      show impl_AddRatio.f k a b c d = _
      unfold impl_AddRatio.f
      simp only [h1 k (by omega), h2 k (by omega), g1, g2, Option.bind_some, if_true, and_false, if_false, Bool.false_eq_true]
  · refine ⟨K1, fun k hk => ?_⟩
    show impl_AddRatio.f k a b c d = _
    unfold impl_AddRatio.f
    simp only [h1 k (by omega), g1, Option.bind_some, false_and, if_false, Bool.false_eq_true]
def mulv (a b c d : Int) : Int × Int × Bool := if isR a b = true ∧ isR c d = true then low (a * c) (b * d) else (0, 0, false)
theorem i_mul (a b c d : Int) : Ev (fun k => impl_MulRatio.f k a b c d) (mulv a b c d) := by
  obtain ⟨K1, h1⟩ := evo (i_isR a b)
  obtain ⟨K2, h2⟩ := evo (i_isR c d)
  unfold mulv
  by_cases g1 : isR a b = true
  · by_cases g2 : isR c d = true
    · obtain ⟨p1, p2, _⟩ := isR_pos g1
      obtain ⟨q1, q2, _⟩ := isR_pos g2
      have m1 := mul_bd (x := a) (y := c) (a := 1000000000) (b := 1000000000) (by omega) (by omega)
      have m3 := mul_bd (x := b) (y := d) (a := 1000000) (b := 1000000) (by omega) (by omega)
      have m4 : 0 < b * d := Int.mul_pos (by omega) (by omega)
      obtain ⟨K3, h3⟩ := evo (i_low (n := a * c) (d := b * d) (by omega) (by omega) m4 (by omega))
      refine ⟨K1 + K2 + K3, fun k hk => ?_⟩
      show impl_MulRatio.f k a b c d = _
      unfold impl_MulRatio.f
      simp only [h1 k (by omega), h2 k (by omega), g1, g2, Option.bind_some, if_true, and_self]
      rw [w64 (n := a * c) (by omega) (by omega), w64 (n := b * d) (by omega) (by omega), h3 k (by omega)]
      rfl
    · refine ⟨K1 + K2, fun k hk => ?_⟩
      show impl_MulRatio.f k a b c d = _
      unfold impl_MulRatio.f
      simp only [h1 k (by omega), h2 k (by omega), g1, g2, Option.bind_some, if_true, and_false, if_false, Bool.false_eq_true]
  · refine ⟨K1, fun k hk => ?_⟩
    show impl_MulRatio.f k a b c d = _
    unfold impl_MulRatio.f
    simp only [h1 k (by omega), g1, Option.bind_some, false_and, if_false, Bool.false_eq_true]
theorem low_true {n d N D : Int} (hd : 0 < d) (h : low n d = (N, D, true)) : isR N D = true ∧ N * d = n * D := by
  unfold low at h
  split at h
  · rename_i g
    simp only [Prod.mk.injEq, and_true] at h
    obtain ⟨rfl, rfl⟩ := h
    exact ⟨g, (low_spec (n := n) hd).2.2.1⟩
  · simp at h
theorem low_to {n d N D : Int} (hd : 0 < d) (hR : isR N D = true) (h : N * d = n * D) : low n d = (N, D, true) := by
  have p := isR_pos hR
  have u := low_unique hd (show 0 < D by omega) p.2.2 h
  unfold low
  rw [u.1, u.2, if_pos hR]
theorem mk_true {n d N D : Int} (h : mk n d = (N, D, true)) : isR N D = true ∧ N * d = n * D ∧ -1000000000000000 ≤ n ∧ n ≤ 1000000000000000 ∧ -1000000000000000 ≤ d ∧ d ≤ 1000000000000000 := by
  unfold mk at h
  split at h
  · rename_i g
    split at h
    · obtain ⟨h1, h2⟩ := low_true (by omega) h
      refine ⟨h1, ?_, g.1.1, g.1.2, g.2.1.1, g.2.1.2⟩
      rw [Int.mul_neg, Int.neg_mul] at h2; omega
    · obtain ⟨h1, h2⟩ := low_true (by omega) h
      exact ⟨h1, h2, g.1.1, g.1.2, g.2.1.1, g.2.1.2⟩
  · simp at h
theorem add_comm' (a b c d : Int) : addv a b c d = addv c d a b := by
  unfold addv
  rw [Int.add_comm (a * d) (c * b), Int.mul_comm b d]
  by_cases g : isR a b = true ∧ isR c d = true
  · rw [if_pos g, if_pos g.symm]
  · rw [if_neg g, if_neg (fun h => g h.symm)]
theorem mul_comm' (a b c d : Int) : mulv a b c d = mulv c d a b := by
  unfold mulv
  rw [Int.mul_comm a c, Int.mul_comm b d]
  by_cases g : isR a b = true ∧ isR c d = true
  · rw [if_pos g, if_pos g.symm]
  · rw [if_neg g, if_neg (fun h => g h.symm)]
theorem add_true {a b c d N D : Int} (h : addv a b c d = (N, D, true)) : isR a b = true ∧ isR c d = true ∧ isR N D = true ∧ N * (b * d) = (a * d + c * b) * D := by
  unfold addv at h
  split at h
  · rename_i g
    have p := isR_pos g.1
    have q := isR_pos g.2
    obtain ⟨h1, h2⟩ := low_true (Int.mul_pos (by omega) (by omega)) h
    exact ⟨g.1, g.2, h1, h2⟩
  · simp at h
theorem mul_true {a b c d N D : Int} (h : mulv a b c d = (N, D, true)) : isR N D = true := by
  unfold mulv at h
  split at h
  · rename_i g
    have p := isR_pos g.1
    have q := isR_pos g.2
    exact (low_true (Int.mul_pos (by omega) (by omega)) h).1
  · simp at h
theorem isR_neg {c d : Int} (h : isR c d = true) : isR (-c) d = true := by
  have p := isR_pos h
  unfold isR
  rw [decide_eq_true_eq]
  exact ⟨p.1, by omega, by rw [Int.neg_gcd]; exact p.2.2⟩
theorem back_eq {a b c d N D : Int} (h : N * (b * d) = (a * d + c * b) * D) : a * (D * d) = (N * d + -c * D) * b := by
  have e1 : (N * d + -c * D) * b = N * (b * d) - c * b * D := by
    rw [Int.add_mul, Int.neg_mul, Int.neg_mul, Int.mul_assoc N d b, Int.mul_comm d b, Int.mul_right_comm c D b]; omega
  rw [e1, h, Int.add_mul, Int.add_sub_cancel, Int.mul_assoc a d D, Int.mul_comm d D]
theorem add_back {a b c d N D : Int} (h : addv a b c d = (N, D, true)) : addv N D (-c) d = (a, b, true) := by
  obtain ⟨h1, h2, h3, h4⟩ := add_true h
  have p := isR_pos h3
  have q := isR_pos h2
  unfold addv
  rw [if_pos ⟨h3, isR_neg h2⟩]
  exact low_to (Int.mul_pos (by omega) (by omega)) h1 (back_eq h4)
theorem one_ratio {a b c d : Int} (h1 : isR a b = true) (h2 : isR c d = true) (h : a * d = c * b) : a = c ∧ b = d := by
  have p := isR_pos h1
  have q := isR_pos h2
  have u := low_unique (n := a) (d := b) (N := c) (D := d) (by omega) (by omega) q.2.2 h.symm
  rw [p.2.2] at u
  simpa using u
theorem floor_val {n d : Int} (h : 1 ≤ d) : (n - n % d).tdiv d = n / d ∧ n / d * d ≤ n ∧ n < (n / d + 1) * d := by
  have e : n - n % d = d * (n / d) := by have := Int.mul_ediv_add_emod n d; omega
  have b0 := Int.emod_nonneg n (show d ≠ 0 by omega)
  have b1 := Int.emod_lt_of_pos n (show 0 < d by omega)
  have e2 : n / d * d = n - n % d := by rw [e, Int.mul_comm]
  refine ⟨?_, ?_, ?_⟩
  · rw [e]; exact Int.mul_tdiv_cancel_left _ (by omega)
  · omega
  · rw [Int.add_mul]; omega
theorem big_le (l : List Int) : laws_big.f l = some (decide ((l.length : Int) > 1048576)) := rfl
theorem d_New (l : List Int) (hl : l.length ≤ 1048576) : ∃ h, Ev (fun k => spec_l1New.f k l) (l, 0, h) := by
  unfold spec_l1New.f
  exact new_loop (L := fun k h i => spec_l1New.l0 k l h i) (M := fun h i => Go.bits .and .i64 (wrap64 ((wrap64 ((wrap64 (h * 137)) + (wrap64 (rd l i)))) + 11)) 1073741823) l (by omega) (fun k h i => by simp only [spec_l1New.l0]) l.length 0 _ (by omega)
theorem d_Byte (b : List Int) (hl : b.length ≤ 1048576) (i h : Int) (h0 : 0 ≤ i) (h1 : i ≤ (b.length : Int)) : Ok (spec_l1Byte.f b i h) b.length fun v => 0 ≤ v ∧ v ≤ 255 := by
  unfold spec_l1Byte.f
  refine Ok.ite (fun g => ?_) (fun g => ?_)
  · rw [if_pos h0, w64 (n := i + 1) (by omega) (by omega)]
    exact Ok.now (by omega) (by omega) (and255 _)
  · exact Ok.now h0 h1 (and255 _)
theorem d_Below (b : List Int) (hl : b.length ≤ 1048576) (n i h : Int) (h0 : 0 ≤ i) (h1 : i ≤ (b.length : Int)) : Ok (spec_l1Below.f b i h n) b.length fun v => 0 ≤ v ∧ (0 < n → v < n) ∧ (n ≤ 0 → v = 0) := by
  unfold spec_l1Below.f
  refine Ok.ite (fun g => Ok.now h0 h1 (by omega)) (fun g => Ok.ite (fun g2 => ?_) (fun g2 => ?_))
  · refine Ok.bind (d_Byte b hl i h h0 h1) (fun v i h h0 h1 hv => ?_)
    dsimp only
    rw [if_neg (by omega)]
    have := tmod_bd (x := v) (n := n) (by omega) (by omega)
    exact Ok.now h0 h1 (by omega)
  · refine Ok.bind (d_Byte b hl i h h0 h1) (fun x i h h0 h1 hx => ?_)
    refine Ok.bind (d_Byte b hl i h h0 h1) (fun y i h h0 h1 hy => ?_)
    refine Ok.bind (d_Byte b hl i h h0 h1) (fun z i h h0 h1 hz => ?_)
    dsimp only
    rw [if_neg (by omega), w64 (n := x * 65536) (by omega) (by omega), w64 (n := y * 256) (by omega) (by omega), w64 (n := x * 65536 + y * 256) (by omega) (by omega), w64 (n := x * 65536 + y * 256 + z) (by omega) (by omega)]
    have := tmod_bd (x := x * 65536 + y * 256 + z) (n := n) (by omega) (by omega)
    exact Ok.now h0 h1 (by omega)
theorem d_Int (b : List Int) (hl : b.length ≤ 1048576) (l : List Int) (hn : 0 < l.length) (i h : Int) (h0 : 0 ≤ i) (h1 : i ≤ (b.length : Int)) : Ok (spec_l1Int.f b i h l) b.length fun v => v ∈ l := by
  unfold spec_l1Int.f
  refine Ok.bind (d_Below b hl _ i h h0 h1) (fun v i h h0 h1 hv => ?_)
  dsimp only
  rw [if_pos (by omega), if_pos (by omega)]
  exact Ok.now h0 h1 (rd_mem (by omega) (by omega))
theorem d_Once (b : List Int) (hl : b.length ≤ 1048576) (n i h : Int) (h0 : 0 ≤ i) (h1 : i ≤ (b.length : Int)) : Ok (spec_l1Once.f b i h n) b.length fun _ => True := by
  unfold spec_l1Once.f
  exact Ok.bind (d_Below b hl n i h h0 h1) (fun v i h h0 h1 _ => Ok.now h0 h1 trivial)
theorem d_4Raw (b : List Int) (hl : b.length ≤ 1048576) (i h : Int) (h0 : 0 ≤ i) (h1 : i ≤ (b.length : Int)) : Ok (spec_l4Raw.f b i h) b.length fun v => -9223372036854775808 ≤ v ∧ v ≤ 9223372036854775807 := by
  unfold spec_l4Raw.f
  refine Ok.bind (d_Int b hl _ (by decide) i h h0 h1) (fun v i h h0 h1 hv => Ok.now h0 h1 ?_)
  simp only [List.mem_cons, List.not_mem_nil, or_false] at hv
  dsimp only at hv ⊢; omega
def modv (a m : Int) : Int := if 1 ≤ m ∧ m ≤ 1000000000000 then a % m else 0
theorem mod_core {a m : Int} (h1 : 1 ≤ m) (h2 : m ≤ 1000000000000) : Int.tmod (wrap64 (Int.tmod a m + m)) m = a % m := by
  have l1 : -m < Int.tmod a m := by have := Int.lt_tmod_of_pos a (show 0 < m by omega); omega
  have l2 : Int.tmod a m < m := Int.tmod_lt_of_pos a (by omega)
  rw [w64 (by omega) (by omega)]
  rw [Int.tmod_eq_emod_of_nonneg (by omega), Int.add_emod_right]
  rw [Int.tmod_eq_emod]
  split
  · simp
  · rw [Int.sub_emod]
    simp [Int.natAbs_of_nonneg (show 0 ≤ m by omega)]
theorem i_Mod (a m : Int) : impl_Mod.f a m = some (modv a m) := by
  unfold impl_Mod.f modv; rw [i_In]; simp only [Option.bind_some, decide_eq_true_eq]
  split
  · rename_i h; rw [if_neg (by omega), mod_core h.1 h.2]
  · rfl
theorem i_fmt (n : Int) (h0 : -9223372036854775808 ≤ n) (h1 : n ≤ 9223372036854775807) : impl_FormatInt.f n = some ⟨(Lib.itoa n).toArray⟩ := by
  show Option.bind (if _ then some _ else none) _ = _
  rw [if_pos ⟨h0, h1⟩]; rfl
theorem dec_len (u : Nat) : (Lib.decDigits u).length ≤ u + 1 := by
  induction u using Nat.strongRecOn with
  | _ u ih =>
    by_cases c : u < 10
    · rw [Lib.decDigits_one c]; simp
    · have := ih (u / 10) (by omega)
      rw [Lib.decDigits, dif_neg c]
      simp only [List.length_append, List.length_cons, List.length_nil]
      omega
theorem itoa_len (n : Int) : (Lib.itoa n).length ≤ n.natAbs + 2 := by
  unfold Lib.itoa
  split
  · have := dec_len n.natAbs; simp only [List.length_cons]; omega
  · have := dec_len n.toNat; omega
theorem itoa_size (n : Int) : (⟨(Lib.itoa n).toArray⟩ : ByteArray).size ≤ n.natAbs + 2 := by
  have := itoa_len n
  show (Lib.itoa n).toArray.size ≤ _
  simpa using this
def rtx (n d : Int) : ByteArray := if isR n d = true then (if d = 1 then ⟨(Lib.itoa n).toArray⟩ else (⟨(Lib.itoa n).toArray⟩ ++ ⟨#[47]⟩) ++ ⟨(Lib.itoa d).toArray⟩) else ⟨#[]⟩
theorem i_rtx (n d : Int) : Ev (fun k => impl_RatioText.f k n d) (rtx n d) := by
  obtain ⟨K1, h1⟩ := evo (i_isR n d)
  refine ⟨K1, fun k hk => ?_⟩
  show impl_RatioText.f k n d = _
  unfold impl_RatioText.f rtx
  simp only [h1 k (by omega), Option.bind_some]
  by_cases c : isR n d = true
  · have p := isR_pos c
    have z1 := itoa_size n
    have z2 := itoa_size d
    rw [if_pos c, if_pos c]
    simp only [i_fmt n (by omega) (by omega), i_fmt d (by omega) (by omega), Option.bind_some]
    by_cases c1 : d = 1
    · rw [if_pos c1, if_pos c1]
    · rw [if_neg c1, if_neg c1, if_pos (by omega), if_pos (by
        rw [ByteArray.size_append]
        have : (⟨#[47]⟩ : ByteArray).size = 1 := rfl
        omega)]
  · rw [if_neg c, if_neg c]
theorem d_4Draw (b : List Int) (hl : b.length ≤ 1048576) (i h : Int) (h0 : 0 ≤ i) (h1 : i ≤ (b.length : Int)) : ∃ x y i' h', Ev (fun k => spec_l4Draw.f k b i h) (x, y, i', h') ∧ 0 ≤ i' ∧ i' ≤ (b.length : Int) := by
  obtain ⟨v1, i1, g1, e1, a1, b1, _⟩ := d_Below b hl 60 i h h0 h1
  obtain ⟨v2, i2, g2, e2, a2, b2, _⟩ := d_Below b hl 9 i1 g1 a1 b1
  obtain ⟨K, e3⟩ := evo (s_mk (wrap64 (v1 - 20)) (wrap64 (1 + v2)))
  refine ⟨(mk (wrap64 (v1 - 20)) (wrap64 (1 + v2))).1, (mk (wrap64 (v1 - 20)) (wrap64 (1 + v2))).2.1, i2, g2, ⟨K, fun k hk => ?_⟩, a2, b2⟩
  show spec_l4Draw.f k b i h = _
  unfold spec_l4Draw.f
  simp only [e1, e2, e3 k (by omega), Option.bind_some]
theorem d_4Any (b : List Int) (hl : b.length ≤ 1048576) (i h : Int) (h0 : 0 ≤ i) (h1 : i ≤ (b.length : Int)) : ∃ x y i' h', Ev (fun k => spec_l4Any.f k b i h) (x, y, i', h') ∧ 0 ≤ i' ∧ i' ≤ (b.length : Int) := by
  obtain ⟨x, y, i1, g1, e1, a1, b1⟩ := d_4Draw b hl i h h0 h1
  obtain ⟨v2, i2, g2, e2, a2, b2, _⟩ := d_Below b hl 8 i1 g1 a1 b1
  obtain ⟨v3, i3, g3, e3, a3, b3, _⟩ := d_4Raw b hl i2 g2 a2 b2
  obtain ⟨K, e1⟩ := evo e1
  by_cases c0 : v2 = 0
  · refine ⟨v3, y, i3, g3, ⟨K, fun k hk => ?_⟩, a3, b3⟩
    show spec_l4Any.f k b i h = _
    unfold spec_l4Any.f
    simp only [e1 k hk, e2, e3, Option.bind_some]
    rw [if_pos c0]
  · by_cases c1 : v2 = 1
    · refine ⟨x, v3, i3, g3, ⟨K, fun k hk => ?_⟩, a3, b3⟩
      show spec_l4Any.f k b i h = _
      unfold spec_l4Any.f
      simp only [e1 k hk, e2, e3, Option.bind_some]
      rw [if_neg c0, if_pos c1]
    · by_cases c2 : v2 = 2
      · refine ⟨4, 6, i2, g2, ⟨K, fun k hk => ?_⟩, a2, b2⟩
        show spec_l4Any.f k b i h = _
        unfold spec_l4Any.f
        simp only [e1 k hk, e2, e3, Option.bind_some]
        rw [if_neg c0, if_neg c1, if_pos c2]
      · refine ⟨x, y, i2, g2, ⟨K, fun k hk => ?_⟩, a2, b2⟩
        show spec_l4Any.f k b i h = _
        unfold spec_l4Any.f
        simp only [e1 k hk, e2, e3, Option.bind_some]
        rw [if_neg c0, if_neg c1, if_neg c2]
theorem d_DrawAddRatio (l : List Int) (hl : l.length ≤ 1048576) : ∃ a b c d, Ev (fun k => spec_DrawAddRatio.f k l) (a, b, c, d) := by
  obtain ⟨h, e⟩ := d_New l hl
  obtain ⟨x, y, i1, h1, e1, a1, b1⟩ := d_4Any l hl 0 h (by omega) (by omega)
  obtain ⟨x2, y2, i2, h2, e2, a2, b2⟩ := d_4Any l hl i1 h1 a1 b1
  obtain ⟨K0, e⟩ := evo e
  obtain ⟨K1, e1⟩ := evo e1
  obtain ⟨K2, e2⟩ := evo e2
  refine ⟨x, y, x2, y2, K0 + K1 + K2, fun k hk => ?_⟩
  show spec_DrawAddRatio.f k l = _
  unfold spec_DrawAddRatio.f
  simp only [e k (by omega), e1 k (by omega), e2 k (by omega), Option.bind_some]
theorem d_mrj (n d : Int) (l : List Int) (hl : l.length ≤ 1048576) (i h : Int) (h0 : 0 ≤ i) (h1 : i ≤ (l.length : Int)) : ∃ r, ∀ k, spec_DrawMakeRatio.j0 (k + 1) n d l i h = some r := by
  obtain ⟨o, i1, g1, e1, a1, b1, _⟩ := d_Once l hl 4 i h h0 h1
  obtain ⟨v3, i3, g3, e3, a3, b3, _⟩ := d_4Raw l hl i1 g1 a1 b1
  by_cases c : o = true
  · refine ⟨(n, v3), fun k => ?_⟩
    simp only [spec_DrawMakeRatio.j0, e1, e3, Option.bind_some]
    rw [if_pos c]
  · refine ⟨(n, d), fun k => ?_⟩
    simp only [spec_DrawMakeRatio.j0, e1, Option.bind_some]
    rw [if_neg c]
theorem d_DrawMakeRatio (l : List Int) (hl : l.length ≤ 1048576) : ∃ n d, Ev (fun k => spec_DrawMakeRatio.f k l) (n, d) := by
  obtain ⟨h, e⟩ := d_New l hl
  obtain ⟨v1, i1, g1, e1, a1, b1, _⟩ := d_Below l hl 100 0 h (by omega) (by omega)
  obtain ⟨v2, i2, g2, e2, a2, b2, _⟩ := d_Below l hl 20 i1 g1 a1 b1
  obtain ⟨o, i3, g3, e3, a3, b3, _⟩ := d_Once l hl 4 i2 g2 a2 b2
  obtain ⟨v4, i4, g4, e4, a4, b4, _⟩ := d_4Raw l hl i3 g3 a3 b3
  obtain ⟨K, e⟩ := evo e
  have main : ∃ r, ∀ k, K + 1 ≤ k → spec_DrawMakeRatio.f k l = some r := by
    by_cases c : o = true
    · obtain ⟨r, hr⟩ := d_mrj v4 (wrap64 (v2 - 5)) l hl i4 g4 a4 b4
      refine ⟨r, fun k hk => ?_⟩
      obtain ⟨k, rfl⟩ : ∃ m, k = m + 1 := ⟨k - 1, by omega⟩
      unfold spec_DrawMakeRatio.f
      simp only [e (k + 1) (by omega), e1, e2, e3, e4, Option.bind_some]
      rw [if_pos c]
      exact hr k
    · obtain ⟨r, hr⟩ := d_mrj (wrap64 (v1 - 50)) (wrap64 (v2 - 5)) l hl i3 g3 a3 b3
      refine ⟨r, fun k hk => ?_⟩
      obtain ⟨k, rfl⟩ : ∃ m, k = m + 1 := ⟨k - 1, by omega⟩
      unfold spec_DrawMakeRatio.f
      simp only [e (k + 1) (by omega), e1, e2, e3, Option.bind_some]
      rw [if_neg c]
      exact hr k
  obtain ⟨⟨r1, r2⟩, hr⟩ := main
  exact ⟨r1, r2, K + 1, hr⟩
theorem i_less {a b c d : Int} (g1 : isR a b = true) (g2 : isR c d = true) : Ev (fun k => impl_LessRatio.f k a b c d) (decide (a * d < c * b)) := by
  obtain ⟨K1, h1⟩ := evo (i_isR a b)
  obtain ⟨K2, h2⟩ := evo (i_isR c d)
  obtain ⟨p1, p2, _⟩ := isR_pos g1
  obtain ⟨q1, q2, _⟩ := isR_pos g2
  have m1 := mul_bd (x := a) (y := d) (a := 1000000000) (b := 1000000) (by omega) (by omega)
  have m2 := mul_bd (x := c) (y := b) (a := 1000000000) (b := 1000000) (by omega) (by omega)
  refine ⟨K1 + K2, fun k hk => ?_⟩
  show impl_LessRatio.f k a b c d = _
  unfold impl_LessRatio.f
  simp only [h1 k (by omega), h2 k (by omega), g1, g2, Option.bind_some, if_true]
  rw [w64 (n := a * d) (by omega) (by omega), w64 (n := c * b) (by omega) (by omega)]
theorem floor_bd {n d : Int} (h : 1 ≤ d) : -(n.natAbs : Int) - 1 ≤ n / d ∧ n / d ≤ (n.natAbs : Int) := by
  obtain ⟨_, h1, h2⟩ := floor_val (n := n) h
  constructor
  · apply Int.le_ediv_of_mul_le (by omega)
    have : (-(n.natAbs : Int) - 1) * d ≤ (-(n.natAbs : Int) - 1) * 1 := Int.mul_le_mul_of_nonpos_left (by omega) h
    omega
  · by_cases c : 0 ≤ n
    · have := Int.ediv_le_self d c; omega
    · have : n / d < 0 := Int.ediv_neg_of_neg_of_pos (by omega) (by omega)
      omega
theorem i_floor {n d : Int} (g : isR n d = true) : Ev (fun k => impl_FloorRatio.f k n d) (n / d) := by
  obtain ⟨K1, h1⟩ := evo (i_isR n d)
  obtain ⟨p1, p2, _⟩ := isR_pos g
  have b := floor_bd (n := n) p1.1
  have b0 := Int.emod_nonneg n (show d ≠ 0 by omega)
  have b1 := Int.emod_lt_of_pos n (show 0 < d by omega)
  refine ⟨K1, fun k hk => ?_⟩
  show impl_FloorRatio.f k n d = _
  unfold impl_FloorRatio.f
  simp only [h1 k (by omega), g, i_Mod, Option.bind_some, if_true]
  unfold modv
  rw [if_neg (by omega), if_pos (by omega), w64 (n := n - n % d) (by omega) (by omega), (floor_val p1.1).1, w64 (by omega) (by omega)]
theorem i_floor0 {n d : Int} (g : ¬ isR n d = true) : ∃ f, Ev (fun k => impl_FloorRatio.f k n d) f := by
  obtain ⟨K1, h1⟩ := evo (i_isR n d)
  refine ⟨0, K1, fun k hk => ?_⟩
  show impl_FloorRatio.f k n d = _
  unfold impl_FloorRatio.f
  simp only [h1 k (by omega), g, Option.bind_some, Bool.false_eq_true, if_false]
theorem rtx_ne {n d : Int} (g : isR n d = true) : (rtx n d).toList ≠ [] := by
  intro e
  rw [ByteArray.toList_eq] at e
  have hs : (rtx n d).size = 0 := by
    have := congrArg List.length e
    simpa using this
  unfold rtx at hs
  rw [if_pos g] at hs
  have hp : ∀ m : Int, 0 < (⟨(Lib.itoa m).toArray⟩ : ByteArray).size := by
    intro m
    show 0 < (Lib.itoa m).toArray.size
    rw [List.size_toArray]
    unfold Lib.itoa
    split
    · simp
    · have hd : ∀ u, 0 < (Lib.decDigits u).length := by
        intro u
        rw [Lib.decDigits]
        split <;> simp
      exact hd _
  have z := hp n
  split at hs
  · omega
  · rw [ByteArray.size_append, ByteArray.size_append] at hs; omega
theorem part3 (a b : Int) : ∃ K, ∀ k, K ≤ k → laws_FnRatios.j3 k false a b = some true := by
  obtain ⟨K1, h1⟩ := evo (i_isR a b)
  by_cases g : isR a b = true
  · obtain ⟨K2, h2⟩ := evo (i_floor g)
    obtain ⟨K3, h3⟩ := evo (i_rtx a b)
    obtain ⟨p1, p2, _⟩ := isR_pos g
    obtain ⟨_, f1, f2⟩ := floor_val (n := a) p1.1
    have b0 := floor_bd (n := a) p1.1
    have m1 := mul_bd (x := a / b) (y := b) (a := 1000000001) (b := 1000000) (by omega) (by omega)
    have m2 := mul_bd (x := a / b + 1) (y := b) (a := 1000000002) (b := 1000000) (by omega) (by omega)
    refine ⟨K1 + K2 + K3 + 1, fun k hk => ?_⟩
    obtain ⟨k, rfl⟩ : ∃ m, k = m + 1 := ⟨k - 1, by omega⟩
    simp only [laws_FnRatios.j3, Bool.false_eq_true, if_false, h1 k (by omega), h2 k (by omega), h3 k (by omega), g, Option.bind_some, if_true]
    rw [w64 (n := a / b * b) (by omega) (by omega), w64 (n := a / b + 1) (by omega) (by omega), w64 (n := (a / b + 1) * b) (by omega) (by omega), if_pos f1, if_pos f2]
    simp [rtx_ne g]
  · obtain ⟨f, hf⟩ := i_floor0 g
    obtain ⟨K2, h2⟩ := evo hf
    refine ⟨K1 + K2 + 1, fun k hk => ?_⟩
    obtain ⟨k, rfl⟩ : ∃ m, k = m + 1 := ⟨k - 1, by omega⟩
    simp only [laws_FnRatios.j3, Bool.false_eq_true, if_false, h1 k (by omega), h2 k (by omega), g, Option.bind_some]
theorem part2 (a b c d : Int) : ∃ K, ∀ k, K ≤ k → laws_FnRatios.j2 k a b c d = some true := by
  obtain ⟨K1, h1⟩ := evo (i_isR a b)
  obtain ⟨K2, h2⟩ := evo (i_isR c d)
  obtain ⟨K3, R⟩ := part3 a b
  by_cases g1 : isR a b = true
  · by_cases g2 : isR c d = true
    · obtain ⟨K4, h4⟩ := evo (i_less g1 g2)
      obtain ⟨K5, h5⟩ := evo (i_less g2 g1)
      refine ⟨K1 + K2 + K3 + K4 + K5 + 1, fun k hk => ?_⟩
      obtain ⟨k, rfl⟩ : ∃ m, k = m + 1 := ⟨k - 1, by omega⟩
      simp only [laws_FnRatios.j2, h1 k (by omega), h2 k (by omega), h4 k (by omega), h5 k (by omega), g1, g2, Option.bind_some, if_true]
      have R1 := R k (by omega)
      by_cases c1 : c * b < a * d
      · have c2 : ¬ a * d < c * b := by omega
        simp only [c1, c2, decide_true, decide_false, if_true]
        exact R1
      · simp only [c1, decide_false, Bool.false_eq_true, if_false]
        by_cases c2 : a * d < c * b
        · have ne : (a == c && (b == d)) = false := by
            rw [Bool.and_eq_false_iff]
            by_cases e : a = c
            · right
              refine beq_eq_false_iff_ne.mpr (fun e2 => ?_)
              subst e; subst e2; omega
            · left; exact beq_eq_false_iff_ne.mpr e
          simp only [c2, decide_true, ne]
          exact R1
        · obtain ⟨rfl, rfl⟩ := one_ratio g1 g2 (by omega)
          simp only [c2, decide_false, beq_self_eq_true, Bool.and_self]
          exact R1
    · refine ⟨K1 + K2 + K3 + 1, fun k hk => ?_⟩
      obtain ⟨k, rfl⟩ : ∃ m, k = m + 1 := ⟨k - 1, by omega⟩
      simp only [laws_FnRatios.j2, h1 k (by omega), h2 k (by omega), g1, g2, Option.bind_some, if_true, Bool.false_eq_true, if_false]
      exact R k (by omega)
  · refine ⟨K1 + K2 + K3 + 1, fun k hk => ?_⟩
    obtain ⟨k, rfl⟩ : ∃ m, k = m + 1 := ⟨k - 1, by omega⟩
    simp only [laws_FnRatios.j2, h1 k (by omega), g1, Option.bind_some, Bool.false_eq_true, if_false]
    exact R k (by omega)
theorem part1 (a b c d : Int) : ∃ K, ∀ k, K ≤ k → laws_FnRatios.j1 k (addv a b c d).2.2 false a b c d (addv a b c d).1 (addv a b c d).2.1 = some true := by
  obtain ⟨K1, R⟩ := part2 a b c d
  rcases hA : addv a b c d with ⟨N, D, o⟩
  cases o with
  | true =>
    obtain ⟨h1, h2, h3, _⟩ := add_true hA
    have q := isR_pos h2
    have hb := add_back hA
    obtain ⟨K2, e⟩ := evo (i_add N D (-c) d)
    rw [hb] at e
    refine ⟨K1 + K2 + 1, fun k hk => ?_⟩
    obtain ⟨k, rfl⟩ : ∃ m, k = m + 1 := ⟨k - 1, by omega⟩
    simp only [laws_FnRatios.j1, Bool.false_eq_true, if_false, if_true]
    rw [w64 (n := -c) (by omega) (by omega)]
    simp only [e k (by omega), Option.bind_some, if_true, beq_self_eq_true, Bool.not_true, Bool.or_self, Bool.false_eq_true, if_false]
    exact R k (by omega)
  | false =>
    refine ⟨K1 + 1, fun k hk => ?_⟩
    obtain ⟨k, rfl⟩ : ∃ m, k = m + 1 := ⟨k - 1, by omega⟩
    simp only [laws_FnRatios.j1, Bool.false_eq_true, if_false]
    exact R k (by omega)
theorem part0 (l : List Int) (hl : l.length ≤ 1048576) : ∃ K, ∀ k, K ≤ k → laws_FnRatios.j0 k l false = some true := by
  obtain ⟨a, b, c, d, E⟩ := d_DrawAddRatio l hl
  obtain ⟨K1, E⟩ := evo E
  obtain ⟨K2, R⟩ := part1 a b c d
  obtain ⟨K3, h3⟩ := evo (i_add a b c d)
  obtain ⟨K4, h4⟩ := evo (i_add c d a b)
  obtain ⟨K5, h5⟩ := evo (i_mul a b c d)
  obtain ⟨K6, h6⟩ := evo (i_mul c d a b)
  rw [← add_comm' a b c d] at h4
  rw [← mul_comm' a b c d] at h6
  rcases hA : addv a b c d with ⟨N, D, o⟩
  rcases hM : mulv a b c d with ⟨N2, D2, o2⟩
  rw [hA] at h3 h4 R
  rw [hM] at h5 h6
  obtain ⟨K7, h7⟩ := evo (i_isR N D)
  obtain ⟨K8, h8⟩ := evo (i_isR N2 D2)
  refine ⟨K1 + K2 + K3 + K4 + K5 + K6 + K7 + K8 + 1, fun k hk => ?_⟩
  obtain ⟨k, rfl⟩ : ∃ m, k = m + 1 := ⟨k - 1, by omega⟩
  have R1 := R k (by omega)
  simp only [laws_FnRatios.j0, Bool.false_eq_true, if_false, E k (by omega), h3 k (by omega), h4 k (by omega), h5 k (by omega), h6 k (by omega), h7 k (by omega), h8 k (by omega), Option.bind_some, bne_self_eq_false, beq_self_eq_true, Bool.not_true, Bool.or_self]
  cases o with
  | true =>
    have g1 := (add_true hA).2.2.1
    cases o2 with
    | true =>
      have g2 := mul_true hM
      simp only [g1, g2, if_true, Bool.not_true]
      exact R1
    | false =>
      simp only [g1, if_true, Bool.false_eq_true, if_false]
      exact R1
  | false =>
    cases o2 with
    | true =>
      have g2 := mul_true hM
      simp only [g2, if_true, Bool.not_true, Bool.false_eq_true, if_false]
      exact R1
    | false =>
      simp only [Bool.false_eq_true, if_false]
      exact R1
theorem FnRatios : laws_FnRatios.Pure := by
  intro l _ _ _
  unfold laws_FnRatios.f
  rw [big_le]
  simp only [Option.bind_some]
  by_cases h1 : (l.length : Int) > 1048576
  · exact ⟨0, by simp [h1]⟩
  simp only [h1, decide_false, Bool.false_eq_true, if_false]
  have hl : l.length ≤ 1048576 := by omega
  obtain ⟨n, d, E⟩ := d_DrawMakeRatio l hl
  obtain ⟨K1, E⟩ := evo E
  obtain ⟨K2, R⟩ := part0 l hl
  obtain ⟨K3, h3⟩ := evo (i_mk n d)
  obtain ⟨K4, h4⟩ := evo (s_mk n d)
  rcases hM : mk n d with ⟨N, D, o⟩
  rw [hM] at h3 h4
  obtain ⟨K5, h5⟩ := evo (i_isR N D)
  refine ⟨K1 + K2 + K3 + K4 + K5, ?_⟩
  generalize hK : K1 + K2 + K3 + K4 + K5 = K
  have R1 := R K (by omega)
  simp only [E K (by omega), h3 K (by omega), h4 K (by omega), h5 K (by omega), Option.bind_some, bne_self_eq_false, Bool.false_eq_true, if_false]
  cases o with
  | true =>
    obtain ⟨g1, g2, n0, n1, d0, d1⟩ := mk_true hM
    have p := isR_pos g1
    simp only [g1, if_true]
    have e : wrap64 (N * d) = wrap64 (n * D) := by rw [g2]
    rw [e, bne_self_eq_false]
    exact R1
  | false =>
    simp only [Bool.false_eq_true, if_false]
    exact R1

end Go.Proofs.YtinfglcccomilaaDoor.Pure
