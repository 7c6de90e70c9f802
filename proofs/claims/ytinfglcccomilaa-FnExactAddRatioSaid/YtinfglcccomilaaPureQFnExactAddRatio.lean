/- The law FnExactAddRatio returns true for both ratios. Conditions: all numbers are ints. -/
import Derived.Test.YtinfglcccomilaaQFnExactAddRatiox4
import Derived.Test.YtinfglcccomilaaLib
namespace Go.Proofs.Ytinfglcccomilaa.Pure
open Go.RowKit Go.Proofs.Ytinfglcccomilaa.QFnExactAddRatio Go.Proofs.YtinfglcccomilaaW.PrintWords Go.Proofs.YtinfglcccomilaaW.PrintLast Go.Proofs.YtinfglcccomilaaW.PrintMore Go.Proofs.Ytinfglcccomilaa.Lib 

theorem s_In (a l h : Int) : spec_l1In.f a l h = some (decide (l ≤ a ∧ a ≤ h)) := by
  unfold spec_l1In.f; by_cases e : l ≤ a <;> simp [e]
theorem i_In (a l h : Int) : impl_InRange.f a l h = some (decide (l ≤ a ∧ a ≤ h)) := by
  unfold impl_InRange.f; by_cases e : l ≤ a <;> simp [e]
theorem s_gcd {a b : Int} (ha : 0 ≤ a) (hb : 0 ≤ b) : Ev (fun k => spec_l4Gcd.f k a b) (Int.gcd a b : Int) := by
  refine rounds_of (d := b.toNat) (fun k hk => ?_)
  unfold spec_l4Gcd.f
  exact gcd_loop (L := spec_l4Gcd.l0) (fun k a b => by simp only [spec_l4Gcd.l0]) b.toNat a b ha hb (Nat.le_refl _) k hk
theorem i_gcd {a b : Int} (ha : 0 ≤ a) (hb : 0 ≤ b) : Ev (fun k => impl_divisor.f k a b) (Int.gcd a b : Int) := by
  refine rounds_of (d := b.toNat) (fun k hk => ?_)
  unfold impl_divisor.f
  exact gcd_loop (L := impl_divisor.l0) (fun k a b => by simp only [impl_divisor.l0]) b.toNat a b ha hb (Nat.le_refl _) k hk
theorem s_abs {n : Int} (h1 : -9223372036854775808 < n) (h2 : n ≤ 9223372036854775807) : spec_l4Abs.f n = some (n.natAbs : Int) := by
  unfold spec_l4Abs.f; rw [w64 (by omega) (by omega)]; split <;> (congr 1; omega)
theorem isR_out {n d : Int} (h : ¬ ((1 ≤ d ∧ d ≤ 1000000) ∧ (-1000000000 ≤ n ∧ n ≤ 1000000000))) : isR n d = false := by
  unfold isR; rw [decide_eq_false_iff_not]; intro e; exact h ⟨e.1, e.2.1⟩
theorem isR_in {n d : Int} (h : (1 ≤ d ∧ d ≤ 1000000) ∧ (-1000000000 ≤ n ∧ n ≤ 1000000000)) : isR n d = ((Int.gcd n d : Int) == 1) := by
  unfold isR
  rw [Bool.eq_iff_iff, decide_eq_true_eq, beq_iff_eq]
  constructor
  · intro e; rw [e.2.2]; rfl
  · intro e; exact ⟨h.1, h.2, by omega⟩
theorem s_isR (n d : Int) : Ev (fun k => spec_IsRatio.f k n d) (isR n d) := by
  by_cases h1 : 1 ≤ d ∧ d ≤ 1000000
  · by_cases h2 : -1000000000 ≤ n ∧ n ≤ 1000000000
    · obtain ⟨K, hK⟩ := s_gcd (a := (n.natAbs : Int)) (b := d) (by omega) (by omega)
      refine ⟨K, fun k hk => ?_⟩
      unfold spec_IsRatio.f
      simp only [s_In, h1, h2, s_abs (show -9223372036854775808 < n by omega) (by omega), hK k hk, Option.bind_some, if_true, and_self, decide_true]
      rw [gcd_natAbs, isR_in ⟨h1, h2⟩]
    · refine ⟨0, fun k _ => ?_⟩
      unfold spec_IsRatio.f
      rw [isR_out (fun e => h2 e.2)]
      simp only [s_In, h1, h2, Option.bind_some, if_true, and_self, decide_true, decide_false, Bool.false_eq_true, if_false]
  · refine ⟨0, fun k _ => ?_⟩
    unfold spec_IsRatio.f
    rw [isR_out (fun e => h1 e.1)]
    simp only [s_In, h1, Option.bind_some, decide_false, Bool.false_eq_true, if_false]
theorem i_isR (n d : Int) : Ev (fun k => impl_IsRatio.f k n d) (isR n d) := by
  by_cases h1 : 1 ≤ d ∧ d ≤ 1000000
  · by_cases h2 : -1000000000 ≤ n ∧ n ≤ 1000000000
    · obtain ⟨K, hK⟩ := i_gcd (a := (n.natAbs : Int)) (b := d) (by omega) (by omega)
      refine ⟨K, fun k hk => ?_⟩
      unfold impl_IsRatio.f
      simp only [i_In, h1, h2, mx_abs (show -9223372036854775808 < n by omega) (show n ≤ 9223372036854775807 by omega), hK k hk, Option.bind_some, if_true, and_self, decide_true]
      rw [gcd_natAbs, isR_in ⟨h1, h2⟩]
    · refine ⟨0, fun k _ => ?_⟩
      unfold impl_IsRatio.f
      rw [isR_out (fun e => h2 e.2)]
      simp only [i_In, h1, h2, Option.bind_some, if_true, and_self, decide_true, decide_false, Bool.false_eq_true, if_false]
  · refine ⟨0, fun k _ => ?_⟩
    unfold impl_IsRatio.f
    rw [isR_out (fun e => h1 e.1)]
    simp only [i_In, h1, Option.bind_some, decide_false, Bool.false_eq_true, if_false]
theorem gcd_ne {n d : Int} (hd : 0 < d) : (Int.gcd n d : Int) ≠ 0 := by
  have := Int.gcd_pos_of_ne_zero_right n (show d ≠ 0 by omega); omega
theorem i_low {n d : Int} (hn1 : -9223372036854775808 < n) (hn2 : n ≤ 9223372036854775807) (hd : 0 < d) (hd2 : d ≤ 9223372036854775807) : Ev (fun k => impl_lowest.f k n d) (low n d) := by
  obtain ⟨K, hK⟩ := evo (i_gcd (a := (n.natAbs : Int)) (b := d) (by omega) (by omega))
  obtain ⟨K2, hK2⟩ := evo (i_isR (n.tdiv (Int.gcd n d)) (d.tdiv (Int.gcd n d)))
  refine ⟨K + K2 + 1, fun k hk => ?_⟩
  obtain ⟨k, rfl⟩ : ∃ m, k = m + 1 := ⟨k - 1, by omega⟩
  have b1 := tdiv_bd n (Int.gcd n d)
  have b2 := tdiv_bd d (Int.gcd n d)
  show impl_lowest.f (k + 1) n d = _
  unfold impl_lowest.f
  rw [if_neg (by omega)]
  simp only [impl_lowest.j0]
  rw [if_neg (by omega), mx_abs hn1 hn2, hK k (by omega)]
  simp only [Option.bind_some, gcd_natAbs]
  rw [if_neg (gcd_ne hd), w64 (by omega) (by omega), w64 (by omega) (by omega), hK2 k (by omega)]
  simp only [Option.bind_some]
  unfold low; split <;> rfl
theorem isR_pos {n d : Int} (h : isR n d = true) : (1 ≤ d ∧ d ≤ 1000000) ∧ (-1000000000 ≤ n ∧ n ≤ 1000000000) ∧ Int.gcd n d = 1 := by
  unfold isR at h; exact of_decide_eq_true h
theorem mul_bd {x y a b : Int} (hx : -a ≤ x ∧ x ≤ a) (hy : -b ≤ y ∧ y ≤ b) : -(a * b) ≤ x * y ∧ x * y ≤ a * b := by
  have h1 : x.natAbs ≤ a.natAbs := by omega
  have h2 : y.natAbs ≤ b.natAbs := by omega
  have h3 : (x * y).natAbs ≤ a.natAbs * b.natAbs := by rw [Int.natAbs_mul]; exact Nat.mul_le_mul h1 h2
  have h4 : (a * b).natAbs = a.natAbs * b.natAbs := Int.natAbs_mul a b
  have h5 : 0 ≤ a * b := Int.mul_nonneg (by omega) (by omega)
  omega
def addv (a b c d : Int) : Int × Int × Bool := if isR a b = true ∧ isR c d = true then low (a * d + c * b) (b * d) else (0, 0, false)
theorem i_add (a b c d : Int) : Ev (fun k => impl_AddRatio.f k a b c d) (addv a b c d) := by
  obtain ⟨K1, h1⟩ := evo (i_isR a b)
  obtain ⟨K2, h2⟩ := evo (i_isR c d)
  unfold addv
  by_cases g1 : isR a b = true
  · by_cases g2 : isR c d = true
    · obtain ⟨p1, p2, _⟩ := isR_pos g1
      obtain ⟨q1, q2, _⟩ := isR_pos g2
      have m1 := mul_bd (x := a) (y := d) (a := 1000000000) (b := 1000000) (by omega) (by omega)
      have m2 := mul_bd (x := c) (y := b) (a := 1000000000) (b := 1000000) (by omega) (by omega)
      have m3 := mul_bd (x := b) (y := d) (a := 1000000) (b := 1000000) (by omega) (by omega)
      have m4 : 0 < b * d := Int.mul_pos (by omega) (by omega)
      obtain ⟨K3, h3⟩ := evo (i_low (n := a * d + c * b) (d := b * d) (by omega) (by omega) m4 (by omega))
      refine ⟨K1 + K2 + K3, fun k hk => ?_⟩
      show impl_AddRatio.f k a b c d = _
      unfold impl_AddRatio.f
      simp only [h1 k (by omega), h2 k (by omega), g1, g2, Option.bind_some, if_true, and_self]
      rw [w64 (n := a * d) (by omega) (by omega), w64 (n := c * b) (by omega) (by omega), w64 (n := a * d + c * b) (by omega) (by omega), w64 (n := b * d) (by omega) (by omega), h3 k (by omega)]
      rfl
    · refine ⟨K1 + K2, fun k hk => ?_⟩
      show impl_AddRatio.f k a b c d = _
      unfold impl_AddRatio.f
      simp only [h1 k (by omega), h2 k (by omega), g1, g2, Option.bind_some, if_true, and_false, if_false, Bool.false_eq_true]
  · refine ⟨K1, fun k hk => ?_⟩
    show impl_AddRatio.f k a b c d = _
    unfold impl_AddRatio.f
    simp only [h1 k (by omega), g1, Option.bind_some, false_and, if_false, Bool.false_eq_true]
theorem low_scale {g n d : Int} (hg : 0 < g) (hd : 0 < d) : low (g * n) (g * d) = low n d := by
  obtain ⟨h1, h2, h3, _, _⟩ := low_spec (n := n) hd
  have h := low_unique (n := g * n) (d := g * d) (Int.mul_pos hg hd) h1 h2 (by rw [Int.mul_left_comm, h3, ← Int.mul_assoc])
  unfold low
  rw [h.1, h.2]
theorem gcd_pos' {b d : Int} (hb : 0 < b) : 0 < (Int.gcd b d : Int) := by
  have := Int.gcd_pos_of_ne_zero_left d (show b ≠ 0 by omega); omega
theorem s_add (a b c d : Int) : Ev (fun k => spec_AddRatio.f k a b c d) (addv a b c d) := by
  obtain ⟨K1, h1⟩ := evo (s_isR a b)
  obtain ⟨K2, h2⟩ := evo (s_isR c d)
  unfold addv
  by_cases g1 : isR a b = true
  · by_cases g2 : isR c d = true
    · obtain ⟨p1, p2, _⟩ := isR_pos g1
      obtain ⟨q1, q2, _⟩ := isR_pos g2
      obtain ⟨K3, h3⟩ := evo (s_gcd (a := b) (b := d) (by omega) (by omega))
      have gp := gcd_pos' (b := b) (d := d) (by omega)
      have tb := tdiv_bd b (Int.gcd b d)
      have td := tdiv_bd d (Int.gcd b d)
      obtain ⟨s1, _, _, s4, s5⟩ := low_spec (n := b) (d := d) (by omega)
      have s6 : 0 < b.tdiv (Int.gcd b d) := by
        have : 0 < (Int.gcd b d : Int) * b.tdiv (Int.gcd b d) := by rw [← s4]; omega
        exact Int.pos_of_mul_pos_right this gp
      have m1 := mul_bd (x := a) (y := d.tdiv (Int.gcd b d)) (a := 1000000000) (b := 1000000) (by omega) (by omega)
      have m2 := mul_bd (x := c) (y := b.tdiv (Int.gcd b d)) (a := 1000000000) (b := 1000000) (by omega) (by omega)
      have m3 := mul_bd (x := b.tdiv (Int.gcd b d)) (y := d) (a := 1000000) (b := 1000000) (by omega) (by omega)
      have m4 : 0 < b.tdiv (Int.gcd b d) * d := Int.mul_pos s6 (by omega)
      generalize hn : a * d.tdiv (Int.gcd b d) + c * b.tdiv (Int.gcd b d) = n at *
      generalize hd : b.tdiv (Int.gcd b d) * d = e at *
      have hs : low (a * d + c * b) (b * d) = low n e := by
        rw [← low_scale gp m4]
        congr 1
        · rw [← hn, Int.mul_add, Int.mul_left_comm, ← s5, Int.mul_left_comm (Int.gcd b d : Int) c, ← s4]
        · rw [← hd, ← Int.mul_assoc, ← s4]
      obtain ⟨K4, h4⟩ := evo (s_gcd (a := (n.natAbs : Int)) (b := e) (by omega) (by omega))
      obtain ⟨K5, h5⟩ := evo (s_isR (n.tdiv (Int.gcd n e)) (e.tdiv (Int.gcd n e)))
      have tn := tdiv_bd n (Int.gcd n e)
      have te := tdiv_bd e (Int.gcd n e)
      refine ⟨K1 + K2 + K3 + K4 + K5 + 1, fun k hk => ?_⟩
      obtain ⟨k, rfl⟩ : ∃ m, k = m + 1 := ⟨k - 1, by omega⟩
      show spec_AddRatio.f (k + 1) a b c d = _
      unfold spec_AddRatio.f
      simp only [h1 (k + 1) (by omega), h2 (k + 1) (by omega), g1, g2, Option.bind_some, if_true, and_self, Bool.not_true, spec_AddRatio.j0, Bool.false_eq_true, if_false, h3 k (by omega)]
      rw [if_neg (by omega), w64 (n := d.tdiv (Int.gcd b d)) (by omega) (by omega), w64 (n := b.tdiv (Int.gcd b d)) (by omega) (by omega), w64 (n := a * d.tdiv (Int.gcd b d)) (by omega) (by omega), w64 (n := c * b.tdiv (Int.gcd b d)) (by omega) (by omega), hn, hd, w64 (n := n) (by omega) (by omega), w64 (n := e) (by omega) (by omega), s_abs (by omega) (by omega)]
      simp only [Option.bind_some, h4 k (by omega), gcd_natAbs]
      rw [if_neg (gcd_ne m4), w64 (by omega) (by omega), w64 (by omega) (by omega), h5 k (by omega), hs]
      simp only [Option.bind_some]
      unfold low; split <;> rfl
    · refine ⟨K1 + K2 + 1, fun k hk => ?_⟩
      obtain ⟨k, rfl⟩ : ∃ m, k = m + 1 := ⟨k - 1, by omega⟩
      show spec_AddRatio.f (k + 1) a b c d = _
      unfold spec_AddRatio.f
      simp only [h1 (k + 1) (by omega), h2 (k + 1) (by omega), g1, g2, Option.bind_some, if_true, and_false, if_false, Bool.false_eq_true, Bool.not_false, spec_AddRatio.j0]
  · refine ⟨K1 + 1, fun k hk => ?_⟩
    obtain ⟨k, rfl⟩ : ∃ m, k = m + 1 := ⟨k - 1, by omega⟩
    show spec_AddRatio.f (k + 1) a b c d = _
    unfold spec_AddRatio.f
    simp only [h1 (k + 1) (by omega), g1, Option.bind_some, false_and, if_false, if_true, Bool.false_eq_true, spec_AddRatio.j0]
theorem FnExactAddRatio : ∀ (a b c d : Int), (Lit.int .i64 a).wf = true → (Lit.int .i64 b).wf = true → (Lit.int .i64 c).wf = true → (Lit.int .i64 d).wf = true → ∃ k, laws_FnExactAddRatio.f k a b c d = some true := by
  intro a b c d _ _ _ _
  obtain ⟨K1, h1⟩ := evo (s_add a b c d)
  obtain ⟨K2, h2⟩ := evo (i_add a b c d)
  refine ⟨K1 + K2, ?_⟩
  generalize hK : K1 + K2 = K
  unfold laws_FnExactAddRatio.f laws_toRatio.f laws_eqRatio.f
  simp only [Option.bind_some, h1 K (by omega), h2 K (by omega)]
  simp

end Go.Proofs.Ytinfglcccomilaa.Pure
