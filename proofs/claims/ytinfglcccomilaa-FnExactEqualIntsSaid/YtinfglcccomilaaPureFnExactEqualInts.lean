/- The law FnExactEqualInts returns true for both slices of ints. Conditions: each number is an int; the reach of memory. -/
import Derived.Test.YtinfglcccomilaaPFnExactEqualIntsx1
import Derived.Test.YtinfglcccomilaaLib
namespace Go.Proofs.Ytinfglcccomilaa.Pure
open Go.RowKit Go.Proofs.Ytinfglcccomilaa.PFnExactEqualInts Go.Proofs.YtinfglcccomilaaW.PrintWords Go.Proofs.YtinfglcccomilaaW.PrintLast Go.Proofs.YtinfglcccomilaaW.PrintMore Go.Proofs.Ytinfglcccomilaa.Lib

theorem c_I (xs : List Int) (hx : xs.length ≤ 1048576) : Ev (fun k => laws_toIntS.f k xs) xs := by
  refine rounds_of (d := xs.length) (fun k hk => ?_)
  unfold laws_toIntS.f
  rw [if_pos (by omega), if_pos (by omega)]
  exact copy_loop (L := laws_toIntS.l0) (fun k x y i => by simp only [laws_toIntS.l0]) xs (by omega) xs.length 0 _ (by simp) (by omega) (by simp) k hk
theorem e_I (xs ys : List Int) (hx : xs.length ≤ 9000000000000000) : Ev (fun k => laws_eqIntS.f k xs ys) (decide (xs = ys)) := by
  refine rounds_of (d := xs.length) (fun k hk => ?_)
  unfold laws_eqIntS.f
  by_cases e : xs.length = ys.length
  · rw [if_pos (by omega)]
    exact eq_loop (L := fun k i => laws_eqIntS.l0 k xs ys i) xs ys (fun k i => by simp only [laws_eqIntS.l0]) e (by omega) xs.length 0 (by omega) (by simp) k hk
  · rw [if_neg (by omega)]
    congr 1; symm; rw [decide_eq_false_iff_not]; intro e'; exact e (by rw [e'])
theorem s_EqI (xs ys : List Int) (hx : xs.length ≤ 1048576) : Ev (fun k => spec_EqualInts.f k xs ys) (decide (xs = ys)) := by
  refine rounds_of (d := xs.length) (fun k hk => ?_)
  unfold spec_EqualInts.f
  by_cases e : xs.length = ys.length
  · rw [if_pos (by omega)]
    exact eq_loop (L := fun k i => spec_EqualInts.l0 k xs ys i) xs ys (fun k i => by simp only [spec_EqualInts.l0]) e (by omega) xs.length 0 (by omega) (by simp) k hk
  · rw [if_neg (by omega)]
    congr 1; symm; rw [decide_eq_false_iff_not]; intro e'; exact e (by rw [e'])
theorem i_EqI (xs ys : List Int) (hx : xs.length ≤ 1048576) : Ev (fun k => impl_EqualInts.f k xs ys) (decide (xs = ys)) := by
  refine rounds_of (d := xs.length) (fun k hk => ?_)
  unfold impl_EqualInts.f slices_Equal_int_int.f
  by_cases e : xs.length = ys.length
  · rw [if_pos (by omega)]
    have h := eq_loop (L := fun k i => slices_Equal_int_int.l0 k xs ys (xs.length : Int) i) xs ys (fun k i => ?_) e (by omega) xs.length 0 (by omega) (by simp) k hk
    · rw [show ((0 : Nat) : Int) = 0 from rfl] at h
      rw [h]; rfl
    · simp only [slices_Equal_int_int.l0]
      by_cases h0 : i < (xs.length : Int) <;> by_cases h1 : 0 ≤ i <;> simp [h0, h1]
  · rw [if_neg (by omega)]
    simp only [Option.bind_some]
    congr 1; symm; rw [decide_eq_false_iff_not]; intro e'; exact e (by rw [e'])
theorem FnExactEqualInts : laws_FnExactEqualInts.Pure := by
  intro a b _ _ _ _ _ _
  unfold laws_FnExactEqualInts.f
  by_cases h1 : (a.length : Int) > 1048576
  · exact ⟨0, by rw [if_pos h1]⟩
  by_cases h2 : (b.length : Int) > 1048576
  · exact ⟨0, by rw [if_neg h1, if_pos h2]⟩
  obtain ⟨K1, ha⟩ := evo (c_I a (by omega))
  obtain ⟨K2, hb⟩ := evo (c_I b (by omega))
  obtain ⟨K3, ea⟩ := evo (e_I a a (by omega))
  obtain ⟨K4, eb⟩ := evo (e_I b b (by omega))
  obtain ⟨K5, hs⟩ := evo (s_EqI a b (by omega))
  obtain ⟨K6, hi⟩ := evo (i_EqI a b (by omega))
  refine ⟨K1 + K2 + K3 + K4 + K5 + K6, ?_⟩
  generalize hK : K1 + K2 + K3 + K4 + K5 + K6 = K
  rw [if_neg h1, if_neg h2]
  simp only [ha K (by omega), hb K (by omega), ea K (by omega), eb K (by omega), hs K (by omega), hi K (by omega), Option.bind_some]
  simp

end Go.Proofs.Ytinfglcccomilaa.Pure
