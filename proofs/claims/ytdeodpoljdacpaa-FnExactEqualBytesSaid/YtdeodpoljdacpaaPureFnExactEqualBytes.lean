/- The law FnExactEqualBytes returns true for both slices of bytes. Conditions: each number is a byte; the reach of memory. -/
import Derived.Test.YtdeodpoljdacpaaPFnExactEqualBytesx1
import Derived.Test.YtdeodpoljdacpaaLib
namespace Go.Proofs.Ytdeodpoljdacpaa.Pure
open Go.RowKit Go.Proofs.Ytdeodpoljdacpaa.PFnExactEqualBytes Go.Proofs.YtdeodpoljdacpaaW.PrintWords Go.Proofs.YtdeodpoljdacpaaW.PrintLast Go.Proofs.YtdeodpoljdacpaaW.PrintMore Go.Proofs.Ytdeodpoljdacpaa.Lib

theorem c_B (xs : List Int) (hx : xs.length ≤ 1048576) : Ev (fun k => laws_toByteS.f k xs) xs := by
  refine rounds_of (d := xs.length) (fun k hk => ?_)
  unfold laws_toByteS.f
  rw [if_pos (by omega), if_pos (by omega)]
  exact copy_loop (L := laws_toByteS.l0) (fun k x y i => by simp only [laws_toByteS.l0]) xs (by omega) xs.length 0 _ (by simp) (by omega) (by simp) k hk
theorem e_B (xs ys : List Int) (hx : xs.length ≤ 9000000000000000) : Ev (fun k => laws_eqByteS.f k xs ys) (decide (xs = ys)) := by
  refine rounds_of (d := xs.length) (fun k hk => ?_)
  unfold laws_eqByteS.f
  by_cases e : xs.length = ys.length
  · rw [if_pos (by omega)]
    exact eq_loop (L := laws_eqByteS.l0) (fun k x y i => by simp only [laws_eqByteS.l0]) xs ys e (by omega) xs.length 0 (by omega) (by simp) k hk
  · rw [if_neg (by omega)]
    congr 1; symm; rw [decide_eq_false_iff_not]; intro e'; exact e (by rw [e'])
theorem FnExactEqualBytes : laws_FnExactEqualBytes.Pure := by
  intro a b _ _ _ _ _ _
  unfold laws_FnExactEqualBytes.f
  by_cases h1 : (a.length : Int) > 1048576
  · exact ⟨0, by rw [if_pos h1]⟩
  by_cases h2 : (b.length : Int) > 1048576
  · exact ⟨0, by rw [if_neg h1, if_pos h2]⟩
  obtain ⟨K1, ha⟩ := c_B a (by omega)
  obtain ⟨K2, hb⟩ := c_B b (by omega)
  obtain ⟨K3, ea⟩ := e_B a a (by omega)
  obtain ⟨K4, eb⟩ := e_B b b (by omega)
  refine ⟨K1 + K2 + K3 + K4, ?_⟩
  rw [if_neg h1, if_neg h2]
  simp only [ha (K1 + K2 + K3 + K4) (by omega), hb (K1 + K2 + K3 + K4) (by omega), ea (K1 + K2 + K3 + K4) (by omega), eb (K1 + K2 + K3 + K4) (by omega), Option.bind_some]
  unfold spec_EqualBytes.f impl_EqualBytes.f bytes_Equal.f
  simp

end Go.Proofs.Ytdeodpoljdacpaa.Pure
