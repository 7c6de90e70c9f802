/- The law FnExactMoveNote returns true for each note and each interval. Conditions: their numbers are ints. -/
import Derived.Test.YtcopehngagejiaaQFnExactMoveNotex4
import Derived.Test.YtcopehngagejiaaLib
namespace Go.Proofs.Ytcopehngagejiaa.Pure
open Go.RowKit Go.Proofs.Ytcopehngagejiaa.QFnExactMoveNote Go.Proofs.YtcopehngagejiaaW.PrintWords Go.Proofs.YtcopehngagejiaaW.PrintLast Go.Proofs.YtcopehngagejiaaW.PrintMore Go.Proofs.Ytcopehngagejiaa.Lib 

set_option linter.unusedSimpArgs false
theorem i_In (a l h : Int) : impl_InRange.f a l h = some (decide (l ≤ a ∧ a ≤ h)) := by
  unfold impl_InRange.f; by_cases e : l ≤ a <;> simp [e]
def hv (s : Int) : Int := rd [0, 2, 4, 5, 7, 9, 11] s
theorem hv_bd {s : Int} (h0 : 0 ≤ s) (h1 : s ≤ 6) : 0 ≤ hv s ∧ hv s ≤ 11 := by
  have : s = 0 ∨ s = 1 ∨ s = 2 ∨ s = 3 ∨ s = 4 ∨ s = 5 ∨ s = 6 := by omega
  rcases this with rfl | rfl | rfl | rfl | rfl | rfl | rfl <;> decide
def pv (s a o : Int) : Int := 12 * (o + 1) + hv s + a
def isN (s a o : Int) : Bool := decide ((0 ≤ s ∧ s ≤ 6) ∧ (-2 ≤ a ∧ a ≤ 2) ∧ (0 ≤ o ∧ o ≤ 8) ∧ (12 ≤ pv s a o ∧ pv s a o ≤ 120))
theorem isN_pos {s a o : Int} (h : isN s a o = true) : (0 ≤ s ∧ s ≤ 6) ∧ (-2 ≤ a ∧ a ≤ 2) ∧ (0 ≤ o ∧ o ≤ 8) ∧ (12 ≤ pv s a o ∧ pv s a o ≤ 120) := by unfold isN at h; exact of_decide_eq_true h
theorem i_pitch {s a o : Int} (h0 : 0 ≤ s) (h1 : s ≤ 6) (a0 : -1000000 ≤ a) (a1 : a ≤ 1000000) (o0 : -1000000 ≤ o) (o1 : o ≤ 1000000) : impl_Note_pitch.f s a o = some (pv s a o) := by
  have hb := hv_bd h0 h1
  unfold impl_Note_pitch.f impl_halves.f
  rw [if_pos h0, if_pos (by omega)]
  simp only [Option.bind_some]
  rw [show rd [0, 2, 4, 5, 7, 9, 11] s = hv s from rfl, w64 (n := o + 1) (by omega) (by omega), w64 (n := 12 * (o + 1)) (by omega) (by omega), w64 (n := 12 * (o + 1) + a) (by omega) (by omega), w64 (by omega) (by omega)]
  unfold pv; congr 1; omega
theorem i_isN (s a o : Int) : impl_IsNote.f s a o = some (isN s a o) := by
  unfold impl_IsNote.f isN
  by_cases h1 : 0 ≤ s ∧ s ≤ 6
  · by_cases h2 : -2 ≤ a ∧ a ≤ 2
    · by_cases h3 : 0 ≤ o ∧ o ≤ 8
      · simp only [i_In, h1, h2, h3, Option.bind_some, if_true, and_self, decide_true, true_and]
        rw [i_pitch h1.1 h1.2 (by omega) (by omega) (by omega) (by omega)]
        rfl
      · simp only [i_In, h1, h2, h3, Option.bind_some, if_true, and_self, decide_true, decide_false, false_and, and_false, Bool.false_eq_true, if_false]
    · simp only [i_In, h1, h2, Option.bind_some, if_true, and_self, decide_true, decide_false, false_and, and_false, Bool.false_eq_true, if_false]
  · simp only [i_In, h1, Option.bind_some, decide_false, false_and, Bool.false_eq_true, if_false]
def mvn (a b c st h : Int) : Int × Int × Int × Bool := if isN a b c = true ∧ ((-1000 ≤ st ∧ st ≤ 1000) ∧ (-1000 ≤ h ∧ h ≤ 1000)) ∧ 0 ≤ 7 * c + a + st then (if isN ((7 * c + a + st) % 7) (pv a b c + h - pv ((7 * c + a + st) % 7) 0 ((7 * c + a + st) / 7)) ((7 * c + a + st) / 7) = true then ((7 * c + a + st) % 7, pv a b c + h - pv ((7 * c + a + st) % 7) 0 ((7 * c + a + st) / 7), (7 * c + a + st) / 7, true) else (0, 0, 0, false)) else (0, 0, 0, false)
theorem i_mvn (a b c st h : Int) : Ev (fun k => impl_MoveNote.f k a b c st h) (mvn a b c st h) := by
  refine rounds_of (d := 0) (fun k hk => ?_)
  obtain ⟨k, rfl⟩ : ∃ m, k = m + 1 := ⟨k - 1, by omega⟩
  unfold impl_MoveNote.f impl_isSmall.f mvn
  simp only [Option.bind_some, i_isN, i_In]
  by_cases h0 : isN a b c = true
  · by_cases h1 : -1000 ≤ st ∧ st ≤ 1000
    · by_cases h2 : -1000 ≤ h ∧ h ≤ 1000
      · have p := isN_pos h0
        simp only [h0, h1, h2, if_true, and_self, decide_true, Option.bind_some, Bool.not_true, impl_MoveNote.j0, Bool.false_eq_true, if_false, true_and]
        rw [w64 (n := 7 * c) (by omega) (by omega), w64 (n := 7 * c + a) (by omega) (by omega), w64 (n := 7 * c + a + st) (by omega) (by omega)]
        by_cases h3 : 7 * c + a + st < 0
        · rw [if_pos h3, if_neg (by omega)]
        · rw [if_neg h3, if_pos (by omega)]
          have hm0 : 0 ≤ (7 * c + a + st) % 7 := by omega
          have hm1 : (7 * c + a + st) % 7 ≤ 6 := by omega
          have hd0 : 0 ≤ (7 * c + a + st) / 7 := by omega
          have hd1 : (7 * c + a + st) / 7 ≤ 1000 := by omega
          have hq := hv_bd hm0 hm1
          rw [Int.tmod_eq_emod_of_nonneg (by omega), Int.tdiv_eq_ediv_of_nonneg (by omega), w64 (n := (7 * c + a + st) / 7) (by omega) (by omega)]
          generalize (7 * c + a + st) % 7 = m at *
          generalize (7 * c + a + st) / 7 = q at *
          have hpv : pv m 0 q = 12 * (q + 1) + hv m + 0 := rfl
          simp only [i_pitch p.1.1 p.1.2 (show -1000000 ≤ b by omega) (by omega) (show -1000000 ≤ c by omega) (by omega), i_pitch hm0 hm1 (show -1000000 ≤ (0 : Int) by omega) (by omega) (show -1000000 ≤ q by omega) (by omega), Option.bind_some]
          rw [w64 (n := pv a b c + h) (by omega) (by omega), w64 (by omega) (by omega)]
          rw [i_isN, Option.bind_some]; split <;> rfl
      · simp only [h0, h1, h2, if_true, and_self, decide_true, decide_false, Option.bind_some, Bool.not_false, impl_MoveNote.j0, Bool.false_eq_true, if_false, and_false, false_and]
    · simp only [h0, h1, if_true, and_self, decide_true, decide_false, Option.bind_some, Bool.not_false, impl_MoveNote.j0, Bool.false_eq_true, if_false, and_false, false_and]
  · simp only [h0, Bool.false_eq_true, if_false, impl_MoveNote.j0, if_true, false_and]
theorem s_In (a l h : Int) : spec_l1In.f a l h = some (decide (l ≤ a ∧ a ≤ h)) := by
  unfold spec_l1In.f; by_cases e : l ≤ a <;> simp [e]
theorem s_pitch {s a o : Int} (h0 : 0 ≤ s) (h1 : s ≤ 6) (a0 : -1000000 ≤ a) (a1 : a ≤ 1000000) (o0 : -1000000 ≤ o) (o1 : o ≤ 1000000) : spec_l5Pitch.f s a o = some (pv s a o) := by
  have hb := hv_bd h0 h1
  unfold spec_l5Pitch.f spec_l5Base.f
  simp only [Option.bind_some]
  rw [if_pos h0, if_pos (by simp; omega)]
  rw [show rd [0, 2, 4, 5, 7, 9, 11] s = hv s from rfl, w64 (n := o + 1) (by omega) (by omega), w64 (n := 12 * (o + 1)) (by omega) (by omega), w64 (n := 12 * (o + 1) + hv s) (by omega) (by omega), w64 (by omega) (by omega)]
  rfl
theorem s_isN (s a o : Int) : spec_IsNote.f s a o = some (isN s a o) := by
  unfold spec_IsNote.f isN
  by_cases h1 : 0 ≤ s ∧ s ≤ 6
  · by_cases h2 : -2 ≤ a ∧ a ≤ 2
    · by_cases h3 : 0 ≤ o ∧ o ≤ 8
      · simp only [s_In, h1, h2, h3, Option.bind_some, if_true, and_self, decide_true, true_and]
        rw [s_pitch h1.1 h1.2 (by omega) (by omega) (by omega) (by omega)]
        rfl
      · simp only [s_In, h1, h2, h3, Option.bind_some, if_true, and_self, decide_true, decide_false, false_and, and_false, Bool.false_eq_true, if_false]
    · simp only [s_In, h1, h2, Option.bind_some, if_true, and_self, decide_true, decide_false, false_and, and_false, Bool.false_eq_true, if_false]
  · simp only [s_In, h1, Option.bind_some, decide_false, false_and, Bool.false_eq_true, if_false]
theorem s_mvn (a b c st h : Int) : Ev (fun k => spec_MoveNote.f k a b c st h) (mvn a b c st h) := by
  refine rounds_of (d := 0) (fun k hk => ?_)
  obtain ⟨k, rfl⟩ : ∃ m, k = m + 1 := ⟨k - 1, by omega⟩
  unfold spec_MoveNote.f mvn
  simp only [Option.bind_some, s_isN, s_In]
  by_cases h0 : isN a b c = true
  · by_cases h1 : -1000 ≤ st ∧ st ≤ 1000
    · by_cases h2 : -1000 ≤ h ∧ h ≤ 1000
      · have p := isN_pos h0
        simp only [h0, h1, h2, if_true, and_self, decide_true, Option.bind_some, Bool.not_true, spec_MoveNote.j0, Bool.false_eq_true, if_false, true_and]
        rw [w64 (n := 7 * c) (by omega) (by omega), w64 (n := 7 * c + a) (by omega) (by omega), w64 (n := 7 * c + a + st) (by omega) (by omega)]
        by_cases h3 : 7 * c + a + st < 0
        · rw [if_pos h3, if_neg (by omega)]
        · rw [if_neg h3, if_pos (by omega)]
          have hm0 : 0 ≤ (7 * c + a + st) % 7 := by omega
          have hm1 : (7 * c + a + st) % 7 ≤ 6 := by omega
          have hd0 : 0 ≤ (7 * c + a + st) / 7 := by omega
          have hd1 : (7 * c + a + st) / 7 ≤ 1000 := by omega
          have hq := hv_bd hm0 hm1
          rw [Int.tmod_eq_emod_of_nonneg (by omega), Int.tdiv_eq_ediv_of_nonneg (by omega), w64 (n := (7 * c + a + st) / 7) (by omega) (by omega)]
          generalize (7 * c + a + st) % 7 = m at *
          generalize (7 * c + a + st) / 7 = q at *
          have hpv : pv m 0 q = 12 * (q + 1) + hv m + 0 := rfl
          simp only [s_pitch p.1.1 p.1.2 (show -1000000 ≤ b by omega) (by omega) (show -1000000 ≤ c by omega) (by omega), s_pitch hm0 hm1 (show -1000000 ≤ (0 : Int) by omega) (by omega) (show -1000000 ≤ q by omega) (by omega), Option.bind_some]
          rw [w64 (n := pv a b c + h) (by omega) (by omega), w64 (by omega) (by omega)]
          rw [s_isN, Option.bind_some]; split <;> rfl
      · simp only [h0, h1, h2, if_true, and_self, decide_true, decide_false, Option.bind_some, Bool.not_false, spec_MoveNote.j0, Bool.false_eq_true, if_false, and_false, false_and]
    · simp only [h0, h1, if_true, and_self, decide_true, decide_false, Option.bind_some, Bool.not_false, spec_MoveNote.j0, Bool.false_eq_true, if_false, and_false, false_and]
  · simp only [h0, Bool.false_eq_true, if_false, spec_MoveNote.j0, if_true, false_and]
theorem FnExactMoveNote : ∀ (a b c d e : Int), (Lit.int .i64 a).wf = true → (Lit.int .i64 b).wf = true → (Lit.int .i64 c).wf = true → (Lit.int .i64 d).wf = true → (Lit.int .i64 e).wf = true → ∃ k, laws_FnExactMoveNote.f k a b c d e = some true := by
  intro a b c d e _ _ _ _ _
  obtain ⟨K1, h1⟩ := evo (s_mvn a b c d e)
  obtain ⟨K2, h2⟩ := evo (i_mvn a b c d e)
  refine ⟨K1 + K2, ?_⟩
  generalize hK : K1 + K2 = K
  unfold laws_FnExactMoveNote.f laws_toNote.f laws_toInterval.f laws_eqNote.f
  simp only [Option.bind_some, h1 K (by omega), h2 K (by omega)]
  simp

end Go.Proofs.Ytcopehngagejiaa.Pure
