/- The law FnExactNoteText returns true for each note. Conditions: its numbers are ints. -/
import Derived.Test.YtcopehngagejiaaDoorQFnExactNoteTextx2
import Derived.Test.YtcopehngagejiaaDoorLib
namespace Go.Proofs.YtcopehngagejiaaDoor.Pure
open Go.RowKit Go.Proofs.YtcopehngagejiaaDoor.QFnExactNoteText Go.Proofs.YtcopehngagejiaaDoorW.PrintWords Go.Proofs.YtcopehngagejiaaDoorW.PrintLast Go.Proofs.YtcopehngagejiaaDoorW.PrintMore Go.Proofs.YtcopehngagejiaaDoor.Lib 

theorem i_In (a l h : Int) : impl_InRange.f a l h = some (decide (l ≤ a ∧ a ≤ h)) := by
  unfold impl_InRange.f; by_cases e : l ≤ a <;> simp [e]
def hv (s : Int) : Int := rd [0, 2, 4, 5, 7, 9, 11] s
theorem hv_bd {s : Int} (h0 : 0 ≤ s) (h1 : s ≤ 6) : 0 ≤ hv s ∧ hv s ≤ 11 := by
  have : s = 0 ∨ s = 1 ∨ s = 2 ∨ s = 3 ∨ s = 4 ∨ s = 5 ∨ s = 6 := by omega
  rcases this with rfl | rfl | rfl | rfl | rfl | rfl | rfl <;> decide
def pv (s a o : Int) : Int := 12 * (o + 1) + hv s + a
def isN (s a o : Int) : Bool := decide ((0 ≤ s ∧ s ≤ 6) ∧ (-2 ≤ a ∧ a ≤ 2) ∧ (0 ≤ o ∧ o ≤ 8) ∧ (12 ≤ pv s a o ∧ pv s a o ≤ 120))
theorem isN_pos {s a o : Int} (h : isN s a o = true) : (0 ≤ s ∧ s ≤ 6) ∧ (-2 ≤ a ∧ a ≤ 2) ∧ (0 ≤ o ∧ o ≤ 8) ∧ (12 ≤ pv s a o ∧ pv s a o ≤ 120) := by unfold isN at h; exact of_decide_eq_true h
theorem i_pitch {s a o : Int} (h0 : 0 ≤ s) (h1 : s ≤ 6) (a0 : -1000000 ≤ a) (a1 : a ≤ 1000000) (o0 : -1000000 ≤ o) (o1 : o ≤ 1000000) : impl_Note_pitch.f s a o = some (pv s a o) := by
  have hb := hv_bd h0 h1
  unfold impl_Note_pitch.f impl_halves.f
  rw [if_pos h0, if_pos (by omega)]
  simp only [Option.bind_some]
  rw [show rd [0, 2, 4, 5, 7, 9, 11] s = hv s from rfl, w64 (n := o + 1) (by omega) (by omega), w64 (n := 12 * (o + 1)) (by omega) (by omega), w64 (n := 12 * (o + 1) + a) (by omega) (by omega), w64 (by omega) (by omega)]
  unfold pv; congr 1; omega
theorem i_isN (s a o : Int) : impl_IsNote.f s a o = some (isN s a o) := by
  unfold impl_IsNote.f isN
  by_cases h1 : 0 ≤ s ∧ s ≤ 6
  · by_cases h2 : -2 ≤ a ∧ a ≤ 2
    · by_cases h3 : 0 ≤ o ∧ o ≤ 8
      · simp only [i_In, h1, h2, h3, Option.bind_some, if_true, and_self, decide_true, true_and]
        rw [i_pitch h1.1 h1.2 (by omega) (by omega) (by omega) (by omega)]
        rfl
      · simp only [i_In, h1, h2, h3, Option.bind_some, if_true, and_self, decide_true, decide_false, false_and, and_false, Bool.false_eq_true, if_false]
    · simp only [i_In, h1, h2, Option.bind_some, if_true, and_self, decide_true, decide_false, false_and, and_false, Bool.false_eq_true, if_false]
  · simp only [i_In, h1, Option.bind_some, decide_false, false_and, Bool.false_eq_true, if_false]
theorem s_In (a l h : Int) : spec_l1In.f a l h = some (decide (l ≤ a ∧ a ≤ h)) := by
  unfold spec_l1In.f; by_cases e : l ≤ a <;> simp [e]
theorem s_pitch {s a o : Int} (h0 : 0 ≤ s) (h1 : s ≤ 6) (a0 : -1000000 ≤ a) (a1 : a ≤ 1000000) (o0 : -1000000 ≤ o) (o1 : o ≤ 1000000) : spec_l5Pitch.f s a o = some (pv s a o) := by
  have hb := hv_bd h0 h1
  unfold spec_l5Pitch.f spec_l5Base.f
  simp only [Option.bind_some]
  rw [if_pos h0, if_pos (by simp; omega)]
  rw [show rd [0, 2, 4, 5, 7, 9, 11] s = hv s from rfl, w64 (n := o + 1) (by omega) (by omega), w64 (n := 12 * (o + 1)) (by omega) (by omega), w64 (n := 12 * (o + 1) + hv s) (by omega) (by omega), w64 (by omega) (by omega)]
  rfl
theorem s_isN (s a o : Int) : spec_IsNote.f s a o = some (isN s a o) := by
  unfold spec_IsNote.f isN
  by_cases h1 : 0 ≤ s ∧ s ≤ 6
  · by_cases h2 : -2 ≤ a ∧ a ≤ 2
    · by_cases h3 : 0 ≤ o ∧ o ≤ 8
      · simp only [s_In, h1, h2, h3, Option.bind_some, if_true, and_self, decide_true, true_and]
        rw [s_pitch h1.1 h1.2 (by omega) (by omega) (by omega) (by omega)]
        rfl
      · simp only [s_In, h1, h2, h3, Option.bind_some, if_true, and_self, decide_true, decide_false, false_and, and_false, Bool.false_eq_true, if_false]
    · simp only [s_In, h1, h2, Option.bind_some, if_true, and_self, decide_true, decide_false, false_and, and_false, Bool.false_eq_true, if_false]
  · simp only [s_In, h1, Option.bind_some, decide_false, false_and, Bool.false_eq_true, if_false]
def ntested (i : Fin 7) (j : Fin 5) (o : Fin 9) : Bool := decide (spec_NoteText.f 30 (i.1 : Int) ((j.1 : Int) - 2) (o.1 : Int) = impl_NoteText.f (i.1 : Int) ((j.1 : Int) - 2) (o.1 : Int)) && (impl_NoteText.f (i.1 : Int) ((j.1 : Int) - 2) (o.1 : Int)).isSome
set_option maxRecDepth 100000 in
theorem nall_tested : ∀ (i : Fin 7) (j : Fin 5) (o : Fin 9), ntested i j o = true := by decide +kernel
/-- Both texts of a note are the same. -/
theorem ntext (a b c : Int) : spec_NoteText.f 30 a b c = impl_NoteText.f a b c ∧ ∃ t, impl_NoteText.f a b c = some t := by
  by_cases h : isN a b c = true
  · have p := isN_pos h
    have e := nall_tested ⟨a.toNat, by omega⟩ ⟨(b + 2).toNat, by omega⟩ ⟨c.toNat, by omega⟩
    unfold ntested at e
    have e1 : ((a.toNat : Nat) : Int) = a := by omega
    have e2 : (((b + 2).toNat : Nat) : Int) - 2 = b := by omega
    have e3 : ((c.toNat : Nat) : Int) = c := by omega
    simp only [e1, e2, e3, Bool.and_eq_true, decide_eq_true_eq] at e
    exact ⟨e.1, Option.isSome_iff_exists.1 e.2⟩
  · have e1 : spec_NoteText.f 30 a b c = some ⟨#[]⟩ := by
      unfold spec_NoteText.f
      simp only [s_isN, h, Option.bind_some, Bool.false_eq_true, if_false]
    have e2 : impl_NoteText.f a b c = some ⟨#[]⟩ := by
      unfold impl_NoteText.f
      simp only [i_isN, h, Option.bind_some, Bool.false_eq_true, if_false]
    exact ⟨e1.trans e2.symm, _, e2⟩
theorem FnExactNoteText : ∀ (a b c : Int), (Lit.int .i64 a).wf = true → (Lit.int .i64 b).wf = true → (Lit.int .i64 c).wf = true → ∃ k, laws_FnExactNoteText.f k a b c = some true := by
  intro a b c _ _ _
  refine ⟨30, ?_⟩
  obtain ⟨h, t, ht⟩ := ntext a b c
  unfold laws_FnExactNoteText.f laws_toNote.f
  simp only [Option.bind_some, h, ht, if_true]

end Go.Proofs.YtcopehngagejiaaDoor.Pure
