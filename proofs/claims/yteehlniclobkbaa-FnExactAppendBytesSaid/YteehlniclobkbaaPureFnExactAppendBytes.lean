/- The law FnExactAppendBytes returns true for both slices of bytes. Conditions: each number is a byte; the reach of memory. -/
import Derived.Test.YteehlniclobkbaaPFnExactAppendBytesx2
import Derived.Test.YteehlniclobkbaaLib
import Derived.Test.YteehlniclobkbaaVar
namespace Go.Proofs.Yteehlniclobkbaa.Pure
open Go.RowKit Go.Proofs.Yteehlniclobkbaa.PFnExactAppendBytes Go.Proofs.YteehlniclobkbaaW.PrintWords Go.Proofs.YteehlniclobkbaaW.PrintLast Go.Proofs.YteehlniclobkbaaW.PrintMore Go.Proofs.Yteehlniclobkbaa.Lib Go.Proofs.Yteehlniclobkbaa.Var

theorem s_In (a l h : Int) : spec_l1In.f a l h = some (decide (l ≤ a ∧ a ≤ h)) := by
  unfold spec_l1In.f; by_cases e : l ≤ a <;> simp [e]
theorem i_In (a l h : Int) : impl_InRange.f a l h = some (decide (l ≤ a ∧ a ≤ h)) := by
  unfold impl_InRange.f; by_cases e : l ≤ a <;> simp [e]
theorem s_app (b : List Int) (n : Int) (hb : b.length ≤ 100000000000) : Ev (fun k => spec_AppendUvarint.f k b n) (appU b n) := by
  unfold appU
  by_cases h : 0 ≤ n ∧ n ≤ 1000000000000
  · rw [if_pos h]
    refine rounds_of (d := 5) (fun k hk => ?_)
    unfold spec_AppendUvarint.f
    simp only [s_In, h, Option.bind_some, and_self, decide_true, if_true, List.nil_append, List.length_nil]
    rw [if_pos (by omega)]
    have e := uv_loop (L := spec_AppendUvarint.l0) (fun k n o hn ho => ?_) 5 n.toNat b (by omega) (by omega) (by omega) k hk
    · rw [Int.toNat_of_nonneg h.1] at e; exact e
    · simp only [spec_AppendUvarint.l0]
      rw [if_pos ho, and127 (by omega) (by omega)]
      by_cases g : 128 ≤ n
      · rw [if_pos (by omega), if_pos g, or128 (by omega) (by omega), show (n : Int) / 128 = ((n / 128 : Nat) : Int) by omega, show ((n : Int) % 128 + 128) % 256 = ((n % 128 + 128 : Nat) : Int) by omega]
      · rw [if_neg (by omega), if_neg g, if_pos ho]
        congr 3; omega
  · rw [if_neg h]
    refine ⟨0, fun k _ => ?_⟩
    unfold spec_AppendUvarint.f
    simp only [s_In, h, Option.bind_some, decide_false, Bool.false_eq_true, if_false, List.nil_append, List.length_nil]
    rw [if_pos (by omega)]
theorem i_app (b : List Int) (n : Int) (hb : b.length ≤ 100000000000) : Ev (fun k => impl_AppendUvarint.f k b n) (appU b n) := by
  have hc : impl_clone_byte.f b = some b := by
    unfold impl_clone_byte.f; simp only [Option.bind_some, List.nil_append, List.length_nil]; rw [if_pos (by omega)]
  unfold appU
  by_cases h : 0 ≤ n ∧ n ≤ 1000000000000
  · rw [if_pos h]
    refine rounds_of (d := 5) (fun k hk => ?_)
    unfold impl_AppendUvarint.f
    rw [hc]
    simp only [i_In, h, Option.bind_some, and_self, decide_true, if_true]
    have e := uv_loop (L := impl_AppendUvarint.l0) (fun k n o hn ho => ?_) 5 n.toNat b (by omega) (by omega) (by omega) k hk
    · rw [Int.toNat_of_nonneg h.1] at e; exact e
    · simp only [impl_AppendUvarint.l0]
      rw [if_pos ho]
      by_cases g : 128 ≤ n
      · rw [if_pos (by omega), if_pos g, Int.tdiv_eq_ediv_of_nonneg (by omega), Int.tmod_eq_emod_of_nonneg (by omega), w64 (by omega) (by omega), w64 (by omega) (by omega), show (n : Int) / 128 = ((n / 128 : Nat) : Int) by omega, show ((n : Int) % 128 + 128) % 256 = ((n % 128 + 128 : Nat) : Int) by omega]
      · rw [if_neg (by omega), if_neg g, if_pos ho]
        congr 3; omega
  · rw [if_neg h]
    refine ⟨0, fun k _ => ?_⟩
    unfold impl_AppendUvarint.f
    rw [hc]
    simp only [i_In, h, Option.bind_some, decide_false, Bool.false_eq_true, if_false]
def appB (b d : List Int) : List Int := appU b (d.length : Int) ++ d
theorem appB_length (b d : List Int) : (appB b d).length ≤ b.length + d.length + 6 := by
  have := appU_length b (d.length : Int); unfold appB; rw [List.length_append]; omega
theorem s_appB (b d : List Int) (hb : b.length ≤ 100000000) (hd : d.length ≤ 100000000) : Ev (fun k => spec_AppendBytes.f k b d) (appB b d) := by
  obtain ⟨K, h⟩ := evo (s_app b (d.length : Int) (by omega))
  have hl := appU_length b (d.length : Int)
  refine ⟨K, fun k hk => ?_⟩
  show spec_AppendBytes.f k b d = _
  unfold spec_AppendBytes.f
  rw [h k hk]; simp only [Option.bind_some]
  rw [if_pos (by omega)]; rfl
theorem i_appB (b d : List Int) (hb : b.length ≤ 100000000) (hd : d.length ≤ 100000000) : Ev (fun k => impl_AppendBytes.f k b d) (appB b d) := by
  obtain ⟨K, h⟩ := evo (i_app b (d.length : Int) (by omega))
  have hl := appU_length b (d.length : Int)
  refine ⟨K, fun k hk => ?_⟩
  show impl_AppendBytes.f k b d = _
  unfold impl_AppendBytes.f
  rw [h k hk]; simp only [Option.bind_some]
  rw [if_pos (by omega)]; rfl
theorem c_B (xs : List Int) (hx : xs.length ≤ 1048576) : Ev (fun k => laws_toByteS.f k xs) xs := by
  refine rounds_of (d := xs.length) (fun k hk => ?_)
  unfold laws_toByteS.f
  rw [if_pos (by omega), if_pos (by omega)]
  exact copy_loop (L := laws_toByteS.l0) (fun k x y i => by simp only [laws_toByteS.l0]) xs (by omega) xs.length 0 _ (by simp) (by omega) (by simp) k hk
theorem e_B (xs ys : List Int) (hx : xs.length ≤ 9000000000000000) : Ev (fun k => laws_eqByteS.f k xs ys) (decide (xs = ys)) := by
  refine rounds_of (d := xs.length) (fun k hk => ?_)
  unfold laws_eqByteS.f
  by_cases e : xs.length = ys.length
  · rw [if_pos (by omega)]
    exact eq_loop (L := fun k i => laws_eqByteS.l0 k xs ys i) xs ys (fun k i => by simp only [laws_eqByteS.l0]) e (by omega) xs.length 0 (by omega) (by simp) k hk
  · rw [if_neg (by omega)]
    congr 1; symm; rw [decide_eq_false_iff_not]; intro e'; exact e (by rw [e'])
theorem m_B (xs : List Int) (m : Int) (hm : 0 ≤ m) (hm2 : m ≤ 100000000) (hx : xs.length ≤ 100000000) : Ev (fun k => laws_markByteS.f k xs m) (m + (xs.length : Int), marks (· % 256) m xs.length) := by
  refine rounds_of (d := xs.length) (fun k hk => ?_)
  unfold laws_markByteS.f
  have h := mark_loop (L := laws_markByteS.l0) (φ := (· % 256)) (fun k x m i => by simp only [laws_markByteS.l0]) m xs.length (by omega) (by omega) (by omega) xs.length 0 xs rfl (by omega) (by simp [marks]) k hk
  rw [show m + ((0 : Nat) : Int) = m by omega] at h
  exact h
theorem h_B (n : Nat) (hn : n ≤ 100000000) : Ev (fun k => laws_heldByteS.f k (marks (· % 256) 1 n) 1) (1 + (n : Int)) := by
  refine rounds_of (d := n) (fun k hk => ?_)
  unfold laws_heldByteS.f
  have h := held_loop (L := laws_heldByteS.l0) (φ := (· % 256)) (fun k x m i => by simp only [laws_heldByteS.l0]) 1 n (by omega) (by omega) (by omega) n 0 (by omega) k hk
  exact h
theorem FnExactAppendBytes : laws_FnExactAppendBytes.Pure := by
  intro a d _ _ _ _ _ _
  unfold laws_FnExactAppendBytes.f
  by_cases h1 : (a.length : Int) > 1048576
  · exact ⟨0, by rw [if_pos h1]⟩
  by_cases h2 : (d.length : Int) > 1048576
  · exact ⟨0, by rw [if_neg h1, if_pos h2]⟩
  have hn := appB_length a d
  obtain ⟨K1, ha⟩ := evo (c_B a (by omega))
  obtain ⟨K2, ea⟩ := evo (e_B a a (by omega))
  obtain ⟨K3, hs⟩ := evo (s_appB a d (by omega) (by omega))
  obtain ⟨K4, hi⟩ := evo (i_appB a d (by omega) (by omega))
  obtain ⟨K5, eb⟩ := evo (e_B (appB a d) (appB a d) (by omega))
  obtain ⟨K6, ma⟩ := evo (m_B a 1 (by omega) (by omega) (by omega))
  obtain ⟨K7, mb⟩ := evo (m_B (appB a d) 1 (by omega) (by omega) (by omega))
  obtain ⟨K8, hb⟩ := evo (h_B (appB a d).length (by omega))
  obtain ⟨K9, hd⟩ := evo (c_B d (by omega))
  obtain ⟨K10, ed⟩ := evo (e_B d d (by omega))
  obtain ⟨K11, md⟩ := evo (m_B d (1 + (a.length : Int)) (by omega) (by omega) (by omega))
  refine ⟨K1 + K2 + K3 + K4 + K5 + K6 + K7 + K8 + K9 + K10 + K11 + 1, ?_⟩
  generalize hK : K1 + K2 + K3 + K4 + K5 + K6 + K7 + K8 + K9 + K10 + K11 = K
  have hj : laws_FnExactAppendBytes.j0 (K + 1) a d (appB a d) (appB a d) false = some true := by
    simp only [laws_FnExactAppendBytes.j0]
    rw [if_neg (by decide), mb K (by omega)]
    simp only [Option.bind_some, ha K (by omega), hd K (by omega), hi K (by omega), eb K (by omega), hb K (by omega)]
    simp only [decide_true, if_true]
    rw [if_neg (by omega), if_neg (by omega)]
  rw [if_neg h1, if_neg h2]
  simp only [ha (K + 1) (by omega), ea (K + 1) (by omega), hd (K + 1) (by omega), ed (K + 1) (by omega), hs (K + 1) (by omega), hi (K + 1) (by omega), eb (K + 1) (by omega), ma (K + 1) (by omega), md (K + 1) (by omega), Option.bind_some, decide_true, if_true, Bool.not_true]
  rw [if_neg (by omega)]
  exact hj

end Go.Proofs.Yteehlniclobkbaa.Pure
