/- The law FnExactEncodeInts returns true for each slice of ints. Conditions: each number is an int; the reach of memory. -/
import Derived.Test.YteehlniclobkbaaPFnExactEncodeIntsx2
import Derived.Test.YteehlniclobkbaaLib
import Derived.Test.YteehlniclobkbaaVar
namespace Go.Proofs.Yteehlniclobkbaa.Pure
open Go.RowKit Go.Proofs.Yteehlniclobkbaa.PFnExactEncodeInts Go.Proofs.YteehlniclobkbaaW.PrintWords Go.Proofs.YteehlniclobkbaaW.PrintLast Go.Proofs.YteehlniclobkbaaW.PrintMore Go.Proofs.Yteehlniclobkbaa.Lib Go.Proofs.Yteehlniclobkbaa.Var

theorem s_In (a l h : Int) : spec_l1In.f a l h = some (decide (l ≤ a ∧ a ≤ h)) := by
  unfold spec_l1In.f; by_cases e : l ≤ a <;> simp [e]
theorem i_In (a l h : Int) : impl_InRange.f a l h = some (decide (l ≤ a ∧ a ≤ h)) := by
  unfold impl_InRange.f; by_cases e : l ≤ a <;> simp [e]
theorem s_app (b : List Int) (n : Int) (hb : b.length ≤ 100000000000) : Ev (fun k => spec_AppendUvarint.f k b n) (appU b n) := by
  unfold appU
  by_cases h : 0 ≤ n ∧ n ≤ 1000000000000
  · rw [if_pos h]
    refine rounds_of (d := 5) (fun k hk => ?_)
    unfold spec_AppendUvarint.f
    simp only [s_In, h, Option.bind_some, and_self, decide_true, if_true, List.nil_append, List.length_nil]
    rw [if_pos (by omega)]
    have e := uv_loop (L := spec_AppendUvarint.l0) (fun k n o hn ho => ?_) 5 n.toNat b (by omega) (by omega) (by omega) k hk
    · rw [Int.toNat_of_nonneg h.1] at e; exact e
    · simp only [spec_AppendUvarint.l0]
      rw [if_pos ho, and127 (by omega) (by omega)]
      by_cases g : 128 ≤ n
      · rw [if_pos (by omega), if_pos g, or128 (by omega) (by omega), show (n : Int) / 128 = ((n / 128 : Nat) : Int) by omega, show ((n : Int) % 128 + 128) % 256 = ((n % 128 + 128 : Nat) : Int) by omega]
      · rw [if_neg (by omega), if_neg g, if_pos ho]
        congr 3; omega
  · rw [if_neg h]
    refine ⟨0, fun k _ => ?_⟩
    unfold spec_AppendUvarint.f
    simp only [s_In, h, Option.bind_some, decide_false, Bool.false_eq_true, if_false, List.nil_append, List.length_nil]
    rw [if_pos (by omega)]
theorem i_app (b : List Int) (n : Int) (hb : b.length ≤ 100000000000) : Ev (fun k => impl_AppendUvarint.f k b n) (appU b n) := by
  have hc : impl_clone_byte.f b = some b := by
    unfold impl_clone_byte.f; simp only [Option.bind_some, List.nil_append, List.length_nil]; rw [if_pos (by omega)]
  unfold appU
  by_cases h : 0 ≤ n ∧ n ≤ 1000000000000
  · rw [if_pos h]
    refine rounds_of (d := 5) (fun k hk => ?_)
    unfold impl_AppendUvarint.f
    rw [hc]
    simp only [i_In, h, Option.bind_some, and_self, decide_true, if_true]
    have e := uv_loop (L := impl_AppendUvarint.l0) (fun k n o hn ho => ?_) 5 n.toNat b (by omega) (by omega) (by omega) k hk
    · rw [Int.toNat_of_nonneg h.1] at e; exact e
    · simp only [impl_AppendUvarint.l0]
      rw [if_pos ho]
      by_cases g : 128 ≤ n
      · rw [if_pos (by omega), if_pos g, Int.tdiv_eq_ediv_of_nonneg (by omega), Int.tmod_eq_emod_of_nonneg (by omega), w64 (by omega) (by omega), w64 (by omega) (by omega), show (n : Int) / 128 = ((n / 128 : Nat) : Int) by omega, show ((n : Int) % 128 + 128) % 256 = ((n % 128 + 128 : Nat) : Int) by omega]
      · rw [if_neg (by omega), if_neg g, if_pos ho]
        congr 3; omega
  · rw [if_neg h]
    refine ⟨0, fun k _ => ?_⟩
    unfold impl_AppendUvarint.f
    rw [hc]
    simp only [i_In, h, Option.bind_some, decide_false, Bool.false_eq_true, if_false]
def encI (l : List Int) : List Int := l.foldl appU []
theorem enc_len (l : List Int) (i : Nat) : (encI (l.take i)).length ≤ 6 * i := by
  suffices h : ∀ (m o : List Int), (m.foldl appU o).length ≤ o.length + 6 * m.length by
    have e := h (l.take i) []
    have := List.length_take_le i l
    simp at e
    unfold encI; omega
  intro m
  induction m with
  | nil => intro o; simp
  | cons x m ih => intro o; have := ih (appU o x); have h := appU_length o x; simp only [List.foldl_cons, List.length_cons]; omega
theorem encI_length (l : List Int) : (encI l).length ≤ 6 * l.length := by
  have := enc_len l l.length; rwa [List.take_length] at this
theorem enc_loop {L : Nat → List Int → Int → Option (List Int)} {A : Nat → List Int → Int → Option (List Int)} (l : List Int) (hl : l.length ≤ 10000000) (hA : ∀ (b : List Int) (n : Int), b.length ≤ 100000000000 → Ev (fun k => A k b n) (appU b n))
    (h : ∀ k o i, L (k + 1) o i = if i < (l.length : Int) then (if 0 ≤ i then ((A k o (rd l i)).bind fun t => L k t (wrap64 (i + 1))) else none) else some o) (d : Nat) :
    ∀ (i : Nat), i + d = l.length → Ev (fun k => L k (encI (l.take i)) i) (encI l) := by
  induction d with
  | zero =>
    intro i hi
    refine Ev.step (f := fun _ => some (encI l)) (fun k => ?_) (Ev.now _)
    rw [h, if_neg (by omega), List.take_of_length_le (by omega)]
  | succ d ih =>
    intro i hi
    have b := enc_len l i
    refine Ev.step (f := fun k => (A k (encI (l.take i)) (rd l i)).bind fun t => L k t ((i + 1 : Nat) : Int)) (fun k => ?_) ?_
    · rw [h, if_pos (by omega), if_pos (by omega), w64 (by omega) (by omega)]; rfl
    · refine Ev.bind (f := fun k t => L k t ((i + 1 : Nat) : Int)) (hA _ _ (by omega)) ?_
      have e := ih (i + 1) (by omega)
      unfold encI at e ⊢
      rw [take_fold' _ _ _ _ (by omega)] at e
      exact e
theorem s_enc (l : List Int) (hl : l.length ≤ 10000000) : Ev (fun k => spec_EncodeInts.f k l) (encI l) := by
  unfold spec_EncodeInts.f
  exact enc_loop (L := fun k o i => spec_EncodeInts.l0 k l o i) l hl s_app (fun k o i => by simp only [spec_EncodeInts.l0]) l.length 0 (by omega)
theorem i_enc (l : List Int) (hl : l.length ≤ 10000000) : Ev (fun k => impl_EncodeInts.f k l) (encI l) := by
  unfold impl_EncodeInts.f
  refine enc_loop (L := fun k o i => impl_EncodeInts.l0 k o l (l.length : Int) i) l hl i_app (fun k o i => ?_) l.length 0 (by omega)
  simp only [impl_EncodeInts.l0]
  by_cases h0 : i < (l.length : Int) <;> simp [h0]
theorem e_B (xs ys : List Int) (hx : xs.length ≤ 9000000000000000) : Ev (fun k => laws_eqByteS.f k xs ys) (decide (xs = ys)) := by
  refine rounds_of (d := xs.length) (fun k hk => ?_)
  unfold laws_eqByteS.f
  by_cases e : xs.length = ys.length
  · rw [if_pos (by omega)]
    exact eq_loop (L := fun k i => laws_eqByteS.l0 k xs ys i) xs ys (fun k i => by simp only [laws_eqByteS.l0]) e (by omega) xs.length 0 (by omega) (by simp) k hk
  · rw [if_neg (by omega)]
    congr 1; symm; rw [decide_eq_false_iff_not]; intro e'; exact e (by rw [e'])
theorem c_I (xs : List Int) (hx : xs.length ≤ 1048576) : Ev (fun k => laws_toIntS.f k xs) xs := by
  refine rounds_of (d := xs.length) (fun k hk => ?_)
  unfold laws_toIntS.f
  rw [if_pos (by omega), if_pos (by omega)]
  exact copy_loop (L := laws_toIntS.l0) (fun k x y i => by simp only [laws_toIntS.l0]) xs (by omega) xs.length 0 _ (by simp) (by omega) (by simp) k hk
theorem e_I (xs ys : List Int) (hx : xs.length ≤ 9000000000000000) : Ev (fun k => laws_eqIntS.f k xs ys) (decide (xs = ys)) := by
  refine rounds_of (d := xs.length) (fun k hk => ?_)
  unfold laws_eqIntS.f
  by_cases e : xs.length = ys.length
  · rw [if_pos (by omega)]
    exact eq_loop (L := fun k i => laws_eqIntS.l0 k xs ys i) xs ys (fun k i => by simp only [laws_eqIntS.l0]) e (by omega) xs.length 0 (by omega) (by simp) k hk
  · rw [if_neg (by omega)]
    congr 1; symm; rw [decide_eq_false_iff_not]; intro e'; exact e (by rw [e'])
theorem m_B (xs : List Int) (m : Int) (hm : 0 ≤ m) (hm2 : m ≤ 100000000) (hx : xs.length ≤ 100000000) : Ev (fun k => laws_markByteS.f k xs m) (m + (xs.length : Int), marks (· % 256) m xs.length) := by
  refine rounds_of (d := xs.length) (fun k hk => ?_)
  unfold laws_markByteS.f
  have h := mark_loop (L := laws_markByteS.l0) (φ := (· % 256)) (fun k x m i => by simp only [laws_markByteS.l0]) m xs.length (by omega) (by omega) (by omega) xs.length 0 xs rfl (by omega) (by simp [marks]) k hk
  rw [show m + ((0 : Nat) : Int) = m by omega] at h
  exact h
theorem m_I (xs : List Int) (m : Int) (hm : 0 ≤ m) (hm2 : m ≤ 100000000) (hx : xs.length ≤ 100000000) : Ev (fun k => laws_markIntS.f k xs m) (m + (xs.length : Int), marks (fun x => x) m xs.length) := by
  refine rounds_of (d := xs.length) (fun k hk => ?_)
  unfold laws_markIntS.f
  have h := mark_loop (L := laws_markIntS.l0) (φ := (fun x => x)) (fun k x m i => by simp only [laws_markIntS.l0]) m xs.length (by omega) (by omega) (by omega) xs.length 0 xs rfl (by omega) (by simp [marks]) k hk
  rw [show m + ((0 : Nat) : Int) = m by omega] at h
  exact h
theorem h_B (n : Nat) (hn : n ≤ 100000000) : Ev (fun k => laws_heldByteS.f k (marks (· % 256) 1 n) 1) (1 + (n : Int)) := by
  refine rounds_of (d := n) (fun k hk => ?_)
  unfold laws_heldByteS.f
  have h := held_loop (L := laws_heldByteS.l0) (φ := (· % 256)) (fun k x m i => by simp only [laws_heldByteS.l0]) 1 n (by omega) (by omega) (by omega) n 0 (by omega) k hk
  exact h
theorem FnExactEncodeInts : laws_FnExactEncodeInts.Pure := by
  intro a _ _ _
  unfold laws_FnExactEncodeInts.f
  by_cases h1 : (a.length : Int) > 1048576
  · exact ⟨0, by rw [if_pos h1]⟩
  have hn := encI_length a
  obtain ⟨K1, ha⟩ := evo (c_I a (by omega))
  obtain ⟨K2, ea⟩ := evo (e_I a a (by omega))
  obtain ⟨K3, hs⟩ := evo (s_enc a (by omega))
  obtain ⟨K4, hi⟩ := evo (i_enc a (by omega))
  obtain ⟨K5, eb⟩ := evo (e_B (encI a) (encI a) (by omega))
  obtain ⟨K6, ma⟩ := evo (m_I a 1 (by omega) (by omega) (by omega))
  obtain ⟨K7, mb⟩ := evo (m_B (encI a) 1 (by omega) (by omega) (by omega))
  obtain ⟨K8, hb⟩ := evo (h_B (encI a).length (by omega))
  refine ⟨K1 + K2 + K3 + K4 + K5 + K6 + K7 + K8 + 1, ?_⟩
  generalize hK : K1 + K2 + K3 + K4 + K5 + K6 + K7 + K8 = K
  have hj : laws_FnExactEncodeInts.j0 (K + 1) a (encI a) (encI a) false = some true := by
    simp only [laws_FnExactEncodeInts.j0]
    rw [if_neg (by decide), mb K (by omega)]
    simp only [Option.bind_some, ha K (by omega), hi K (by omega), eb K (by omega), hb K (by omega)]
    simp only [decide_true, if_true]
    rw [if_neg (by omega), if_neg (by omega)]
  rw [if_neg h1]
  simp only [ha (K + 1) (by omega), ea (K + 1) (by omega), hs (K + 1) (by omega), hi (K + 1) (by omega), eb (K + 1) (by omega), ma (K + 1) (by omega), Option.bind_some, decide_true, if_true, Bool.not_true]
  rw [if_neg (by omega)]
  exact hj

end Go.Proofs.Yteehlniclobkbaa.Pure
