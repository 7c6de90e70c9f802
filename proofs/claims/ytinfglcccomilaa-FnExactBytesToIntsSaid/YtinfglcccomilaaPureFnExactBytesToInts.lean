/- The law FnExactBytesToInts returns true for each slice of bytes. Conditions: each number is a byte; the reach of memory. -/
import Derived.Test.YtinfglcccomilaaPFnExactBytesToIntsx2
import Derived.Test.YtinfglcccomilaaLib
namespace Go.Proofs.Ytinfglcccomilaa.Pure
open Go.RowKit Go.Proofs.Ytinfglcccomilaa.PFnExactBytesToInts Go.Proofs.YtinfglcccomilaaW.PrintWords Go.Proofs.YtinfglcccomilaaW.PrintLast Go.Proofs.YtinfglcccomilaaW.PrintMore Go.Proofs.Ytinfglcccomilaa.Lib

def b2i (l : List Int) : List Int := (l.length : Int) :: l
theorem b2i_loop {L : Nat → List Int → Int → Option (List Int)} (l : List Int) (hl : l.length ≤ 100000000) (hb : ∀ x ∈ l, (Lit.int .u8 x).wf = true) (h : ∀ k o i, L (k + 1) o i = if i < (l.length : Int) then (if 0 ≤ i then (if o.length < 17592186044416 then L k (o ++ [wrap64 (rd l i)]) (wrap64 (i + 1)) else none) else none) else some o) (d : Nat) :
    ∀ (i : Nat), i + d = l.length → ∀ k, d < k → L k ((l.length : Int) :: l.take i) i = some (b2i l) := by
  induction d with
  | zero =>
    intro i hi k hk
    obtain ⟨k, rfl⟩ : ∃ m, k = m + 1 := ⟨k - 1, by omega⟩
    rw [h, if_neg (by omega), List.take_of_length_le (by omega)]; rfl
  | succ d ih =>
    intro i hi k hk
    obtain ⟨k, rfl⟩ : ∃ m, k = m + 1 := ⟨k - 1, by omega⟩
    have hlt : i < l.length := by omega
    have b := bounds_u8 (hb l[i] (List.getElem_mem hlt))
    rw [h, if_pos (by omega), if_pos (by omega), if_pos (by simp; omega), rd_nat l i hlt, w64 (by omega) (by omega), w64 (by omega) (by omega)]
    have e := ih (i + 1) (by omega) k (by omega)
    rw [List.take_succ_eq_append_getElem hlt] at e
    exact e
theorem s_b2i (l : List Int) (hl : l.length ≤ 100000000) (hb : ∀ x ∈ l, (Lit.int .u8 x).wf = true) : Ev (fun k => spec_BytesToInts.f k l) (b2i l) := by
  refine rounds_of (d := l.length) (fun k hk => ?_)
  unfold spec_BytesToInts.f
  exact b2i_loop (L := fun k o i => spec_BytesToInts.l0 k l o i) l hl hb (fun k o i => by simp only [spec_BytesToInts.l0]) l.length 0 (by omega) k hk
theorem i_b2i (l : List Int) (hl : l.length ≤ 100000000) (hb : ∀ x ∈ l, (Lit.int .u8 x).wf = true) : Ev (fun k => impl_BytesToInts.f k l) (b2i l) := by
  refine rounds_of (d := l.length) (fun k hk => ?_)
  unfold impl_BytesToInts.f
  refine b2i_loop (L := fun k o i => impl_BytesToInts.l0 k o l (l.length : Int) i) l hl hb (fun k o i => ?_) l.length 0 (by omega) k hk
  simp only [impl_BytesToInts.l0]
  by_cases h0 : i < (l.length : Int) <;> simp [h0]
theorem b2i_length (l : List Int) : (b2i l).length = l.length + 1 := by simp [b2i]
theorem c_B (xs : List Int) (hx : xs.length ≤ 1048576) : Ev (fun k => laws_toByteS.f k xs) xs := by
  refine rounds_of (d := xs.length) (fun k hk => ?_)
  unfold laws_toByteS.f
  rw [if_pos (by omega), if_pos (by omega)]
  exact copy_loop (L := laws_toByteS.l0) (fun k x y i => by simp only [laws_toByteS.l0]) xs (by omega) xs.length 0 _ (by simp) (by omega) (by simp) k hk
theorem e_B (xs ys : List Int) (hx : xs.length ≤ 9000000000000000) : Ev (fun k => laws_eqByteS.f k xs ys) (decide (xs = ys)) := by
  refine rounds_of (d := xs.length) (fun k hk => ?_)
  unfold laws_eqByteS.f
  by_cases e : xs.length = ys.length
  · rw [if_pos (by omega)]
    exact eq_loop (L := fun k i => laws_eqByteS.l0 k xs ys i) xs ys (fun k i => by simp only [laws_eqByteS.l0]) e (by omega) xs.length 0 (by omega) (by simp) k hk
  · rw [if_neg (by omega)]
    congr 1; symm; rw [decide_eq_false_iff_not]; intro e'; exact e (by rw [e'])
theorem e_I (xs ys : List Int) (hx : xs.length ≤ 9000000000000000) : Ev (fun k => laws_eqIntS.f k xs ys) (decide (xs = ys)) := by
  refine rounds_of (d := xs.length) (fun k hk => ?_)
  unfold laws_eqIntS.f
  by_cases e : xs.length = ys.length
  · rw [if_pos (by omega)]
    exact eq_loop (L := fun k i => laws_eqIntS.l0 k xs ys i) xs ys (fun k i => by simp only [laws_eqIntS.l0]) e (by omega) xs.length 0 (by omega) (by simp) k hk
  · rw [if_neg (by omega)]
    congr 1; symm; rw [decide_eq_false_iff_not]; intro e'; exact e (by rw [e'])
theorem m_B (xs : List Int) (hx : xs.length ≤ 100000000) : Ev (fun k => laws_markByteS.f k xs 1) (1 + (xs.length : Int), marks (· % 256) 1 xs.length) := by
  refine rounds_of (d := xs.length) (fun k hk => ?_)
  unfold laws_markByteS.f
  have h := mark_loop (L := laws_markByteS.l0) (φ := (· % 256)) (fun k x m i => by simp only [laws_markByteS.l0]) 1 xs.length (by omega) (by omega) (by omega) xs.length 0 xs rfl (by omega) (by simp [marks]) k hk
  exact h
theorem m_I (xs : List Int) (hx : xs.length ≤ 100000000) : Ev (fun k => laws_markIntS.f k xs 1) (1 + (xs.length : Int), marks (fun x => x) 1 xs.length) := by
  refine rounds_of (d := xs.length) (fun k hk => ?_)
  unfold laws_markIntS.f
  have h := mark_loop (L := laws_markIntS.l0) (φ := (fun x => x)) (fun k x m i => by simp only [laws_markIntS.l0]) 1 xs.length (by omega) (by omega) (by omega) xs.length 0 xs rfl (by omega) (by simp [marks]) k hk
  exact h
theorem h_I (n : Nat) (hn : n ≤ 100000000) : Ev (fun k => laws_heldIntS.f k (marks (fun x => x) 1 n) 1) (1 + (n : Int)) := by
  refine rounds_of (d := n) (fun k hk => ?_)
  unfold laws_heldIntS.f
  have h := held_loop (L := laws_heldIntS.l0) (φ := fun x => x) (fun k x m i => by simp only [laws_heldIntS.l0]) 1 n (by omega) (by omega) (by omega) n 0 (by omega) k hk
  exact h
theorem FnExactBytesToInts : laws_FnExactBytesToInts.Pure := by
  intro a _ _ hb
  unfold laws_FnExactBytesToInts.f
  by_cases h1 : (a.length : Int) > 1048576
  · exact ⟨0, by rw [if_pos h1]⟩
  have hn := b2i_length a
  obtain ⟨K1, ha⟩ := evo (c_B a (by omega))
  obtain ⟨K2, ea⟩ := evo (e_B a a (by omega))
  obtain ⟨K3, hs⟩ := evo (s_b2i a (by omega) hb)
  obtain ⟨K4, hi⟩ := evo (i_b2i a (by omega) hb)
  obtain ⟨K5, eb⟩ := evo (e_I (b2i a) (b2i a) (by omega))
  obtain ⟨K6, ma⟩ := evo (m_B a (by omega))
  obtain ⟨K7, mb⟩ := evo (m_I (b2i a) (by omega))
  obtain ⟨K8, hb⟩ := evo (h_I (b2i a).length (by omega))
  refine ⟨K1 + K2 + K3 + K4 + K5 + K6 + K7 + K8 + 1, ?_⟩
  generalize hK : K1 + K2 + K3 + K4 + K5 + K6 + K7 + K8 = K
  have hj : laws_FnExactBytesToInts.j0 (K + 1) a (b2i a) (b2i a) false = some true := by
    simp only [laws_FnExactBytesToInts.j0]
    rw [if_neg (by decide), mb K (by omega)]
    simp only [Option.bind_some, ha K (by omega), hi K (by omega), eb K (by omega), hb K (by omega)]
    simp only [decide_true, if_true]
    rw [if_neg (by omega), if_neg (by omega)]
  rw [if_neg h1]
  simp only [ha (K + 1) (by omega), ea (K + 1) (by omega), hs (K + 1) (by omega), hi (K + 1) (by omega), eb (K + 1) (by omega), ma (K + 1) (by omega), Option.bind_some, decide_true, if_true, Bool.not_true]
  rw [if_neg (by omega)]
  exact hj

end Go.Proofs.Ytinfglcccomilaa.Pure
