/- The law FnExactReadUvarint returns true for each slice of bytes and each number. Conditions: each number is of its kind; the reach of memory. -/
import Derived.Test.YteehlniclobkbaaQFnExactReadUvarintx2
import Derived.Test.YteehlniclobkbaaLib
import Derived.Test.YteehlniclobkbaaVar
namespace Go.Proofs.Yteehlniclobkbaa.Pure
open Go.RowKit Go.Proofs.Yteehlniclobkbaa.QFnExactReadUvarint Go.Proofs.YteehlniclobkbaaW.PrintWords Go.Proofs.YteehlniclobkbaaW.PrintLast Go.Proofs.YteehlniclobkbaaW.PrintMore Go.Proofs.Yteehlniclobkbaa.Lib Go.Proofs.Yteehlniclobkbaa.Var

theorem i_In (a l h : Int) : impl_InRange.f a l h = some (decide (l ≤ a ∧ a ≤ h)) := by
  unfold impl_InRange.f; by_cases e : l ≤ a <;> simp [e]
theorem byte_at {l : List Int} (hb : ∀ x ∈ l, (Lit.int .u8 x).wf = true) (i : Nat) (h : i < l.length) : 0 ≤ l[i] ∧ l[i] ≤ 255 := bounds_u8 (hb l[i] (List.getElem_mem h))
theorem s_readU_go (l : List Int) (a : Int) (ha0 : 0 ≤ a) (ha : a < (l.length : Int)) (hl : l.length ≤ 100000000) (hb : ∀ x ∈ l, (Lit.int .u8 x).wf = true) (f : Nat) :
    ∀ (i : Nat) (n : Int), i + f = 6 → 0 ≤ n → n < 128 ^ i → Ev (fun k => spec_ReadUvarint.l0 k l a n i) (ended (dec f (decide (0 < i)) (l.drop (a.toNat + i))) n (128 ^ i) (a + i)) := by
  induction f with
  | zero =>
    intro i n hi h0 h1
    refine Ev.step (f := fun _ => some (0, 0, false)) (fun k => ?_) (Ev.now _)
    simp only [spec_ReadUvarint.l0]
    rw [if_neg (by omega)]
  | succ f ih =>
    intro i n hi h0 h1
    refine Ev.step (f := fun k => spec_ReadUvarint.j1 k l a n i (decide (a ≥ (l.length : Int) - i))) (fun k => ?_) ?_
    · simp only [spec_ReadUvarint.l0]
      rw [if_pos (by omega), if_neg (by omega), w64 (by omega) (by omega)]
    · by_cases hlt : a.toNat + i < l.length
      · have hc := byte_at hb (a.toNat + i) hlt
        have hd : l.drop (a.toNat + i) = l[a.toNat + i] :: l.drop (a.toNat + i + 1) := List.drop_eq_getElem_cons hlt
        have hr : rd l (a + (i : Int)) = l[a.toNat + i] := by
          have e := rd_nat l (a.toNat + i) hlt
          rw [show ((a.toNat + i : Nat) : Int) = a + i by omega] at e; exact e
        have hj := join7 i (by omega) n (l[a.toNat + i] % 128) h0 h1 (by omega) (by omega)
        have hm := ended_more (dec f true (l.drop (a.toNat + i + 1))) n (128 ^ i) (a + i) (l[a.toNat + i]) (128 ^ (i + 1)) (Int.pow_succ _ _)
        rw [hd]
        have hn : ∀ k, spec_ReadUvarint.j1 (k + 1) l a n i (decide (a ≥ (l.length : Int) - i)) = if l[a.toNat + i] < 128 then (if l[a.toNat + i] = 0 ∧ 0 < i then some (0, 0, false) else if n + l[a.toNat + i] % 128 * 128 ^ i > 1000000000000 then some (0, 0, false) else some (n + l[a.toNat + i] % 128 * 128 ^ i, a + i + 1, true)) else spec_ReadUvarint.l0 k l a (n + l[a.toNat + i] % 128 * 128 ^ i) ((i + 1 : Nat) : Int) := by
          intro k
          simp only [spec_ReadUvarint.j1]
          rw [if_neg (by simp; omega), w64 (n := a + (i : Int)) (by omega) (by omega), w64 (n := 7 * (i : Int)) (by omega) (by omega), if_pos (by omega), if_pos (by omega), if_pos (by omega), hr, w64 (n := l[a.toNat + i]) (by omega) (by omega), and127 (by omega) (by omega), hj.1, w64 (n := a + (i : Int) + 1) (by omega) (by omega), w64 (n := (i : Int) + 1) (by omega) (by omega)]
          by_cases g1 : l[a.toNat + i] < 128
          · rw [if_pos g1, if_pos g1]
            by_cases g2 : l[a.toNat + i] = 0
            · rw [if_pos g2]
              by_cases g3 : 0 < i
              · rw [if_pos (by omega), if_pos ⟨g2, g3⟩]
              · rw [if_neg (by omega), if_neg (show ¬ (l[a.toNat + i] = 0 ∧ 0 < i) from fun e => g3 e.2)]
            · rw [if_neg g2, if_neg (show ¬ (l[a.toNat + i] = 0 ∧ 0 < i) from fun e => g2 e.1)]
          · rw [if_neg g1, if_neg g1]; rfl
        by_cases g1 : l[a.toNat + i] < 128
        · refine Ev.step (f := fun _ => some (ended (dec (f + 1) (decide (0 < i)) (l[a.toNat + i] :: l.drop (a.toNat + i + 1))) n (128 ^ i) (a + i))) (fun k => ?_) (Ev.now _)
          rw [hn, if_pos g1]
          simp only [dec]
          rw [if_pos g1]
          by_cases g2 : l[a.toNat + i] = 0 ∧ 0 < i
          · rw [if_pos g2, if_pos ⟨by simp [g2.2], g2.1⟩]; rfl
          · rw [if_neg g2, if_neg (show ¬ (decide (0 < i) = true ∧ l[a.toNat + i] = 0) from fun e => g2 ⟨e.2, of_decide_eq_true e.1⟩)]
            simp only [ended]
            rw [Int.emod_eq_of_lt (by omega) g1, Int.mul_comm]
            by_cases g3 : n + 128 ^ i * l[a.toNat + i] > 1000000000000
            · rw [if_pos g3, if_pos g3]
            · rw [if_neg g3, if_neg g3]
        · simp only [dec]
          rw [if_neg g1, hm]
          refine Ev.step (f := fun k => spec_ReadUvarint.l0 k l a (n + l[a.toNat + i] % 128 * 128 ^ i) ((i + 1 : Nat) : Int)) (fun k => ?_) ?_
          · rw [hn, if_neg g1]
          · have e := ih (i + 1) (n + l[a.toNat + i] % 128 * 128 ^ i) (by omega) (by have := Int.pow_pos (n := 128) (m := i) (by decide); have := Int.mul_nonneg (show 0 ≤ l[a.toNat + i] % 128 by omega) (Int.le_of_lt this); omega) hj.2
            rw [show decide (0 < i + 1) = true by simp, show a + ((i + 1 : Nat) : Int) = a + i + 1 by omega] at e
            exact e
      · refine Ev.step (f := fun _ => some (0, 0, false)) (fun k => ?_) ?_
        · simp only [spec_ReadUvarint.j1]
          rw [if_pos (by simp; omega)]
        · rw [List.drop_eq_nil_of_le (by omega)]; exact Ev.now _
theorem s_readU (l : List Int) (a : Int) (hl : l.length ≤ 100000000) (hb : ∀ x ∈ l, (Lit.int .u8 x).wf = true) : Ev (fun k => spec_ReadUvarint.f k l a) (readU l a) := by
  unfold spec_ReadUvarint.f readU
  by_cases h : 0 ≤ a ∧ a < (l.length : Int)
  · rw [if_pos h]
    have e := s_readU_go l a h.1 h.2 hl hb 6 0 0 rfl (by omega) (by decide)
    simpa using e
  · rw [if_neg h]
    by_cases h1 : a < 0
    · refine Ev.step (f := fun k => spec_ReadUvarint.j1 k l a 0 0 true) (fun k => ?_) ?_
      · simp only [spec_ReadUvarint.l0]
        rw [if_pos (by omega), if_pos h1]
      · refine Ev.step (f := fun _ => some (0, 0, false)) (fun k => ?_) (Ev.now _)
        simp only [spec_ReadUvarint.j1, if_true]
    · refine Ev.step (f := fun k => spec_ReadUvarint.j1 k l a 0 0 true) (fun k => ?_) ?_
      · simp only [spec_ReadUvarint.l0]
        rw [if_pos (by omega), if_neg h1, w64 (by omega) (by omega), show decide (a ≥ (l.length : Int) - 0) = true by rw [decide_eq_true_eq]; omega]
      · refine Ev.step (f := fun _ => some (0, 0, false)) (fun k => ?_) (Ev.now _)
        simp only [spec_ReadUvarint.j1, if_true]
theorem i_readU_go (l : List Int) (a : Int) (ha0 : 0 ≤ a) (ha : a < (l.length : Int)) (hl : l.length ≤ 100000000) (hb : ∀ x ∈ l, (Lit.int .u8 x).wf = true) (f : Nat) :
    ∀ (i : Nat) (n : Int), i + f = 6 → 0 ≤ n → n < 128 ^ i → Ev (fun k => impl_ReadUvarint.l0 k a n (l.drop a.toNat) ((l.drop a.toNat).length : Int) i) (ended (dec f (decide (0 < i)) (l.drop (a.toNat + i))) n (128 ^ i) (a + i)) := by
  have hlen : (l.drop a.toNat).length = l.length - a.toNat := List.length_drop ..
  induction f with
  | zero =>
    intro i n hi h0 h1
    refine Ev.step (f := fun _ => some (0, 0, false)) (fun k => ?_) (Ev.now _)
    simp only [impl_ReadUvarint.l0]
    by_cases g : (i : Int) < ((l.drop a.toNat).length : Int)
    · rw [if_pos g, if_pos (by omega), if_pos g, if_pos (by omega)]
    · rw [if_neg g]
  | succ f ih =>
    intro i n hi h0 h1
    by_cases hlt : a.toNat + i < l.length
    · have hc := byte_at hb (a.toNat + i) hlt
      have hd : l.drop (a.toNat + i) = l[a.toNat + i] :: l.drop (a.toNat + i + 1) := List.drop_eq_getElem_cons hlt
      have hr : rd (l.drop a.toNat) (i : Int) = l[a.toNat + i] := by
        rw [rd_nat _ i (by omega), List.getElem_drop]
      have hj := join7 i (by omega) n (l[a.toNat + i] % 128) h0 h1 (by omega) (by omega)
      have hm := ended_more (dec f true (l.drop (a.toNat + i + 1))) n (128 ^ i) (a + i) (l[a.toNat + i]) (128 ^ (i + 1)) (Int.pow_succ _ _)
      rw [hd]
      have hn : ∀ k, impl_ReadUvarint.l0 (k + 1) a n (l.drop a.toNat) ((l.drop a.toNat).length : Int) i = if l[a.toNat + i] < 128 then (if l[a.toNat + i] = 0 ∧ 0 < i then some (0, 0, false) else if n + l[a.toNat + i] % 128 * 128 ^ i > 1000000000000 then some (0, 0, false) else some (n + l[a.toNat + i] % 128 * 128 ^ i, a + i + 1, true)) else impl_ReadUvarint.l0 k a (n + l[a.toNat + i] % 128 * 128 ^ i) (l.drop a.toNat) ((l.drop a.toNat).length : Int) ((i + 1 : Nat) : Int) := by
        intro k
        simp only [impl_ReadUvarint.l0]
        rw [if_pos (by omega), if_pos (by omega), if_pos (by omega), if_neg (by omega), w64 (n := 7 * (i : Int)) (by omega) (by omega), if_pos (by omega), hr, and127b (by omega) (by omega), w64 (n := l[a.toNat + i] % 128) (by omega) (by omega), hj.1, w64 (n := a + (i : Int)) (by omega) (by omega), w64 (n := a + (i : Int) + 1) (by omega) (by omega), w64 (n := (i : Int) + 1) (by omega) (by omega)]
        by_cases g1 : l[a.toNat + i] < 128
        · rw [if_pos g1, if_pos g1]
          by_cases g3 : 0 < i
          · rw [if_pos (show (i : Int) > 0 by omega)]
            by_cases g2 : l[a.toNat + i] = 0
            · rw [if_pos g2, if_pos ⟨g2, g3⟩]
            · rw [if_neg g2, if_neg (show ¬ (l[a.toNat + i] = 0 ∧ 0 < i) from fun e => g2 e.1)]
          · rw [if_neg (show ¬ (i : Int) > 0 by omega), if_neg (show ¬ (l[a.toNat + i] = 0 ∧ 0 < i) from fun e => g3 e.2)]
        · rw [if_neg g1, if_neg g1]; rfl
      by_cases g1 : l[a.toNat + i] < 128
      · refine Ev.step (f := fun _ => some (ended (dec (f + 1) (decide (0 < i)) (l[a.toNat + i] :: l.drop (a.toNat + i + 1))) n (128 ^ i) (a + i))) (fun k => ?_) (Ev.now _)
        rw [hn, if_pos g1]
        simp only [dec]
        rw [if_pos g1]
        by_cases g2 : l[a.toNat + i] = 0 ∧ 0 < i
        · rw [if_pos g2, if_pos ⟨by simp [g2.2], g2.1⟩]; rfl
        · rw [if_neg g2, if_neg (show ¬ (decide (0 < i) = true ∧ l[a.toNat + i] = 0) from fun e => g2 ⟨e.2, of_decide_eq_true e.1⟩)]
          simp only [ended]
          rw [Int.emod_eq_of_lt (by omega) g1, Int.mul_comm]
          by_cases g3 : n + 128 ^ i * l[a.toNat + i] > 1000000000000
          · rw [if_pos g3, if_pos g3]
          · rw [if_neg g3, if_neg g3]
      · simp only [dec]
        rw [if_neg g1, hm]
        refine Ev.step (f := fun k => impl_ReadUvarint.l0 k a (n + l[a.toNat + i] % 128 * 128 ^ i) (l.drop a.toNat) ((l.drop a.toNat).length : Int) ((i + 1 : Nat) : Int)) (fun k => ?_) ?_
        · rw [hn, if_neg g1]
        · have e := ih (i + 1) (n + l[a.toNat + i] % 128 * 128 ^ i) (by omega) (by have := Int.pow_pos (n := 128) (m := i) (by decide); have := Int.mul_nonneg (show 0 ≤ l[a.toNat + i] % 128 by omega) (Int.le_of_lt this); omega) hj.2
          rw [show decide (0 < i + 1) = true by simp, show a + ((i + 1 : Nat) : Int) = a + i + 1 by omega] at e
          exact e
    · refine Ev.step (f := fun _ => some (0, 0, false)) (fun k => ?_) ?_
      · simp only [impl_ReadUvarint.l0]
        rw [if_neg (by omega)]
      · rw [List.drop_eq_nil_of_le (by omega)]; exact Ev.now _
theorem i_readU (l : List Int) (a : Int) (hl : l.length ≤ 100000000) (hb : ∀ x ∈ l, (Lit.int .u8 x).wf = true) : Ev (fun k => impl_ReadUvarint.f k l a) (readU l a) := by
  unfold impl_ReadUvarint.f readU
  by_cases h : 0 ≤ a ∧ a < (l.length : Int)
  · rw [if_pos h]
    have e := i_readU_go l a h.1 h.2 hl hb 6 0 0 rfl (by omega) (by decide)
    simp only [i_In, Option.bind_some]
    rw [w64 (by omega) (by omega), show decide (0 ≤ a ∧ a ≤ (l.length : Int) - 1) = true by rw [decide_eq_true_eq]; omega]
    have h2 : a ≤ (l.length : Int) := by omega
    simp only [if_true, h.1, h2]
    simpa using e
  · rw [if_neg h]
    simp only [i_In, Option.bind_some]
    rw [w64 (by omega) (by omega), show decide (0 ≤ a ∧ a ≤ (l.length : Int) - 1) = false by rw [decide_eq_false_iff_not]; omega]
    exact Ev.now _
theorem c_B (xs : List Int) (hx : xs.length ≤ 1048576) : Ev (fun k => laws_toByteS.f k xs) xs := by
  refine rounds_of (d := xs.length) (fun k hk => ?_)
  unfold laws_toByteS.f
  rw [if_pos (by omega), if_pos (by omega)]
  exact copy_loop (L := laws_toByteS.l0) (fun k x y i => by simp only [laws_toByteS.l0]) xs (by omega) xs.length 0 _ (by simp) (by omega) (by simp) k hk
theorem e_B (xs ys : List Int) (hx : xs.length ≤ 9000000000000000) : Ev (fun k => laws_eqByteS.f k xs ys) (decide (xs = ys)) := by
  refine rounds_of (d := xs.length) (fun k hk => ?_)
  unfold laws_eqByteS.f
  by_cases e : xs.length = ys.length
  · rw [if_pos (by omega)]
    exact eq_loop (L := fun k i => laws_eqByteS.l0 k xs ys i) xs ys (fun k i => by simp only [laws_eqByteS.l0]) e (by omega) xs.length 0 (by omega) (by simp) k hk
  · rw [if_neg (by omega)]
    congr 1; symm; rw [decide_eq_false_iff_not]; intro e'; exact e (by rw [e'])
theorem FnExactReadUvarint : laws_FnExactReadUvarint.Pure := by
  intro a n _ _ hw _
  unfold laws_FnExactReadUvarint.f
  by_cases h1 : (a.length : Int) > 1048576
  · exact ⟨0, by rw [if_pos h1]⟩
  obtain ⟨K1, ha⟩ := evo (c_B a (by omega))
  obtain ⟨K2, ea⟩ := evo (e_B a a (by omega))
  obtain ⟨K3, hs⟩ := evo (s_readU a n (by omega) hw)
  obtain ⟨K4, hi⟩ := evo (i_readU a n (by omega) hw)
  refine ⟨K1 + K2 + K3 + K4 + 1, ?_⟩
  generalize hK : K1 + K2 + K3 + K4 = K
  rw [if_neg h1]
  simp only [ha (K + 1) (by omega), hs (K + 1) (by omega), hi (K + 1) (by omega), Option.bind_some]
  simp only [if_true, bne_self_eq_false]
  simp only [laws_FnExactReadUvarint.j0, ha K (by omega), ea K (by omega), Option.bind_some]
  simp

end Go.Proofs.Yteehlniclobkbaa.Pure
