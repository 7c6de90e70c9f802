/- The law FnExactDecodeInts returns true for each slice of bytes and both numbers. Conditions: each number is of its kind; the reach of memory. -/
import Derived.Test.YteehlniclobkbaaQFnExactDecodeIntsx4
import Derived.Test.YteehlniclobkbaaLib
import Derived.Test.YteehlniclobkbaaVar
namespace Go.Proofs.Yteehlniclobkbaa.Pure
open Go.RowKit Go.Proofs.Yteehlniclobkbaa.QFnExactDecodeInts Go.Proofs.YteehlniclobkbaaW.PrintWords Go.Proofs.YteehlniclobkbaaW.PrintLast Go.Proofs.YteehlniclobkbaaW.PrintMore Go.Proofs.Yteehlniclobkbaa.Lib Go.Proofs.Yteehlniclobkbaa.Var

theorem i_In (a l h : Int) : impl_InRange.f a l h = some (decide (l ≤ a ∧ a ≤ h)) := by
  unfold impl_InRange.f; by_cases e : l ≤ a <;> simp [e]
theorem byte_at {l : List Int} (hb : ∀ x ∈ l, (Lit.int .u8 x).wf = true) (i : Nat) (h : i < l.length) : 0 ≤ l[i] ∧ l[i] ≤ 255 := bounds_u8 (hb l[i] (List.getElem_mem h))
theorem s_readU_go (l : List Int) (a : Int) (ha0 : 0 ≤ a) (ha : a < (l.length : Int)) (hl : l.length ≤ 100000000) (hb : ∀ x ∈ l, (Lit.int .u8 x).wf = true) (f : Nat) :
    ∀ (i : Nat) (n : Int), i + f = 6 → 0 ≤ n → n < 128 ^ i → Ev (fun k => spec_ReadUvarint.l0 k l a n i) (ended (dec f (decide (0 < i)) (l.drop (a.toNat + i))) n (128 ^ i) (a + i)) := by
  induction f with
  | zero =>
    intro i n hi h0 h1
    refine Ev.step (f := fun _ => some (0, 0, false)) (fun k => ?_) (Ev.now _)
    simp only [spec_ReadUvarint.l0]
    rw [if_neg (by omega)]
  | succ f ih =>
    intro i n hi h0 h1
    refine Ev.step (f := fun k => spec_ReadUvarint.j1 k l a n i (decide (a ≥ (l.length : Int) - i))) (fun k => ?_) ?_
    · simp only [spec_ReadUvarint.l0]
      rw [if_pos (by omega), if_neg (by omega), w64 (by omega) (by omega)]
    · by_cases hlt : a.toNat + i < l.length
      · have hc := byte_at hb (a.toNat + i) hlt
        have hd : l.drop (a.toNat + i) = l[a.toNat + i] :: l.drop (a.toNat + i + 1) := List.drop_eq_getElem_cons hlt
        have hr : rd l (a + (i : Int)) = l[a.toNat + i] := by
          have e := rd_nat l (a.toNat + i) hlt
          rw [show ((a.toNat + i : Nat) : Int) = a + i by omega] at e; exact e
        have hj := join7 i (by omega) n (l[a.toNat + i] % 128) h0 h1 (by omega) (by omega)
        have hm := ended_more (dec f true (l.drop (a.toNat + i + 1))) n (128 ^ i) (a + i) (l[a.toNat + i]) (128 ^ (i + 1)) (Int.pow_succ _ _)
        rw [hd]
        have hn : ∀ k, spec_ReadUvarint.j1 (k + 1) l a n i (decide (a ≥ (l.length : Int) - i)) = if l[a.toNat + i] < 128 then (if l[a.toNat + i] = 0 ∧ 0 < i then some (0, 0, false) else if n + l[a.toNat + i] % 128 * 128 ^ i > 1000000000000 then some (0, 0, false) else some (n + l[a.toNat + i] % 128 * 128 ^ i, a + i + 1, true)) else spec_ReadUvarint.l0 k l a (n + l[a.toNat + i] % 128 * 128 ^ i) ((i + 1 : Nat) : Int) := by
          intro k
          simp only [spec_ReadUvarint.j1]
          rw [if_neg (by simp; omega), w64 (n := a + (i : Int)) (by omega) (by omega), w64 (n := 7 * (i : Int)) (by omega) (by omega), if_pos (by omega), if_pos (by omega), if_pos (by omega), hr, w64 (n := l[a.toNat + i]) (by omega) (by omega), and127 (by omega) (by omega), hj.1, w64 (n := a + (i : Int) + 1) (by omega) (by omega), w64 (n := (i : Int) + 1) (by omega) (by omega)]
          by_cases g1 : l[a.toNat + i] < 128
          · rw [if_pos g1, if_pos g1]
            by_cases g2 : l[a.toNat + i] = 0
            · rw [if_pos g2]
              by_cases g3 : 0 < i
              · rw [if_pos (by omega), if_pos ⟨g2, g3⟩]
              · rw [if_neg (by omega), if_neg (show ¬ (l[a.toNat + i] = 0 ∧ 0 < i) from fun e => g3 e.2)]
            · rw [if_neg g2, if_neg (show ¬ (l[a.toNat + i] = 0 ∧ 0 < i) from fun e => g2 e.1)]
          · rw [if_neg g1, if_neg g1]; rfl
        by_cases g1 : l[a.toNat + i] < 128
        · refine Ev.step (f := fun _ => some (ended (dec (f + 1) (decide (0 < i)) (l[a.toNat + i] :: l.drop (a.toNat + i + 1))) n (128 ^ i) (a + i))) (fun k => ?_) (Ev.now _)
          rw [hn, if_pos g1]
          simp only [dec]
          rw [if_pos g1]
          by_cases g2 : l[a.toNat + i] = 0 ∧ 0 < i
          · rw [if_pos g2, if_pos ⟨by simp [g2.2], g2.1⟩]; rfl
          · rw [if_neg g2, if_neg (show ¬ (decide (0 < i) = true ∧ l[a.toNat + i] = 0) from fun e => g2 ⟨e.2, of_decide_eq_true e.1⟩)]
            simp only [ended]
            rw [Int.emod_eq_of_lt (by omega) g1, Int.mul_comm]
            by_cases g3 : n + 128 ^ i * l[a.toNat + i] > 1000000000000
            · rw [if_pos g3, if_pos g3]
            · rw [if_neg g3, if_neg g3]
        · simp only [dec]
          rw [if_neg g1, hm]
          refine Ev.step (f := fun k => spec_ReadUvarint.l0 k l a (n + l[a.toNat + i] % 128 * 128 ^ i) ((i + 1 : Nat) : Int)) (fun k => ?_) ?_
          · rw [hn, if_neg g1]
          · have e := ih (i + 1) (n + l[a.toNat + i] % 128 * 128 ^ i) (by omega) (by have := Int.pow_pos (n := 128) (m := i) (by decide); have := Int.mul_nonneg (show 0 ≤ l[a.toNat + i] % 128 by omega) (Int.le_of_lt this); omega) hj.2
            rw [show decide (0 < i + 1) = true by simp, show a + ((i + 1 : Nat) : Int) = a + i + 1 by omega] at e
            exact e
      · refine Ev.step (f := fun _ => some (0, 0, false)) (fun k => ?_) ?_
        · simp only [spec_ReadUvarint.j1]
          rw [if_pos (by simp; omega)]
        · rw [List.drop_eq_nil_of_le (by omega)]; exact Ev.now _
theorem s_readU (l : List Int) (a : Int) (hl : l.length ≤ 100000000) (hb : ∀ x ∈ l, (Lit.int .u8 x).wf = true) : Ev (fun k => spec_ReadUvarint.f k l a) (readU l a) := by
  unfold spec_ReadUvarint.f readU
  by_cases h : 0 ≤ a ∧ a < (l.length : Int)
  · rw [if_pos h]
    have e := s_readU_go l a h.1 h.2 hl hb 6 0 0 rfl (by omega) (by decide)
    simpa using e
  · rw [if_neg h]
    by_cases h1 : a < 0
    · refine Ev.step (f := fun k => spec_ReadUvarint.j1 k l a 0 0 true) (fun k => ?_) ?_
      · simp only [spec_ReadUvarint.l0]
        rw [if_pos (by omega), if_pos h1]
      · refine Ev.step (f := fun _ => some (0, 0, false)) (fun k => ?_) (Ev.now _)
        simp only [spec_ReadUvarint.j1, if_true]
    · refine Ev.step (f := fun k => spec_ReadUvarint.j1 k l a 0 0 true) (fun k => ?_) ?_
      · simp only [spec_ReadUvarint.l0]
        rw [if_pos (by omega), if_neg h1, w64 (by omega) (by omega), show decide (a ≥ (l.length : Int) - 0) = true by rw [decide_eq_true_eq]; omega]
      · refine Ev.step (f := fun _ => some (0, 0, false)) (fun k => ?_) (Ev.now _)
        simp only [spec_ReadUvarint.j1, if_true]
theorem i_readU_go (l : List Int) (a : Int) (ha0 : 0 ≤ a) (ha : a < (l.length : Int)) (hl : l.length ≤ 100000000) (hb : ∀ x ∈ l, (Lit.int .u8 x).wf = true) (f : Nat) :
    ∀ (i : Nat) (n : Int), i + f = 6 → 0 ≤ n → n < 128 ^ i → Ev (fun k => impl_ReadUvarint.l0 k a n (l.drop a.toNat) ((l.drop a.toNat).length : Int) i) (ended (dec f (decide (0 < i)) (l.drop (a.toNat + i))) n (128 ^ i) (a + i)) := by
  have hlen : (l.drop a.toNat).length = l.length - a.toNat := List.length_drop ..
  induction f with
  | zero =>
    intro i n hi h0 h1
    refine Ev.step (f := fun _ => some (0, 0, false)) (fun k => ?_) (Ev.now _)
    simp only [impl_ReadUvarint.l0]
    by_cases g : (i : Int) < ((l.drop a.toNat).length : Int)
    · rw [if_pos g, if_pos (by omega), if_pos g, if_pos (by omega)]
    · rw [if_neg g]
  | succ f ih =>
    intro i n hi h0 h1
    by_cases hlt : a.toNat + i < l.length
    · have hc := byte_at hb (a.toNat + i) hlt
      have hd : l.drop (a.toNat + i) = l[a.toNat + i] :: l.drop (a.toNat + i + 1) := List.drop_eq_getElem_cons hlt
      have hr : rd (l.drop a.toNat) (i : Int) = l[a.toNat + i] := by
        rw [rd_nat _ i (by omega), List.getElem_drop]
      have hj := join7 i (by omega) n (l[a.toNat + i] % 128) h0 h1 (by omega) (by omega)
      have hm := ended_more (dec f true (l.drop (a.toNat + i + 1))) n (128 ^ i) (a + i) (l[a.toNat + i]) (128 ^ (i + 1)) (Int.pow_succ _ _)
      rw [hd]
      have hn : ∀ k, impl_ReadUvarint.l0 (k + 1) a n (l.drop a.toNat) ((l.drop a.toNat).length : Int) i = if l[a.toNat + i] < 128 then (if l[a.toNat + i] = 0 ∧ 0 < i then some (0, 0, false) else if n + l[a.toNat + i] % 128 * 128 ^ i > 1000000000000 then some (0, 0, false) else some (n + l[a.toNat + i] % 128 * 128 ^ i, a + i + 1, true)) else impl_ReadUvarint.l0 k a (n + l[a.toNat + i] % 128 * 128 ^ i) (l.drop a.toNat) ((l.drop a.toNat).length : Int) ((i + 1 : Nat) : Int) := by
        intro k
        simp only [impl_ReadUvarint.l0]
        rw [if_pos (by omega), if_pos (by omega), if_pos (by omega), if_neg (by omega), w64 (n := 7 * (i : Int)) (by omega) (by omega), if_pos (by omega), hr, and127b (by omega) (by omega), w64 (n := l[a.toNat + i] % 128) (by omega) (by omega), hj.1, w64 (n := a + (i : Int)) (by omega) (by omega), w64 (n := a + (i : Int) + 1) (by omega) (by omega), w64 (n := (i : Int) + 1) (by omega) (by omega)]
        by_cases g1 : l[a.toNat + i] < 128
        · rw [if_pos g1, if_pos g1]
          by_cases g3 : 0 < i
          · rw [if_pos (show (i : Int) > 0 by omega)]
            by_cases g2 : l[a.toNat + i] = 0
            · rw [if_pos g2, if_pos ⟨g2, g3⟩]
            · rw [if_neg g2, if_neg (show ¬ (l[a.toNat + i] = 0 ∧ 0 < i) from fun e => g2 e.1)]
          · rw [if_neg (show ¬ (i : Int) > 0 by omega), if_neg (show ¬ (l[a.toNat + i] = 0 ∧ 0 < i) from fun e => g3 e.2)]
        · rw [if_neg g1, if_neg g1]; rfl
      by_cases g1 : l[a.toNat + i] < 128
      · refine Ev.step (f := fun _ => some (ended (dec (f + 1) (decide (0 < i)) (l[a.toNat + i] :: l.drop (a.toNat + i + 1))) n (128 ^ i) (a + i))) (fun k => ?_) (Ev.now _)
        rw [hn, if_pos g1]
        simp only [dec]
        rw [if_pos g1]
        by_cases g2 : l[a.toNat + i] = 0 ∧ 0 < i
        · rw [if_pos g2, if_pos ⟨by simp [g2.2], g2.1⟩]; rfl
        · rw [if_neg g2, if_neg (show ¬ (decide (0 < i) = true ∧ l[a.toNat + i] = 0) from fun e => g2 ⟨e.2, of_decide_eq_true e.1⟩)]
          simp only [ended]
          rw [Int.emod_eq_of_lt (by omega) g1, Int.mul_comm]
          by_cases g3 : n + 128 ^ i * l[a.toNat + i] > 1000000000000
          · rw [if_pos g3, if_pos g3]
          · rw [if_neg g3, if_neg g3]
      · simp only [dec]
        rw [if_neg g1, hm]
        refine Ev.step (f := fun k => impl_ReadUvarint.l0 k a (n + l[a.toNat + i] % 128 * 128 ^ i) (l.drop a.toNat) ((l.drop a.toNat).length : Int) ((i + 1 : Nat) : Int)) (fun k => ?_) ?_
        · rw [hn, if_neg g1]
        · have e := ih (i + 1) (n + l[a.toNat + i] % 128 * 128 ^ i) (by omega) (by have := Int.pow_pos (n := 128) (m := i) (by decide); have := Int.mul_nonneg (show 0 ≤ l[a.toNat + i] % 128 by omega) (Int.le_of_lt this); omega) hj.2
          rw [show decide (0 < i + 1) = true by simp, show a + ((i + 1 : Nat) : Int) = a + i + 1 by omega] at e
          exact e
    · refine Ev.step (f := fun _ => some (0, 0, false)) (fun k => ?_) ?_
      · simp only [impl_ReadUvarint.l0]
        rw [if_neg (by omega)]
      · rw [List.drop_eq_nil_of_le (by omega)]; exact Ev.now _
theorem i_readU (l : List Int) (a : Int) (hl : l.length ≤ 100000000) (hb : ∀ x ∈ l, (Lit.int .u8 x).wf = true) : Ev (fun k => impl_ReadUvarint.f k l a) (readU l a) := by
  unfold impl_ReadUvarint.f readU
  by_cases h : 0 ≤ a ∧ a < (l.length : Int)
  · rw [if_pos h]
    have e := i_readU_go l a h.1 h.2 hl hb 6 0 0 rfl (by omega) (by decide)
    simp only [i_In, Option.bind_some]
    rw [w64 (by omega) (by omega), show decide (0 ≤ a ∧ a ≤ (l.length : Int) - 1) = true by rw [decide_eq_true_eq]; omega]
    have h2 : a ≤ (l.length : Int) := by omega
    simp only [if_true, h.1, h2]
    simpa using e
  · rw [if_neg h]
    simp only [i_In, Option.bind_some]
    rw [w64 (by omega) (by omega), show decide (0 ≤ a ∧ a ≤ (l.length : Int) - 1) = false by rw [decide_eq_false_iff_not]; omega]
    exact Ev.now _
theorem s_In (a l h : Int) : spec_l1In.f a l h = some (decide (l ≤ a ∧ a ≤ h)) := by
  unfold spec_l1In.f; by_cases e : l ≤ a <;> simp [e]
/-- What DecodeInts gives: the numbers read one behind the other. -/
def decI (l : List Int) : Nat → Int → List Int → List Int × Int × Bool
  | 0, a, o => (o, a, true)
  | c + 1, a, o => if (readU l a).2.2 = true then decI l c (readU l a).2.1 (o ++ [(readU l a).1]) else ([], 0, false)
def decV (l : List Int) (a n : Int) : List Int × Int × Bool := if (0 ≤ n ∧ n ≤ 100) ∧ (0 ≤ a ∧ a ≤ (l.length : Int)) then decI l n.toNat a [] else ([], 0, false)
theorem decI_length (l : List Int) (c : Nat) : ∀ (a : Int) (o : List Int), (decI l c a o).1.length ≤ o.length + c := by
  induction c with
  | zero => intro a o; simp [decI]
  | succ c ih =>
    intro a o
    simp only [decI]
    split
    · have := ih (readU l a).2.1 (o ++ [(readU l a).1]); simp at this; omega
    · simp
theorem decV_length (l : List Int) (a n : Int) : (decV l a n).1.length ≤ 100 := by
  unfold decV; split
  · have := decI_length l n.toNat a []; simp at this; omega
  · simp
theorem dec_loop {L : Nat → Int → List Int → Int → Option (List Int × Int × Bool)} {R : Nat → List Int → Int → Option (Int × Int × Bool)} (l : List Int) (n : Nat) (hn : n ≤ 100) (hR : ∀ a, Ev (fun k => R k l a) (readU l a))
    (h : ∀ k a o i, L (k + 1) a o i = if i < (n : Int) then ((R k l a).bind fun r => if r.2.2 = true then (if o.length < 17592186044416 then L k r.2.1 (o ++ [r.1]) (wrap64 (i + 1)) else none) else some ([], 0, false)) else some (o, a, true)) (d : Nat) :
    ∀ (i : Nat) (a : Int) (o : List Int), i + d = n → o.length ≤ i → Ev (fun k => L k a o i) (decI l d a o) := by
  induction d with
  | zero =>
    intro i a o hi ho
    refine Ev.step (f := fun _ => some (o, a, true)) (fun k => ?_) (Ev.now _)
    rw [h, if_neg (by omega)]
  | succ d ih =>
    intro i a o hi ho
    refine Ev.step (f := fun k => (R k l a).bind fun r => if r.2.2 = true then L k r.2.1 (o ++ [r.1]) ((i + 1 : Nat) : Int) else some ([], 0, false)) (fun k => ?_) ?_
    · rw [h, if_pos (by omega), w64 (by omega) (by omega)]
      have ho2 : o.length < 17592186044416 := by omega
      simp only [ho2, if_true]; rfl
    · refine Ev.bind (f := fun k r => if r.2.2 = true then L k r.2.1 (o ++ [r.1]) ((i + 1 : Nat) : Int) else some ([], 0, false)) (hR a) ?_
      simp only [decI]
      by_cases g : (readU l a).2.2 = true
      · simp only [g, if_true]
        exact ih (i + 1) _ _ (by omega) (by simp; omega)
      · simp only [g, Bool.false_eq_true, if_false]; exact Ev.now _
theorem s_decV (l : List Int) (a n : Int) (hl : l.length ≤ 100000000) (hb : ∀ x ∈ l, (Lit.int .u8 x).wf = true) : Ev (fun k => spec_DecodeInts.f k l a n) (decV l a n) := by
  unfold spec_DecodeInts.f decV
  simp only [s_In, Option.bind_some]
  by_cases h1 : 0 ≤ n ∧ n ≤ 100
  · by_cases h2 : 0 ≤ a ∧ a ≤ (l.length : Int)
    · simp only [h1, h2, and_self, decide_true, if_true, Bool.not_true]
      refine Ev.step (f := fun k => spec_DecodeInts.l0 k l a n [] 0) (fun k => ?_) ?_
      · simp only [spec_DecodeInts.j0, Bool.false_eq_true, if_false]
      · have e := dec_loop (L := fun k a o i => spec_DecodeInts.l0 k l a (n.toNat : Int) o i) l n.toNat (by omega) (fun a => s_readU l a hl hb) (fun k a o i => by simp only [spec_DecodeInts.l0]) n.toNat 0 a [] (by omega) (by simp)
        rw [Int.toNat_of_nonneg h1.1] at e; exact e
    · simp only [h1, h2, and_self, and_false, decide_true, decide_false, if_true, if_false, Bool.not_false]
      refine Ev.step (f := fun _ => some ([], 0, false)) (fun k => ?_) (Ev.now _)
      simp only [spec_DecodeInts.j0, if_true]
  · simp only [h1, false_and, decide_false, Bool.false_eq_true, if_false]
    refine Ev.step (f := fun _ => some ([], 0, false)) (fun k => ?_) (Ev.now _)
    simp only [spec_DecodeInts.j0, if_true]
theorem i_decV (l : List Int) (a n : Int) (hl : l.length ≤ 100000000) (hb : ∀ x ∈ l, (Lit.int .u8 x).wf = true) : Ev (fun k => impl_DecodeInts.f k l a n) (decV l a n) := by
  unfold impl_DecodeInts.f decV
  simp only [i_In, Option.bind_some]
  by_cases h1 : 0 ≤ n ∧ n ≤ 100
  · by_cases h2 : 0 ≤ a ∧ a ≤ (l.length : Int)
    · simp only [h1, h2, and_self, decide_true, if_true, Bool.not_true]
      refine Ev.step (f := fun k => impl_DecodeInts.l0 k l a [] n 0) (fun k => ?_) ?_
      · simp only [impl_DecodeInts.j0, Bool.false_eq_true, if_false]
      · have e := dec_loop (L := fun k a o i => impl_DecodeInts.l0 k l a o (n.toNat : Int) i) l n.toNat (by omega) (fun a => i_readU l a hl hb) (fun k a o i => by simp only [impl_DecodeInts.l0]) n.toNat 0 a [] (by omega) (by simp)
        rw [Int.toNat_of_nonneg h1.1] at e; exact e
    · simp only [h1, h2, and_self, and_false, decide_true, decide_false, if_true, if_false, Bool.not_false]
      refine Ev.step (f := fun _ => some ([], 0, false)) (fun k => ?_) (Ev.now _)
      simp only [impl_DecodeInts.j0, if_true]
  · simp only [h1, false_and, decide_false, Bool.false_eq_true, if_false]
    refine Ev.step (f := fun _ => some ([], 0, false)) (fun k => ?_) (Ev.now _)
    simp only [impl_DecodeInts.j0, if_true]
theorem c_B (xs : List Int) (hx : xs.length ≤ 1048576) : Ev (fun k => laws_toByteS.f k xs) xs := by
  refine rounds_of (d := xs.length) (fun k hk => ?_)
  unfold laws_toByteS.f
  rw [if_pos (by omega), if_pos (by omega)]
  exact copy_loop (L := laws_toByteS.l0) (fun k x y i => by simp only [laws_toByteS.l0]) xs (by omega) xs.length 0 _ (by simp) (by omega) (by simp) k hk
theorem e_B (xs ys : List Int) (hx : xs.length ≤ 9000000000000000) : Ev (fun k => laws_eqByteS.f k xs ys) (decide (xs = ys)) := by
  refine rounds_of (d := xs.length) (fun k hk => ?_)
  unfold laws_eqByteS.f
  by_cases e : xs.length = ys.length
  · rw [if_pos (by omega)]
    exact eq_loop (L := fun k i => laws_eqByteS.l0 k xs ys i) xs ys (fun k i => by simp only [laws_eqByteS.l0]) e (by omega) xs.length 0 (by omega) (by simp) k hk
  · rw [if_neg (by omega)]
    congr 1; symm; rw [decide_eq_false_iff_not]; intro e'; exact e (by rw [e'])
theorem e_I (xs ys : List Int) (hx : xs.length ≤ 9000000000000000) : Ev (fun k => laws_eqIntS.f k xs ys) (decide (xs = ys)) := by
  refine rounds_of (d := xs.length) (fun k hk => ?_)
  unfold laws_eqIntS.f
  by_cases e : xs.length = ys.length
  · rw [if_pos (by omega)]
    exact eq_loop (L := fun k i => laws_eqIntS.l0 k xs ys i) xs ys (fun k i => by simp only [laws_eqIntS.l0]) e (by omega) xs.length 0 (by omega) (by simp) k hk
  · rw [if_neg (by omega)]
    congr 1; symm; rw [decide_eq_false_iff_not]; intro e'; exact e (by rw [e'])
theorem m_B (xs : List Int) (m : Int) (hm : 0 ≤ m) (hm2 : m ≤ 100000000) (hx : xs.length ≤ 100000000) : Ev (fun k => laws_markByteS.f k xs m) (m + (xs.length : Int), marks (· % 256) m xs.length) := by
  refine rounds_of (d := xs.length) (fun k hk => ?_)
  unfold laws_markByteS.f
  have h := mark_loop (L := laws_markByteS.l0) (φ := (· % 256)) (fun k x m i => by simp only [laws_markByteS.l0]) m xs.length (by omega) (by omega) (by omega) xs.length 0 xs rfl (by omega) (by simp [marks]) k hk
  rw [show m + ((0 : Nat) : Int) = m by omega] at h
  exact h
theorem m_I (xs : List Int) (m : Int) (hm : 0 ≤ m) (hm2 : m ≤ 100000000) (hx : xs.length ≤ 100000000) : Ev (fun k => laws_markIntS.f k xs m) (m + (xs.length : Int), marks (fun x => x) m xs.length) := by
  refine rounds_of (d := xs.length) (fun k hk => ?_)
  unfold laws_markIntS.f
  have h := mark_loop (L := laws_markIntS.l0) (φ := (fun x => x)) (fun k x m i => by simp only [laws_markIntS.l0]) m xs.length (by omega) (by omega) (by omega) xs.length 0 xs rfl (by omega) (by simp [marks]) k hk
  rw [show m + ((0 : Nat) : Int) = m by omega] at h
  exact h
theorem h_I (n : Nat) (hn : n ≤ 100000000) : Ev (fun k => laws_heldIntS.f k (marks (fun x => x) 1 n) 1) (1 + (n : Int)) := by
  refine rounds_of (d := n) (fun k hk => ?_)
  unfold laws_heldIntS.f
  have h := held_loop (L := laws_heldIntS.l0) (φ := fun x => x) (fun k x m i => by simp only [laws_heldIntS.l0]) 1 n (by omega) (by omega) (by omega) n 0 (by omega) k hk
  exact h
theorem FnExactDecodeInts : laws_FnExactDecodeInts.Pure := by
  intro a n m _ _ hw _ _
  unfold laws_FnExactDecodeInts.f
  by_cases h1 : (a.length : Int) > 1048576
  · exact ⟨0, by rw [if_pos h1]⟩
  have hn := decV_length a n m
  obtain ⟨K1, ha⟩ := evo (c_B a (by omega))
  obtain ⟨K2, ea⟩ := evo (e_B a a (by omega))
  obtain ⟨K3, hs⟩ := evo (s_decV a n m (by omega) hw)
  obtain ⟨K4, hi⟩ := evo (i_decV a n m (by omega) hw)
  obtain ⟨K5, eb⟩ := evo (e_I (decV a n m).1 (decV a n m).1 (by omega))
  obtain ⟨K6, ma⟩ := evo (m_B a 1 (by omega) (by omega) (by omega))
  obtain ⟨K7, mb⟩ := evo (m_I (decV a n m).1 1 (by omega) (by omega) (by omega))
  obtain ⟨K8, hb⟩ := evo (h_I (decV a n m).1.length (by omega))
  refine ⟨K1 + K2 + K3 + K4 + K5 + K6 + K7 + K8 + 3, ?_⟩
  generalize hK : K1 + K2 + K3 + K4 + K5 + K6 + K7 + K8 = K
  rw [if_neg h1]
  simp only [ha (K + 3) (by omega), hs (K + 3) (by omega), hi (K + 3) (by omega), eb (K + 3) (by omega), Option.bind_some, decide_true, if_true, bne_self_eq_false]
  simp only [laws_FnExactDecodeInts.j0, ha (K + 2) (by omega), ea (K + 2) (by omega), ma (K + 2) (by omega), eb (K + 2) (by omega), Option.bind_some, decide_true, if_true, bne_self_eq_false, Bool.false_eq_true, if_false]
  rw [if_neg (by omega)]
  simp only [laws_FnExactDecodeInts.j1, ha (K + 1) (by omega), hi (K + 1) (by omega), mb (K + 1) (by omega), hb (K + 1) (by omega), eb (K + 1) (by omega), Option.bind_some, decide_true, if_true, bne_self_eq_false, Bool.false_eq_true, if_false]
  rw [if_neg (by omega)]
  simp only [laws_FnExactDecodeInts.j2, hb K (by omega), Option.bind_some, if_true, Bool.false_eq_true, if_false]
  rw [if_neg (by omega)]

end Go.Proofs.Yteehlniclobkbaa.Pure
