/- The law FnVarints returns true for each input of bytes. Conditions: each number is a byte; the reach of memory. -/
import Derived.Test.YteehlniclobkbaaQFnVarintsx4
import Derived.Test.YteehlniclobkbaaLib
import Derived.Test.YteehlniclobkbaaDraw
import Derived.Test.YteehlniclobkbaaVar
import Derived.Test.YteehlniclobkbaaVar
namespace Go.Proofs.Yteehlniclobkbaa.Pure
open Go.RowKit Go.Proofs.Yteehlniclobkbaa.QFnVarints Go.Proofs.YteehlniclobkbaaW.PrintWords Go.Proofs.YteehlniclobkbaaW.PrintLast Go.Proofs.YteehlniclobkbaaW.PrintMore Go.Proofs.Yteehlniclobkbaa.Lib Go.Proofs.Yteehlniclobkbaa.Var Go.Proofs.Yteehlniclobkbaa.Var Go.Proofs.Yteehlniclobkbaa.Var Go.Proofs.Yteehlniclobkbaa.Draw

theorem big_le (l : List Int) : laws_big.f l = some (decide ((l.length : Int) > 1048576)) := rfl
theorem d_New (l : List Int) (hl : l.length ≤ 1048576) : ∃ h, Ev (fun k => spec_l1New.f k l) (l, 0, h) := by
  unfold spec_l1New.f
  exact new_loop (L := fun k h i => spec_l1New.l0 k l h i) (M := fun h i => Go.bits .and .i64 (wrap64 ((wrap64 ((wrap64 (h * 137)) + (wrap64 (rd l i)))) + 11)) 1073741823) l (by omega) (fun k h i => by simp only [spec_l1New.l0]) l.length 0 _ (by omega)
theorem d_Byte (b : List Int) (hl : b.length ≤ 1048576) (i h : Int) (h0 : 0 ≤ i) (h1 : i ≤ (b.length : Int)) : Ok (spec_l1Byte.f b i h) b.length fun v => 0 ≤ v ∧ v ≤ 255 := by
  unfold spec_l1Byte.f
  refine Ok.ite (fun g => ?_) (fun g => ?_)
  · rw [if_pos h0, w64 (n := i + 1) (by omega) (by omega)]
    exact Ok.now (by omega) (by omega) (and255 _)
  · exact Ok.now h0 h1 (and255 _)
theorem d_Below (b : List Int) (hl : b.length ≤ 1048576) (n i h : Int) (h0 : 0 ≤ i) (h1 : i ≤ (b.length : Int)) : Ok (spec_l1Below.f b i h n) b.length fun v => 0 ≤ v ∧ (0 < n → v < n) ∧ (n ≤ 0 → v = 0) := by
  unfold spec_l1Below.f
  refine Ok.ite (fun g => Ok.now h0 h1 (by omega)) (fun g => Ok.ite (fun g2 => ?_) (fun g2 => ?_))
  · refine Ok.bind (d_Byte b hl i h h0 h1) (fun v i h h0 h1 hv => ?_)
    dsimp only
    rw [if_neg (by omega)]
    have := tmod_bd (x := v) (n := n) (by omega) (by omega)
    exact Ok.now h0 h1 (by omega)
  · refine Ok.bind (d_Byte b hl i h h0 h1) (fun x i h h0 h1 hx => ?_)
    refine Ok.bind (d_Byte b hl i h h0 h1) (fun y i h h0 h1 hy => ?_)
    refine Ok.bind (d_Byte b hl i h h0 h1) (fun z i h h0 h1 hz => ?_)
    dsimp only
    rw [if_neg (by omega), w64 (n := x * 65536) (by omega) (by omega), w64 (n := y * 256) (by omega) (by omega), w64 (n := x * 65536 + y * 256) (by omega) (by omega), w64 (n := x * 65536 + y * 256 + z) (by omega) (by omega)]
    have := tmod_bd (x := x * 65536 + y * 256 + z) (n := n) (by omega) (by omega)
    exact Ok.now h0 h1 (by omega)
theorem d_Bytes (b : List Int) (hl : b.length ≤ 1048576) (n : Int) (hn0 : 0 ≤ n) (hn : n ≤ 1000) (i h : Int) (h0 : 0 ≤ i) (h1 : i ≤ (b.length : Int)) : OkE (fun k => spec_l1Bytes.f k b i h n) b.length fun v => v.length = n.toNat ∧ ∀ x ∈ v, 0 ≤ x ∧ x ≤ 255 := by
  unfold spec_l1Bytes.f
  have e := bytes_loop (L := fun k o j i h => spec_l1Bytes.l0 k (n.toNat : Int) o j b i h) (B := fun i h => spec_l1Byte.f b i h) b n.toNat (by omega) (fun i h => d_Byte b hl i h) (fun k o j i h => by simp only [spec_l1Bytes.l0]) n.toNat 0 [] i h (by omega) (by simp) h0 h1 (by simp)
  rw [Int.toNat_of_nonneg hn0] at e
  exact e
theorem d_Int (b : List Int) (hl : b.length ≤ 1048576) (l : List Int) (hn : 0 < l.length) (i h : Int) (h0 : 0 ≤ i) (h1 : i ≤ (b.length : Int)) : Ok (spec_l1Int.f b i h l) b.length fun v => v ∈ l := by
  unfold spec_l1Int.f
  refine Ok.bind (d_Below b hl _ i h h0 h1) (fun v i h h0 h1 hv => ?_)
  dsimp only
  rw [if_pos (by omega), if_pos (by omega)]
  exact Ok.now h0 h1 (rd_mem (by omega) (by omega))
theorem d_Num (b : List Int) (hl : b.length ≤ 1048576) (i h : Int) (h0 : 0 ≤ i) (h1 : i ≤ (b.length : Int)) : Ok (spec_l1Num.f b i h) b.length fun v => 0 ≤ v ∧ v ≤ 1000000000000 := by
  unfold spec_l1Num.f
  refine Ok.bind (d_Below b hl _ i h h0 h1) (fun v i h h0 h1 hv => ?_)
  refine Ok.ite (fun _ => ?_) (fun _ => Ok.ite (fun _ => ?_) (fun _ => Ok.ite (fun _ => ?_) (fun _ => ?_)))
  · exact Ok.bind (d_Below b hl _ i h h0 h1) (fun v i h h0 h1 hv => Ok.now h0 h1 (by omega))
  · refine Ok.bind (d_Int b hl _ (by decide) i h h0 h1) (fun v i h h0 h1 hv => Ok.now h0 h1 ?_)
    simp only [List.mem_cons, List.not_mem_nil, or_false] at hv
    dsimp only at hv ⊢; omega
  · refine Ok.bind (d_Below b hl _ i h h0 h1) (fun v i h h0 h1 hv => ?_)
    refine Ok.bind (d_Below b hl _ i h h0 h1) (fun w i h h0 h1 hw => Ok.now h0 h1 ?_)
    have : 0 ≤ v * w := Int.mul_nonneg (by omega) (by omega)
    have : v * w ≤ 1000000 * 1000000 := Int.mul_le_mul (by omega) (by omega) (by omega) (by omega)
    dsimp only
    rw [w64 (by omega) (by omega)]; omega
  · exact Ok.bind (d_Below b hl _ i h h0 h1) (fun v i h h0 h1 hv => Ok.now h0 h1 (by omega))
theorem d_Once (b : List Int) (hl : b.length ≤ 1048576) (n i h : Int) (h0 : 0 ≤ i) (h1 : i ≤ (b.length : Int)) : Ok (spec_l1Once.f b i h n) b.length fun _ => True := by
  unfold spec_l1Once.f
  exact Ok.bind (d_Below b hl n i h h0 h1) (fun v i h h0 h1 _ => Ok.now h0 h1 trivial)
theorem d_Odd (b : List Int) (hl : b.length ≤ 1048576) (i h : Int) (h0 : 0 ≤ i) (h1 : i ≤ (b.length : Int)) : Ok (spec_l1Odd.f b i h) b.length fun v => -9223372036854775808 ≤ v ∧ v ≤ 9223372036854775807 := by
  unfold spec_l1Odd.f
  refine Ok.bind (d_Int b hl _ (by decide) i h h0 h1) (fun v i h h0 h1 hv => Ok.now h0 h1 ?_)
  simp only [List.mem_cons, List.not_mem_nil, or_false] at hv
  dsimp only at hv ⊢; omega
theorem d_Raw (b : List Int) (hl : b.length ≤ 1048576) (i h : Int) (h0 : 0 ≤ i) (h1 : i ≤ (b.length : Int)) : Ok (spec_l1Raw.f b i h) b.length fun v => -9223372036854775808 ≤ v ∧ v ≤ 9223372036854775807 := by
  unfold spec_l1Raw.f
  refine Ok.bind (d_Once b hl _ i h h0 h1) (fun v i h h0 h1 _ => ?_)
  refine Ok.ite (fun _ => ?_) (fun _ => ?_)
  · exact Ok.bind (d_Odd b hl i h h0 h1) (fun v i h h0 h1 hv => Ok.now h0 h1 hv)
  · refine Ok.bind (d_Int b hl _ (by decide) i h h0 h1) (fun v i h h0 h1 hv => Ok.now h0 h1 ?_)
    simp only [List.mem_cons, List.not_mem_nil, or_false] at hv
    dsimp only at hv ⊢; omega
theorem d_One (b : List Int) (hl : b.length ≤ 1048576) (i h : Int) (h0 : 0 ≤ i) (h1 : i ≤ (b.length : Int)) : Ok (spec_l1One.f b i h) b.length fun v => -9223372036854775808 ≤ v ∧ v ≤ 9223372036854775807 := by
  unfold spec_l1One.f
  refine Ok.bind (d_Once b hl _ i h h0 h1) (fun v i h h0 h1 _ => ?_)
  refine Ok.ite (fun _ => ?_) (fun _ => ?_)
  · exact Ok.bind (d_Raw b hl i h h0 h1) (fun v i h h0 h1 hv => Ok.now h0 h1 hv)
  · exact Ok.bind (d_Num b hl i h h0 h1) (fun v i h h0 h1 hv => Ok.now h0 h1 (by dsimp only at hv ⊢; omega))
theorem d_DrawApp (l : List Int) (hl : l.length ≤ 1048576) : ∃ b n, Ev (fun k => spec_DrawAppendUvarint.f k l) (b, n) ∧ b.length ≤ 2 ∧ (∀ x ∈ b, (Lit.int .u8 x).wf = true) := by
  obtain ⟨h, e⟩ := d_New l hl
  obtain ⟨c, i1, h1, e1, a1, b1, p1⟩ := d_Below l hl 3 0 h (by omega) (by omega)
  obtain ⟨bs, i2, h2, e2, a2, b2, p2, q2⟩ := d_Bytes l hl c (by omega) (by omega) i1 h1 a1 b1
  obtain ⟨n, i3, h3, e3, a3, b3, p3⟩ := d_One l hl i2 h2 a2 b2
  obtain ⟨K1, e⟩ := evo e
  obtain ⟨K2, e2⟩ := evo e2
  refine ⟨bs, n, ⟨K1 + K2, fun k hk => ?_⟩, by omega, fun x hx => wf8 (q2 x hx)⟩
  show spec_DrawAppendUvarint.f k l = _
  unfold spec_DrawAppendUvarint.f
  simp only [e k (by omega), e1, e2 k (by omega), e3, Option.bind_some]
theorem s_In (a l h : Int) : spec_l1In.f a l h = some (decide (l ≤ a ∧ a ≤ h)) := by
  unfold spec_l1In.f; by_cases e : l ≤ a <;> simp [e]
theorem i_In (a l h : Int) : impl_InRange.f a l h = some (decide (l ≤ a ∧ a ≤ h)) := by
  unfold impl_InRange.f; by_cases e : l ≤ a <;> simp [e]
theorem s_app (b : List Int) (n : Int) (hb : b.length ≤ 100000000000) : Ev (fun k => spec_AppendUvarint.f k b n) (appU b n) := by
  unfold appU
  by_cases h : 0 ≤ n ∧ n ≤ 1000000000000
  · rw [if_pos h]
    refine rounds_of (d := 5) (fun k hk => ?_)
    unfold spec_AppendUvarint.f
    simp only [s_In, h, Option.bind_some, and_self, decide_true, if_true, List.nil_append, List.length_nil]
    rw [if_pos (by omega)]
    have e := uv_loop (L := spec_AppendUvarint.l0) (fun k n o hn ho => ?_) 5 n.toNat b (by omega) (by omega) (by omega) k hk
    · rw [Int.toNat_of_nonneg h.1] at e; exact e
    · simp only [spec_AppendUvarint.l0]
      rw [if_pos ho, and127 (by omega) (by omega)]
      by_cases g : 128 ≤ n
      · rw [if_pos (by omega), if_pos g, or128 (by omega) (by omega), show (n : Int) / 128 = ((n / 128 : Nat) : Int) by omega, show ((n : Int) % 128 + 128) % 256 = ((n % 128 + 128 : Nat) : Int) by omega]
      · rw [if_neg (by omega), if_neg g, if_pos ho]
        congr 3; omega
  · rw [if_neg h]
    refine ⟨0, fun k _ => ?_⟩
    unfold spec_AppendUvarint.f
    simp only [s_In, h, Option.bind_some, decide_false, Bool.false_eq_true, if_false, List.nil_append, List.length_nil]
    rw [if_pos (by omega)]
theorem i_app (b : List Int) (n : Int) (hb : b.length ≤ 100000000000) : Ev (fun k => impl_AppendUvarint.f k b n) (appU b n) := by
  have hc : impl_clone_byte.f b = some b := by
    unfold impl_clone_byte.f; simp only [Option.bind_some, List.nil_append, List.length_nil]; rw [if_pos (by omega)]
  unfold appU
  by_cases h : 0 ≤ n ∧ n ≤ 1000000000000
  · rw [if_pos h]
    refine rounds_of (d := 5) (fun k hk => ?_)
    unfold impl_AppendUvarint.f
    rw [hc]
    simp only [i_In, h, Option.bind_some, and_self, decide_true, if_true]
    have e := uv_loop (L := impl_AppendUvarint.l0) (fun k n o hn ho => ?_) 5 n.toNat b (by omega) (by omega) (by omega) k hk
    · rw [Int.toNat_of_nonneg h.1] at e; exact e
    · simp only [impl_AppendUvarint.l0]
      rw [if_pos ho]
      by_cases g : 128 ≤ n
      · rw [if_pos (by omega), if_pos g, Int.tdiv_eq_ediv_of_nonneg (by omega), Int.tmod_eq_emod_of_nonneg (by omega), w64 (by omega) (by omega), w64 (by omega) (by omega), show (n : Int) / 128 = ((n / 128 : Nat) : Int) by omega, show ((n : Int) % 128 + 128) % 256 = ((n % 128 + 128 : Nat) : Int) by omega]
      · rw [if_neg (by omega), if_neg g, if_pos ho]
        congr 3; omega
  · rw [if_neg h]
    refine ⟨0, fun k _ => ?_⟩
    unfold impl_AppendUvarint.f
    rw [hc]
    simp only [i_In, h, Option.bind_some, decide_false, Bool.false_eq_true, if_false]
theorem byte_at {l : List Int} (hb : ∀ x ∈ l, (Lit.int .u8 x).wf = true) (i : Nat) (h : i < l.length) : 0 ≤ l[i] ∧ l[i] ≤ 255 := bounds_u8 (hb l[i] (List.getElem_mem h))
theorem s_readU_go (l : List Int) (a : Int) (ha0 : 0 ≤ a) (ha : a < (l.length : Int)) (hl : l.length ≤ 100000000) (hb : ∀ x ∈ l, (Lit.int .u8 x).wf = true) (f : Nat) :
    ∀ (i : Nat) (n : Int), i + f = 6 → 0 ≤ n → n < 128 ^ i → Ev (fun k => spec_ReadUvarint.l0 k l a n i) (ended (dec f (decide (0 < i)) (l.drop (a.toNat + i))) n (128 ^ i) (a + i)) := by
  induction f with
  | zero =>
    intro i n hi h0 h1
    refine Ev.step (f := fun _ => some (0, 0, false)) (fun k => ?_) (Ev.now _)
    simp only [spec_ReadUvarint.l0]
    rw [if_neg (by omega)]
  | succ f ih =>
    intro i n hi h0 h1
    refine Ev.step (f := fun k => spec_ReadUvarint.j1 k l a n i (decide (a ≥ (l.length : Int) - i))) (fun k => ?_) ?_
    · simp only [spec_ReadUvarint.l0]
      rw [if_pos (by omega), if_neg (by omega), w64 (by omega) (by omega)]
    · by_cases hlt : a.toNat + i < l.length
      · have hc := byte_at hb (a.toNat + i) hlt
        have hd : l.drop (a.toNat + i) = l[a.toNat + i] :: l.drop (a.toNat + i + 1) := List.drop_eq_getElem_cons hlt
        have hr : rd l (a + (i : Int)) = l[a.toNat + i] := by
          have e := rd_nat l (a.toNat + i) hlt
          rw [show ((a.toNat + i : Nat) : Int) = a + i by omega] at e; exact e
        have hj := join7 i (by omega) n (l[a.toNat + i] % 128) h0 h1 (by omega) (by omega)
        have hm := ended_more (dec f true (l.drop (a.toNat + i + 1))) n (128 ^ i) (a + i) (l[a.toNat + i]) (128 ^ (i + 1)) (Int.pow_succ _ _)
        rw [hd]
        have hn : ∀ k, spec_ReadUvarint.j1 (k + 1) l a n i (decide (a ≥ (l.length : Int) - i)) = if l[a.toNat + i] < 128 then (if l[a.toNat + i] = 0 ∧ 0 < i then some (0, 0, false) else if n + l[a.toNat + i] % 128 * 128 ^ i > 1000000000000 then some (0, 0, false) else some (n + l[a.toNat + i] % 128 * 128 ^ i, a + i + 1, true)) else spec_ReadUvarint.l0 k l a (n + l[a.toNat + i] % 128 * 128 ^ i) ((i + 1 : Nat) : Int) := by
          intro k
          simp only [spec_ReadUvarint.j1]
          rw [if_neg (by simp; omega), w64 (n := a + (i : Int)) (by omega) (by omega), w64 (n := 7 * (i : Int)) (by omega) (by omega), if_pos (by omega), if_pos (by omega), if_pos (by omega), hr, w64 (n := l[a.toNat + i]) (by omega) (by omega), and127 (by omega) (by omega), hj.1, w64 (n := a + (i : Int) + 1) (by omega) (by omega), w64 (n := (i : Int) + 1) (by omega) (by omega)]
          by_cases g1 : l[a.toNat + i] < 128
          · rw [if_pos g1, if_pos g1]
            by_cases g2 : l[a.toNat + i] = 0
            · rw [if_pos g2]
              by_cases g3 : 0 < i
              · rw [if_pos (by omega), if_pos ⟨g2, g3⟩]
              · rw [if_neg (by omega), if_neg (show ¬ (l[a.toNat + i] = 0 ∧ 0 < i) from fun e => g3 e.2)]
            · rw [if_neg g2, if_neg (show ¬ (l[a.toNat + i] = 0 ∧ 0 < i) from fun e => g2 e.1)]
          · rw [if_neg g1, if_neg g1]; rfl
        by_cases g1 : l[a.toNat + i] < 128
        · refine Ev.step (f := fun _ => some (ended (dec (f + 1) (decide (0 < i)) (l[a.toNat + i] :: l.drop (a.toNat + i + 1))) n (128 ^ i) (a + i))) (fun k => ?_) (Ev.now _)
          rw [hn, if_pos g1]
          simp only [dec]
          rw [if_pos g1]
          by_cases g2 : l[a.toNat + i] = 0 ∧ 0 < i
          · rw [if_pos g2, if_pos ⟨by simp [g2.2], g2.1⟩]; rfl
          · rw [if_neg g2, if_neg (show ¬ (decide (0 < i) = true ∧ l[a.toNat + i] = 0) from fun e => g2 ⟨e.2, of_decide_eq_true e.1⟩)]
            simp only [ended]
            rw [Int.emod_eq_of_lt (by omega) g1, Int.mul_comm]
            by_cases g3 : n + 128 ^ i * l[a.toNat + i] > 1000000000000
            · rw [if_pos g3, if_pos g3]
            · rw [if_neg g3, if_neg g3]
        · simp only [dec]
          rw [if_neg g1, hm]
          refine Ev.step (f := fun k => spec_ReadUvarint.l0 k l a (n + l[a.toNat + i] % 128 * 128 ^ i) ((i + 1 : Nat) : Int)) (fun k => ?_) ?_
          · rw [hn, if_neg g1]
          · have e := ih (i + 1) (n + l[a.toNat + i] % 128 * 128 ^ i) (by omega) (by have := Int.pow_pos (n := 128) (m := i) (by decide); have := Int.mul_nonneg (show 0 ≤ l[a.toNat + i] % 128 by omega) (Int.le_of_lt this); omega) hj.2
            rw [show decide (0 < i + 1) = true by simp, show a + ((i + 1 : Nat) : Int) = a + i + 1 by omega] at e
            exact e
      · refine Ev.step (f := fun _ => some (0, 0, false)) (fun k => ?_) ?_
        · simp only [spec_ReadUvarint.j1]
          rw [if_pos (by simp; omega)]
        · rw [List.drop_eq_nil_of_le (by omega)]; exact Ev.now _
theorem s_readU (l : List Int) (a : Int) (hl : l.length ≤ 100000000) (hb : ∀ x ∈ l, (Lit.int .u8 x).wf = true) : Ev (fun k => spec_ReadUvarint.f k l a) (readU l a) := by
  unfold spec_ReadUvarint.f readU
  by_cases h : 0 ≤ a ∧ a < (l.length : Int)
  · rw [if_pos h]
    have e := s_readU_go l a h.1 h.2 hl hb 6 0 0 rfl (by omega) (by decide)
    simpa using e
  · rw [if_neg h]
    by_cases h1 : a < 0
    · refine Ev.step (f := fun k => spec_ReadUvarint.j1 k l a 0 0 true) (fun k => ?_) ?_
      · simp only [spec_ReadUvarint.l0]
        rw [if_pos (by omega), if_pos h1]
      · refine Ev.step (f := fun _ => some (0, 0, false)) (fun k => ?_) (Ev.now _)
        simp only [spec_ReadUvarint.j1, if_true]
    · refine Ev.step (f := fun k => spec_ReadUvarint.j1 k l a 0 0 true) (fun k => ?_) ?_
      · simp only [spec_ReadUvarint.l0]
        rw [if_pos (by omega), if_neg h1, w64 (by omega) (by omega), show decide (a ≥ (l.length : Int) - 0) = true by rw [decide_eq_true_eq]; omega]
      · refine Ev.step (f := fun _ => some (0, 0, false)) (fun k => ?_) (Ev.now _)
        simp only [spec_ReadUvarint.j1, if_true]
theorem i_readU_go (l : List Int) (a : Int) (ha0 : 0 ≤ a) (ha : a < (l.length : Int)) (hl : l.length ≤ 100000000) (hb : ∀ x ∈ l, (Lit.int .u8 x).wf = true) (f : Nat) :
    ∀ (i : Nat) (n : Int), i + f = 6 → 0 ≤ n → n < 128 ^ i → Ev (fun k => impl_ReadUvarint.l0 k a n (l.drop a.toNat) ((l.drop a.toNat).length : Int) i) (ended (dec f (decide (0 < i)) (l.drop (a.toNat + i))) n (128 ^ i) (a + i)) := by
  have hlen : (l.drop a.toNat).length = l.length - a.toNat := List.length_drop ..
  induction f with
  | zero =>
    intro i n hi h0 h1
    refine Ev.step (f := fun _ => some (0, 0, false)) (fun k => ?_) (Ev.now _)
    simp only [impl_ReadUvarint.l0]
    by_cases g : (i : Int) < ((l.drop a.toNat).length : Int)
    · rw [if_pos g, if_pos (by omega), if_pos g, if_pos (by omega)]
    · rw [if_neg g]
  | succ f ih =>
    intro i n hi h0 h1
    by_cases hlt : a.toNat + i < l.length
    · have hc := byte_at hb (a.toNat + i) hlt
      have hd : l.drop (a.toNat + i) = l[a.toNat + i] :: l.drop (a.toNat + i + 1) := List.drop_eq_getElem_cons hlt
      have hr : rd (l.drop a.toNat) (i : Int) = l[a.toNat + i] := by
        rw [rd_nat _ i (by omega), List.getElem_drop]
      have hj := join7 i (by omega) n (l[a.toNat + i] % 128) h0 h1 (by omega) (by omega)
      have hm := ended_more (dec f true (l.drop (a.toNat + i + 1))) n (128 ^ i) (a + i) (l[a.toNat + i]) (128 ^ (i + 1)) (Int.pow_succ _ _)
      rw [hd]
      have hn : ∀ k, impl_ReadUvarint.l0 (k + 1) a n (l.drop a.toNat) ((l.drop a.toNat).length : Int) i = if l[a.toNat + i] < 128 then (if l[a.toNat + i] = 0 ∧ 0 < i then some (0, 0, false) else if n + l[a.toNat + i] % 128 * 128 ^ i > 1000000000000 then some (0, 0, false) else some (n + l[a.toNat + i] % 128 * 128 ^ i, a + i + 1, true)) else impl_ReadUvarint.l0 k a (n + l[a.toNat + i] % 128 * 128 ^ i) (l.drop a.toNat) ((l.drop a.toNat).length : Int) ((i + 1 : Nat) : Int) := by
        intro k
        simp only [impl_ReadUvarint.l0]
        rw [if_pos (by omega), if_pos (by omega), if_pos (by omega), if_neg (by omega), w64 (n := 7 * (i : Int)) (by omega) (by omega), if_pos (by omega), hr, and127b (by omega) (by omega), w64 (n := l[a.toNat + i] % 128) (by omega) (by omega), hj.1, w64 (n := a + (i : Int)) (by omega) (by omega), w64 (n := a + (i : Int) + 1) (by omega) (by omega), w64 (n := (i : Int) + 1) (by omega) (by omega)]
        by_cases g1 : l[a.toNat + i] < 128
        · rw [if_pos g1, if_pos g1]
          by_cases g3 : 0 < i
          · rw [if_pos (show (i : Int) > 0 by omega)]
            by_cases g2 : l[a.toNat + i] = 0
            · rw [if_pos g2, if_pos ⟨g2, g3⟩]
            · rw [if_neg g2, if_neg (show ¬ (l[a.toNat + i] = 0 ∧ 0 < i) from fun e => g2 e.1)]
          · rw [if_neg (show ¬ (i : Int) > 0 by omega), if_neg (show ¬ (l[a.toNat + i] = 0 ∧ 0 < i) from fun e => g3 e.2)]
        · rw [if_neg g1, if_neg g1]; rfl
      by_cases g1 : l[a.toNat + i] < 128
      · refine Ev.step (f := fun _ => some (ended (dec (f + 1) (decide (0 < i)) (l[a.toNat + i] :: l.drop (a.toNat + i + 1))) n (128 ^ i) (a + i))) (fun k => ?_) (Ev.now _)
        rw [hn, if_pos g1]
        simp only [dec]
        rw [if_pos g1]
        by_cases g2 : l[a.toNat + i] = 0 ∧ 0 < i
        · rw [if_pos g2, if_pos ⟨by simp [g2.2], g2.1⟩]; rfl
        · rw [if_neg g2, if_neg (show ¬ (decide (0 < i) = true ∧ l[a.toNat + i] = 0) from fun e => g2 ⟨e.2, of_decide_eq_true e.1⟩)]
          simp only [ended]
          rw [Int.emod_eq_of_lt (by omega) g1, Int.mul_comm]
          by_cases g3 : n + 128 ^ i * l[a.toNat + i] > 1000000000000
          · rw [if_pos g3, if_pos g3]
          · rw [if_neg g3, if_neg g3]
      · simp only [dec]
        rw [if_neg g1, hm]
        refine Ev.step (f := fun k => impl_ReadUvarint.l0 k a (n + l[a.toNat + i] % 128 * 128 ^ i) (l.drop a.toNat) ((l.drop a.toNat).length : Int) ((i + 1 : Nat) : Int)) (fun k => ?_) ?_
        · rw [hn, if_neg g1]
        · have e := ih (i + 1) (n + l[a.toNat + i] % 128 * 128 ^ i) (by omega) (by have := Int.pow_pos (n := 128) (m := i) (by decide); have := Int.mul_nonneg (show 0 ≤ l[a.toNat + i] % 128 by omega) (Int.le_of_lt this); omega) hj.2
          rw [show decide (0 < i + 1) = true by simp, show a + ((i + 1 : Nat) : Int) = a + i + 1 by omega] at e
          exact e
    · refine Ev.step (f := fun _ => some (0, 0, false)) (fun k => ?_) ?_
      · simp only [impl_ReadUvarint.l0]
        rw [if_neg (by omega)]
      · rw [List.drop_eq_nil_of_le (by omega)]; exact Ev.now _
theorem i_readU (l : List Int) (a : Int) (hl : l.length ≤ 100000000) (hb : ∀ x ∈ l, (Lit.int .u8 x).wf = true) : Ev (fun k => impl_ReadUvarint.f k l a) (readU l a) := by
  unfold impl_ReadUvarint.f readU
  by_cases h : 0 ≤ a ∧ a < (l.length : Int)
  · rw [if_pos h]
    have e := i_readU_go l a h.1 h.2 hl hb 6 0 0 rfl (by omega) (by decide)
    simp only [i_In, Option.bind_some]
    rw [w64 (by omega) (by omega), show decide (0 ≤ a ∧ a ≤ (l.length : Int) - 1) = true by rw [decide_eq_true_eq]; omega]
    have h2 : a ≤ (l.length : Int) := by omega
    simp only [if_true, h.1, h2]
    simpa using e
  · rw [if_neg h]
    simp only [i_In, Option.bind_some]
    rw [w64 (by omega) (by omega), show decide (0 ≤ a ∧ a ≤ (l.length : Int) - 1) = false by rw [decide_eq_false_iff_not]; omega]
    exact Ev.now _
theorem d_ReadLoop (l : List Int) (hl : l.length ≤ 1048576) (d : Nat) : ∀ (o : List Int) (i h : Int), o.length + d ≤ 100 → 0 ≤ i → i ≤ (l.length : Int) → (∀ x ∈ o, 0 ≤ x ∧ x ≤ 255) → ∃ y a, Ev (fun k => spec_DrawReadUvarint.l0 k o d l i h) (y, a) ∧ y.length ≤ 100 ∧ (∀ x ∈ y, (Lit.int .u8 x).wf = true) := by
  induction d with
  | zero =>
    intro o i h ho h0 h1 hb
    obtain ⟨c, i1, h1, e1, a1, b1, p1⟩ := d_Below l hl 4 i h h0 h1
    refine ⟨o, wrap64 (c - 1), Ev.step (f := fun _ => some (o, wrap64 (c - 1))) (fun k => ?_) (Ev.now _), by omega, fun x hx => wf8 (hb x hx)⟩
    simp only [spec_DrawReadUvarint.l0]
    rw [if_neg (by omega), e1]; rfl
  | succ d ih =>
    intro o i h ho h0 h1 hb
    obtain ⟨c, i1, h1, e1, a1, b1, p1⟩ := d_Int l hl [128, 255, 0, 1, 127] (by decide) i h h0 h1
    obtain ⟨y, a, e, hy⟩ := ih (o ++ [c % 256]) i1 h1 (by simp; omega) a1 b1 (fun x hx => by
      rcases List.mem_append.1 hx with hx | hx
      · exact hb x hx
      · simp at hx; omega)
    refine ⟨y, a, Ev.step (f := fun k => spec_DrawReadUvarint.l0 k (o ++ [c % 256]) d l i1 h1) (fun k => ?_) e, hy⟩
    simp only [spec_DrawReadUvarint.l0]
    rw [if_pos (by omega), e1, w64 (by omega) (by omega), show ((d + 1 : Nat) : Int) - 1 = (d : Int) by omega]
    simp only [Option.bind_some]
    rw [if_pos (by omega)]
theorem d_DrawRead (l : List Int) (hl : l.length ≤ 1048576) : ∃ y a, Ev (fun k => spec_DrawReadUvarint.f k l) (y, a) ∧ y.length ≤ 100 ∧ (∀ x ∈ y, (Lit.int .u8 x).wf = true) := by
  obtain ⟨h, e⟩ := d_New l hl
  obtain ⟨K1, e⟩ := evo e
  obtain ⟨z, i1, h1, e1, a1, b1, _⟩ := d_Once l hl 2 0 h (by omega) (by omega)
  cases z with
  | true =>
    obtain ⟨bs, i2, h2, e2, a2, b2, p2, q2⟩ := d_Bytes l hl 1 (by omega) (by omega) i1 h1 a1 b1
    obtain ⟨K2, e2⟩ := evo e2
    obtain ⟨n, i3, h3, e3, a3, b3, p3⟩ := d_Num l hl i2 h2 a2 b2
    have hn := appU_length bs n
    obtain ⟨K3, e4⟩ := evo (s_app bs n (by omega))
    refine ⟨appU bs n, 1, ⟨K1 + K2 + K3, fun k hk => ?_⟩, by omega, appU_wf (fun x hx => wf8 (q2 x hx)) n⟩
    show spec_DrawReadUvarint.f k l = _
    unfold spec_DrawReadUvarint.f
    simp only [e k (by omega), e1, e2 k (by omega), e3, e4 k (by omega), Option.bind_some, if_true]
  | false =>
    obtain ⟨c, i2, h2, e2, a2, b2, p2⟩ := d_Below l hl 8 i1 h1 a1 b1
    obtain ⟨y, a, e3, hy⟩ := d_ReadLoop l hl c.toNat [] i2 h2 (by simp; omega) a2 b2 (by simp)
    obtain ⟨K3, e3⟩ := evo e3
    refine ⟨y, a, ⟨K1 + K3, fun k hk => ?_⟩, hy⟩
    have e4 := e3 k (by omega)
    rw [Int.toNat_of_nonneg p2.1] at e4
    show spec_DrawReadUvarint.f k l = _
    unfold spec_DrawReadUvarint.f
    simp only [e k (by omega), e1, e2, e4, Option.bind_some, Bool.false_eq_true, if_false]
theorem sm_B (xs ys : List Int) (hx : xs.length ≤ 9000000000000000) : Ev (fun k => laws_sameBytes.f k xs ys) (decide (xs = ys)) := by
  refine rounds_of (d := xs.length) (fun k hk => ?_)
  unfold laws_sameBytes.f
  by_cases e : xs.length = ys.length
  · rw [if_pos (by omega)]
    exact eq_loop (L := fun k i => laws_sameBytes.l0 k xs ys i) xs ys (fun k i => by simp only [laws_sameBytes.l0]) e (by omega) xs.length 0 (by omega) (by simp) k hk
  · rw [if_neg (by omega)]
    congr 1; symm; rw [decide_eq_false_iff_not]; intro e'; exact e (by rw [e'])
theorem j1_true (l : List Int) (hl : l.length ≤ 1048576) : Ev (fun k => laws_FnVarints.j1 k l) true := by
  obtain ⟨y, a, e, hy, hw⟩ := d_DrawRead l hl
  obtain ⟨K1, e⟩ := evo e
  obtain ⟨K2, e2⟩ := evo (i_readU y a (by omega) hw)
  obtain ⟨K3, e3⟩ := evo (s_readU y a (by omega) hw)
  rcases hr : readU y a with ⟨m, p, ok⟩
  rw [hr] at e2 e3
  cases ok with
  | false =>
    obtain ⟨rfl, rfl⟩ := readU_no hr
    refine ⟨K1 + K2 + K3 + 1, fun k hk => ?_⟩
    obtain ⟨k, rfl⟩ : ∃ m, k = m + 1 := ⟨k - 1, by omega⟩
    simp only [laws_FnVarints.j1, e k (by omega), e2 k (by omega), e3 k (by omega), Option.bind_some]
    simp
  | true =>
    obtain ⟨g1, g2, g3, g4, g5⟩ := readU_ok hw hr
    have ht := readU_take hw hr
    obtain ⟨K4, e4⟩ := evo (i_app [] m (by simp))
    have hu : appU [] m = uv m.toNat := by unfold appU; rw [if_pos ⟨g2, g3⟩]; rfl
    have hlen := uv_length6 (n := m.toNat) (by omega)
    rw [hu] at e4
    obtain ⟨K5, e5⟩ := evo (sm_B (uv m.toNat) (uv m.toNat) (by omega))
    refine ⟨K1 + K2 + K3 + K4 + K5 + 1, fun k hk => ?_⟩
    obtain ⟨k, rfl⟩ : ∃ m, k = m + 1 := ⟨k - 1, by omega⟩
    simp only [laws_FnVarints.j1, e k (by omega), e2 k (by omega), e4 k (by omega), Option.bind_some, if_true]
    rw [if_pos (by omega), if_pos (by omega), if_pos (by omega), if_pos (by omega), if_pos (by omega), ht, e5 k (by omega)]
    simp
theorem FnVarints : laws_FnVarints.Pure := by
  intro l _ _ _
  unfold laws_FnVarints.f
  rw [big_le]
  simp only [Option.bind_some]
  by_cases h1 : (l.length : Int) > 1048576
  · exact ⟨0, by simp [h1]⟩
  simp only [h1, decide_false, Bool.false_eq_true, if_false]
  refine Ev.rounds ?_
  obtain ⟨b, n, e, hb, hw⟩ := d_DrawApp l (by omega)
  refine Ev.bind (f := fun k r => (impl_AppendUvarint.f k r.1 r.2).bind fun t272 => ((impl_ReadUvarint.f k t272 (r.1.length : Int)).bind fun bt275 => (if r.2 < 0 then (laws_FnVarints.j0 k l r.1 r.2 t272 bt275.1 bt275.2.1 bt275.2.2 true) else (laws_FnVarints.j0 k l r.1 r.2 t272 bt275.1 bt275.2.1 bt275.2.2 (decide (r.2 > 1000000000000)))))) e ?_
  have hn := appU_length b n
  refine Ev.bind (f := fun k t272 => ((impl_ReadUvarint.f k t272 (b.length : Int)).bind fun bt275 => (if n < 0 then (laws_FnVarints.j0 k l b n t272 bt275.1 bt275.2.1 bt275.2.2 true) else (laws_FnVarints.j0 k l b n t272 bt275.1 bt275.2.1 bt275.2.2 (decide (n > 1000000000000)))))) (i_app b n (by omega)) ?_
  refine Ev.bind (f := fun k bt275 => (if n < 0 then (laws_FnVarints.j0 k l b n (appU b n) bt275.1 bt275.2.1 bt275.2.2 true) else (laws_FnVarints.j0 k l b n (appU b n) bt275.1 bt275.2.1 bt275.2.2 (decide (n > 1000000000000))))) (i_readU (appU b n) (b.length : Int) (by omega) (appU_wf hw n)) ?_
  by_cases h2 : 0 ≤ n ∧ n ≤ 1000000000000
  · have hu : appU b n = b ++ uv n.toNat := by unfold appU; rw [if_pos h2]
    have hr := readU_put b n h2.1 h2.2 []
    rw [List.append_nil] at hr
    rw [hu, hr]
    simp only
    refine Ev.step (f := fun k => laws_FnVarints.j1 k l) (fun k => ?_) (j1_true l (by omega))
    rw [if_neg (by omega), show decide (n > 1000000000000) = false by rw [decide_eq_false_iff_not]; omega]
    simp only [laws_FnVarints.j0, Bool.false_eq_true, if_false, if_true]
  · have hu : appU b n = b := by unfold appU; rw [if_neg h2]
    have hr : readU b (b.length : Int) = (0, 0, false) := by unfold readU; rw [if_neg (by omega)]
    rw [hu, hr]
    simp only
    refine Ev.step (f := fun k => (laws_sameBytes.f k b b).bind fun t => if t = true then laws_FnVarints.j1 k l else some false) (fun k => ?_) (Ev.bind (f := fun k t => if t = true then laws_FnVarints.j1 k l else some false) (sm_B b b (by omega)) ?_)
    · by_cases h3 : n < 0
      · rw [if_pos h3]; simp only [laws_FnVarints.j0, Bool.false_eq_true, if_false, if_true]
      · rw [if_neg h3, show decide (n > 1000000000000) = true by rw [decide_eq_true_eq]; omega]
        simp only [laws_FnVarints.j0, Bool.false_eq_true, if_false, if_true]
    · simp only [decide_true, if_true]
      exact j1_true l (by omega)

end Go.Proofs.Yteehlniclobkbaa.Pure
