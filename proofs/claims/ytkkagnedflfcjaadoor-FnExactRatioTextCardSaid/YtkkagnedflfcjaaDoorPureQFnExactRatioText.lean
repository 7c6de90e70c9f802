/- The law FnExactRatioText returns true for each ratio. Conditions: both numbers are ints. -/
import Derived.Test.YtkkagnedflfcjaaDoorQFnExactRatioTextx2
import Derived.Test.YtkkagnedflfcjaaDoorLib
namespace Go.Proofs.YtkkagnedflfcjaaDoor.Pure
open Go.RowKit Go.Proofs.YtkkagnedflfcjaaDoor.QFnExactRatioText Go.Proofs.YtkkagnedflfcjaaDoorW.PrintWords Go.Proofs.YtkkagnedflfcjaaDoorW.PrintLast Go.Proofs.YtkkagnedflfcjaaDoorW.PrintMore Go.Proofs.YtkkagnedflfcjaaDoor.Lib 

theorem s_In (a l h : Int) : spec_l1In.f a l h = some (decide (l ≤ a ∧ a ≤ h)) := by
  unfold spec_l1In.f; by_cases e : l ≤ a <;> simp [e]
theorem i_In (a l h : Int) : impl_InRange.f a l h = some (decide (l ≤ a ∧ a ≤ h)) := by
  unfold impl_InRange.f; by_cases e : l ≤ a <;> simp [e]
theorem s_gcd {a b : Int} (ha : 0 ≤ a) (hb : 0 ≤ b) : Ev (fun k => spec_l4Gcd.f k a b) (Int.gcd a b : Int) := by
  refine rounds_of (d := b.toNat) (fun k hk => ?_)
  unfold spec_l4Gcd.f
  exact gcd_loop (L := spec_l4Gcd.l0) (fun k a b => by simp only [spec_l4Gcd.l0]) b.toNat a b ha hb (Nat.le_refl _) k hk
theorem i_gcd {a b : Int} (ha : 0 ≤ a) (hb : 0 ≤ b) : Ev (fun k => impl_divisor.f k a b) (Int.gcd a b : Int) := by
  refine rounds_of (d := b.toNat) (fun k hk => ?_)
  unfold impl_divisor.f
  exact gcd_loop (L := impl_divisor.l0) (fun k a b => by simp only [impl_divisor.l0]) b.toNat a b ha hb (Nat.le_refl _) k hk
theorem s_abs {n : Int} (h1 : -9223372036854775808 < n) (h2 : n ≤ 9223372036854775807) : spec_l4Abs.f n = some (n.natAbs : Int) := by
  unfold spec_l4Abs.f; rw [w64 (by omega) (by omega)]; split <;> (congr 1; omega)
theorem isR_out {n d : Int} (h : ¬ ((1 ≤ d ∧ d ≤ 1000000) ∧ (-1000000000 ≤ n ∧ n ≤ 1000000000))) : isR n d = false := by
  unfold isR; rw [decide_eq_false_iff_not]; intro e; exact h ⟨e.1, e.2.1⟩
theorem isR_in {n d : Int} (h : (1 ≤ d ∧ d ≤ 1000000) ∧ (-1000000000 ≤ n ∧ n ≤ 1000000000)) : isR n d = ((Int.gcd n d : Int) == 1) := by
  unfold isR
  rw [Bool.eq_iff_iff, decide_eq_true_eq, beq_iff_eq]
  constructor
  · intro e; rw [e.2.2]; rfl
  · intro e; exact ⟨h.1, h.2, by omega⟩
theorem s_isR (n d : Int) : Ev (fun k => spec_IsRatio.f k n d) (isR n d) := by
  by_cases h1 : 1 ≤ d ∧ d ≤ 1000000
  · by_cases h2 : -1000000000 ≤ n ∧ n ≤ 1000000000
    · obtain ⟨K, hK⟩ := s_gcd (a := (n.natAbs : Int)) (b := d) (by omega) (by omega)
      refine ⟨K, fun k hk => ?_⟩
      unfold spec_IsRatio.f
      simp only [s_In, h1, h2, s_abs (show -9223372036854775808 < n by omega) (by omega), hK k hk, Option.bind_some, if_true, and_self, decide_true]
      rw [gcd_natAbs, isR_in ⟨h1, h2⟩]
    · refine ⟨0, fun k _ => ?_⟩
      unfold spec_IsRatio.f
      rw [isR_out (fun e => h2 e.2)]
      simp only [s_In, h1, h2, Option.bind_some, if_true, and_self, decide_true, decide_false, Bool.false_eq_true, if_false]
  · refine ⟨0, fun k _ => ?_⟩
    unfold spec_IsRatio.f
    rw [isR_out (fun e => h1 e.1)]
    simp only [s_In, h1, Option.bind_some, decide_false, Bool.false_eq_true, if_false]
theorem i_isR (n d : Int) : Ev (fun k => impl_IsRatio.f k n d) (isR n d) := by
  by_cases h1 : 1 ≤ d ∧ d ≤ 1000000
  · by_cases h2 : -1000000000 ≤ n ∧ n ≤ 1000000000
    · obtain ⟨K, hK⟩ := i_gcd (a := (n.natAbs : Int)) (b := d) (by omega) (by omega)
      refine ⟨K, fun k hk => ?_⟩
      unfold impl_IsRatio.f
      simp only [i_In, h1, h2, mx_abs (show -9223372036854775808 < n by omega) (show n ≤ 9223372036854775807 by omega), hK k hk, Option.bind_some, if_true, and_self, decide_true]
      rw [gcd_natAbs, isR_in ⟨h1, h2⟩]
    · refine ⟨0, fun k _ => ?_⟩
      unfold impl_IsRatio.f
      rw [isR_out (fun e => h2 e.2)]
      simp only [i_In, h1, h2, Option.bind_some, if_true, and_self, decide_true, decide_false, Bool.false_eq_true, if_false]
  · refine ⟨0, fun k _ => ?_⟩
    unfold impl_IsRatio.f
    rw [isR_out (fun e => h1 e.1)]
    simp only [i_In, h1, Option.bind_some, decide_false, Bool.false_eq_true, if_false]
theorem gcd_ne {n d : Int} (hd : 0 < d) : (Int.gcd n d : Int) ≠ 0 := by
  have := Int.gcd_pos_of_ne_zero_right n (show d ≠ 0 by omega); omega
theorem isR_pos {n d : Int} (h : isR n d = true) : (1 ≤ d ∧ d ≤ 1000000) ∧ (-1000000000 ≤ n ∧ n ≤ 1000000000) ∧ Int.gcd n d = 1 := by
  unfold isR at h; exact of_decide_eq_true h
theorem mul_bd {x y a b : Int} (hx : -a ≤ x ∧ x ≤ a) (hy : -b ≤ y ∧ y ≤ b) : -(a * b) ≤ x * y ∧ x * y ≤ a * b := by
  have h1 : x.natAbs ≤ a.natAbs := by omega
  have h2 : y.natAbs ≤ b.natAbs := by omega
  have h3 : (x * y).natAbs ≤ a.natAbs * b.natAbs := by rw [Int.natAbs_mul]; exact Nat.mul_le_mul h1 h2
  have h4 : (a * b).natAbs = a.natAbs * b.natAbs := Int.natAbs_mul a b
  have h5 : 0 ≤ a * b := Int.mul_nonneg (by omega) (by omega)
  omega
def sg (n : Int) : List UInt8 := if n < 0 then [45] else []
theorem ba_ext {a b : ByteArray} (h : a.data.toList = b.data.toList) : a = b := by
  cases a; cases b; simp only [ByteArray.mk.injEq]; exact Array.toList_inj.1 h
theorem fmt_step (n x : Int) (s : ByteArray) (k : Nat) (hx : x ≠ 0) (h0 : -9223372036854775808 ≤ x) (h1 : x ≤ 9223372036854775807) (hs : s.size ≤ 1000) :
    spec_FormatInt.l0 (k + 1) n s x = spec_FormatInt.l0 k n (strOfNums [((48 + x.natAbs % 10 : Nat) : Int)] ++ s) (Int.tdiv x 10) := by
  have hz : ∀ z : Int, (strOfNums [z]).size = 1 := fun z => rfl
  have hd : wrap64 (Int.tdiv x 10) = Int.tdiv x 10 := by
    have : -9223372036854775808 ≤ Int.tdiv x 10 ∧ Int.tdiv x 10 ≤ 9223372036854775807 := by
      rcases Int.le_total 0 x with g | g
      · rw [Int.tdiv_eq_ediv_of_nonneg g]; omega
      · obtain ⟨y, rfl⟩ : ∃ y, x = -y := ⟨-x, by omega⟩
        rw [Int.neg_tdiv, Int.tdiv_eq_ediv_of_nonneg (by omega)]; omega
    exact w64 this.1 this.2
  have hm : Int.tmod x 10 = if x < 0 then -((x.natAbs % 10 : Nat) : Int) else ((x.natAbs % 10 : Nat) : Int) := by
    split
    · rename_i g
      obtain ⟨y, rfl⟩ : ∃ y, x = -y := ⟨-x, by omega⟩
      rw [Int.neg_tmod, Int.tmod_eq_emod_of_nonneg (by omega)]; omega
    · rename_i g
      rw [Int.tmod_eq_emod_of_nonneg (by omega)]; omega
  simp only [spec_FormatInt.l0]
  rw [if_neg hx, hd]
  by_cases c : Int.tmod x 10 < 0
  · rw [if_pos c]
    have g : x < 0 := by
      rw [hm] at c; split at c
      · assumption
      · omega
    rw [hm, if_pos g]
    have e : (wrap64 (48 + wrap64 (- -((x.natAbs % 10 : Nat) : Int)))) % 256 = ((48 + x.natAbs % 10 : Nat) : Int) := by
      rw [Int.neg_neg, w64 (n := ((x.natAbs % 10 : Nat) : Int)) (by omega) (by omega), w64 (by omega) (by omega)]; omega
    simp only [e, Option.bind_some]
    rw [if_pos (by rw [hz]; omega)]
  · rw [if_neg c]
    have e2 : Int.tmod x 10 = ((x.natAbs % 10 : Nat) : Int) := by
      rw [hm] at c ⊢; split
      · rename_i g; rw [if_pos g] at c; omega
      · rfl
    rw [e2]
    have e : (wrap64 (48 + ((x.natAbs % 10 : Nat) : Int))) % 256 = ((48 + x.natAbs % 10 : Nat) : Int) := by
      rw [w64 (by omega) (by omega)]; omega
    simp only [e, Option.bind_some]
    rw [if_pos (by rw [hz]; omega)]
theorem fmt_end (n : Int) (s : ByteArray) (k : Nat) (hs : s.size ≤ 1000) : spec_FormatInt.l0 (k + 1) n s 0 = some ⟨(sg n ++ s.data.toList).toArray⟩ := by
  simp only [spec_FormatInt.l0]
  rw [if_pos trivial]
  unfold sg
  by_cases c : n < 0
  · rw [if_pos c, if_pos (by omega), if_pos c]
    exact congrArg some (ba_ext (by simp [ByteArray.data_append]))
  · rw [if_neg c, if_neg c]
    exact congrArg some (ba_ext (by simp))
theorem fmt_loop (n : Int) : ∀ (j : Nat) (x : Int) (s : ByteArray), x ≠ 0 → x.natAbs < 10 ^ j → -9223372036854775808 ≤ x → x ≤ 9223372036854775807 → s.size + j ≤ 1000 → ∀ k, j < k → spec_FormatInt.l0 k n s x = some ⟨(sg n ++ Lib.decDigits x.natAbs ++ s.data.toList).toArray⟩ := by
  intro j
  induction j with
  | zero => intro x s hx hb; exfalso; simp at hb; omega
  | succ j ih =>
    intro x s hx hb h0 h1 hs k hk
    obtain ⟨k, rfl⟩ : ∃ m, k = m + 1 := ⟨k - 1, by omega⟩
    rw [fmt_step n x s k hx h0 h1 (by omega)]
    have hd : (Int.tdiv x 10).natAbs = x.natAbs / 10 := by
      rw [Int.natAbs_tdiv]; rfl
    have hsz : (strOfNums [((48 + x.natAbs % 10 : Nat) : Int)] ++ s).size = 1 + s.size := by rw [ByteArray.size_append]; rfl
    have hdata : (strOfNums [((48 + x.natAbs % 10 : Nat) : Int)] ++ s).data.toList = UInt8.ofNat (48 + x.natAbs % 10) :: s.data.toList := by
      rw [ByteArray.data_append, Array.toList_append, strOfNums_data]; rfl
    by_cases c : x.natAbs < 10
    · have e0 : Int.tdiv x 10 = 0 := by
        have : (Int.tdiv x 10).natAbs = 0 := by rw [hd]; omega
        omega
      obtain ⟨k, rfl⟩ : ∃ m, k = m + 1 := ⟨k - 1, by omega⟩
      rw [e0, fmt_end n _ k (by rw [hsz]; omega), hdata, Lib.decDigits_one c]
      have : x.natAbs % 10 = x.natAbs := Nat.mod_eq_of_lt c
      rw [this]
      simp
    · have hne : Int.tdiv x 10 ≠ 0 := fun e => by
        have : (Int.tdiv x 10).natAbs = 0 := by rw [e]; rfl
        rw [hd] at this; omega
      have hb2 : (Int.tdiv x 10).natAbs < 10 ^ j := by
        rw [hd]; rw [Nat.pow_succ] at hb; omega
      have hr : -9223372036854775808 ≤ Int.tdiv x 10 ∧ Int.tdiv x 10 ≤ 9223372036854775807 := by omega
      rw [ih (Int.tdiv x 10) _ hne hb2 hr.1 hr.2 (by rw [hsz]; omega) k (by omega), hdata, hd]
      have hD : Lib.decDigits x.natAbs = Lib.decDigits (x.natAbs / 10) ++ [UInt8.ofNat (48 + x.natAbs % 10)] := by
        rw [Lib.decDigits, dif_neg c]
      rw [hD]
      simp
/-- The spec's text of a number is Go's own. -/
theorem s_fmt (n : Int) (h0 : -9223372036854775808 ≤ n) (h1 : n ≤ 9223372036854775807) (k : Nat) (hk : 20 < k) : spec_FormatInt.f k n = some ⟨(Lib.itoa n).toArray⟩ := by
  unfold spec_FormatInt.f Lib.itoa
  by_cases c : n = 0
  · subst c
    rw [if_pos rfl]
    have : Lib.decDigits 0 = [48] := Lib.decDigits_one (by decide)
    simp [this]
  · rw [if_neg c, fmt_loop n 20 n _ c (by omega) h0 h1 (by decide) k hk]
    unfold sg
    by_cases g : n < 0
    · rw [if_pos g, if_pos g]; simp
    · rw [if_neg g, if_neg g]
      have : n.natAbs = n.toNat := by omega
      rw [this]; simp
theorem i_fmt (n : Int) (h0 : -9223372036854775808 ≤ n) (h1 : n ≤ 9223372036854775807) : impl_FormatInt.f n = some ⟨(Lib.itoa n).toArray⟩ := by
  show Option.bind (if _ then some _ else none) _ = _
  rw [if_pos ⟨h0, h1⟩]; rfl
theorem dec_len (u : Nat) : (Lib.decDigits u).length ≤ u + 1 := by
  induction u using Nat.strongRecOn with
  | _ u ih =>
    by_cases c : u < 10
    · rw [Lib.decDigits_one c]; simp
    · have := ih (u / 10) (by omega)
      rw [Lib.decDigits, dif_neg c]
      simp only [List.length_append, List.length_cons, List.length_nil]
      omega
theorem itoa_len (n : Int) : (Lib.itoa n).length ≤ n.natAbs + 2 := by
  unfold Lib.itoa
  split
  · have := dec_len n.natAbs; simp only [List.length_cons]; omega
  · have := dec_len n.toNat; omega
theorem itoa_size (n : Int) : (⟨(Lib.itoa n).toArray⟩ : ByteArray).size ≤ n.natAbs + 2 := by
  have := itoa_len n
  show (Lib.itoa n).toArray.size ≤ _
  simpa using this
def rtx (n d : Int) : ByteArray := if isR n d = true then (if d = 1 then ⟨(Lib.itoa n).toArray⟩ else (⟨(Lib.itoa n).toArray⟩ ++ ⟨#[47]⟩) ++ ⟨(Lib.itoa d).toArray⟩) else ⟨#[]⟩
theorem s_rtx (n d : Int) : Ev (fun k => spec_RatioText.f k n d) (rtx n d) := by
  obtain ⟨K1, h1⟩ := evo (s_isR n d)
  refine ⟨K1 + 21, fun k hk => ?_⟩
  show spec_RatioText.f k n d = _
  unfold spec_RatioText.f rtx
  simp only [h1 k (by omega), Option.bind_some]
  by_cases c : isR n d = true
  · have p := isR_pos c
    have z1 := itoa_size n
    have z2 := itoa_size d
    rw [if_pos c, if_pos c]
    simp only [s_fmt n (by omega) (by omega) k (by omega), s_fmt d (by omega) (by omega) k (by omega), Option.bind_some]
    by_cases c1 : d = 1
    · rw [if_pos c1, if_pos c1]
    · rw [if_neg c1, if_neg c1, if_pos (by omega), if_pos (by
        rw [ByteArray.size_append]
        have : (⟨#[47]⟩ : ByteArray).size = 1 := rfl
        omega)]
  · rw [if_neg c, if_neg c]
theorem i_rtx (n d : Int) : Ev (fun k => impl_RatioText.f k n d) (rtx n d) := by
  obtain ⟨K1, h1⟩ := evo (i_isR n d)
  refine ⟨K1, fun k hk => ?_⟩
  show impl_RatioText.f k n d = _
  unfold impl_RatioText.f rtx
  simp only [h1 k (by omega), Option.bind_some]
  by_cases c : isR n d = true
  · have p := isR_pos c
    have z1 := itoa_size n
    have z2 := itoa_size d
    rw [if_pos c, if_pos c]
    simp only [i_fmt n (by omega) (by omega), i_fmt d (by omega) (by omega), Option.bind_some]
    by_cases c1 : d = 1
    · rw [if_pos c1, if_pos c1]
    · rw [if_neg c1, if_neg c1, if_pos (by omega), if_pos (by
        rw [ByteArray.size_append]
        have : (⟨#[47]⟩ : ByteArray).size = 1 := rfl
        omega)]
  · rw [if_neg c, if_neg c]
theorem FnExactRatioText : ∀ (a b : Int), (Lit.int .i64 a).wf = true → (Lit.int .i64 b).wf = true → ∃ k, laws_FnExactRatioText.f k a b = some true := by
  intro a b _ _
  obtain ⟨K1, h1⟩ := evo (s_rtx a b)
  obtain ⟨K2, h2⟩ := evo (i_rtx a b)
  refine ⟨K1 + K2, ?_⟩
  unfold laws_FnExactRatioText.f laws_toRatio.f
  simp only [Option.bind_some, h1 (K1 + K2) (by omega), h2 (K1 + K2) (by omega), if_true]

end Go.Proofs.YtkkagnedflfcjaaDoor.Pure
