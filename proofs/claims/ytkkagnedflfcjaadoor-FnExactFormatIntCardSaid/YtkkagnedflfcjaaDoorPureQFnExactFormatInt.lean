/- The law FnExactFormatInt returns true for each number. Conditions: it is an int. -/
import Derived.Test.YtkkagnedflfcjaaDoorQFnExactFormatIntx1
import Derived.Test.YtkkagnedflfcjaaDoorLib
namespace Go.Proofs.YtkkagnedflfcjaaDoor.Pure
open Go.RowKit Go.Proofs.YtkkagnedflfcjaaDoor.QFnExactFormatInt Go.Proofs.YtkkagnedflfcjaaDoorW.PrintWords Go.Proofs.YtkkagnedflfcjaaDoorW.PrintLast Go.Proofs.YtkkagnedflfcjaaDoorW.PrintMore Go.Proofs.YtkkagnedflfcjaaDoor.Lib 

def sg (n : Int) : List UInt8 := if n < 0 then [45] else []
theorem ba_ext {a b : ByteArray} (h : a.data.toList = b.data.toList) : a = b := by
  cases a; cases b; simp only [ByteArray.mk.injEq]; exact Array.toList_inj.1 h
theorem fmt_step (n x : Int) (s : ByteArray) (k : Nat) (hx : x ≠ 0) (h0 : -9223372036854775808 ≤ x) (h1 : x ≤ 9223372036854775807) (hs : s.size ≤ 1000) :
    spec_FormatInt.l0 (k + 1) n s x = spec_FormatInt.l0 k n (strOfNums [((48 + x.natAbs % 10 : Nat) : Int)] ++ s) (Int.tdiv x 10) := by
  have hz : ∀ z : Int, (strOfNums [z]).size = 1 := fun z => rfl
  have hd : wrap64 (Int.tdiv x 10) = Int.tdiv x 10 := by
    have : -9223372036854775808 ≤ Int.tdiv x 10 ∧ Int.tdiv x 10 ≤ 9223372036854775807 := by
      rcases Int.le_total 0 x with g | g
      · rw [Int.tdiv_eq_ediv_of_nonneg g]; omega
      · obtain ⟨y, rfl⟩ : ∃ y, x = -y := ⟨-x, by omega⟩
        rw [Int.neg_tdiv, Int.tdiv_eq_ediv_of_nonneg (by omega)]; omega
    exact w64 this.1 this.2
  have hm : Int.tmod x 10 = if x < 0 then -((x.natAbs % 10 : Nat) : Int) else ((x.natAbs % 10 : Nat) : Int) := by
    split
    · rename_i g
      obtain ⟨y, rfl⟩ : ∃ y, x = -y := ⟨-x, by omega⟩
      rw [Int.neg_tmod, Int.tmod_eq_emod_of_nonneg (by omega)]; omega
    · rename_i g
      rw [Int.tmod_eq_emod_of_nonneg (by omega)]; omega
  simp only [spec_FormatInt.l0]
  rw [if_neg hx, hd]
  by_cases c : Int.tmod x 10 < 0
  · rw [if_pos c]
    have g : x < 0 := by
      rw [hm] at c; split at c
      · assumption
      · omega
    rw [hm, if_pos g]
    have e : (wrap64 (48 + wrap64 (- -((x.natAbs % 10 : Nat) : Int)))) % 256 = ((48 + x.natAbs % 10 : Nat) : Int) := by
      rw [Int.neg_neg, w64 (n := ((x.natAbs % 10 : Nat) : Int)) (by omega) (by omega), w64 (by omega) (by omega)]; omega
    simp only [e, Option.bind_some]
    rw [if_pos (by rw [hz]; omega)]
  · rw [if_neg c]
    have e2 : Int.tmod x 10 = ((x.natAbs % 10 : Nat) : Int) := by
      rw [hm] at c ⊢; split
      · rename_i g; rw [if_pos g] at c; omega
      · rfl
    rw [e2]
    have e : (wrap64 (48 + ((x.natAbs % 10 : Nat) : Int))) % 256 = ((48 + x.natAbs % 10 : Nat) : Int) := by
      rw [w64 (by omega) (by omega)]; omega
    simp only [e, Option.bind_some]
    rw [if_pos (by rw [hz]; omega)]
theorem fmt_end (n : Int) (s : ByteArray) (k : Nat) (hs : s.size ≤ 1000) : spec_FormatInt.l0 (k + 1) n s 0 = some ⟨(sg n ++ s.data.toList).toArray⟩ := by
  simp only [spec_FormatInt.l0]
  rw [if_pos trivial]
  unfold sg
  by_cases c : n < 0
  · rw [if_pos c, if_pos (by omega), if_pos c]
    exact congrArg some (ba_ext (by simp [ByteArray.data_append]))
  · rw [if_neg c, if_neg c]
    exact congrArg some (ba_ext (by simp))
theorem fmt_loop (n : Int) : ∀ (j : Nat) (x : Int) (s : ByteArray), x ≠ 0 → x.natAbs < 10 ^ j → -9223372036854775808 ≤ x → x ≤ 9223372036854775807 → s.size + j ≤ 1000 → ∀ k, j < k → spec_FormatInt.l0 k n s x = some ⟨(sg n ++ Lib.decDigits x.natAbs ++ s.data.toList).toArray⟩ := by
  intro j
  induction j with
  | zero => intro x s hx hb; exfalso; simp at hb; omega
  | succ j ih =>
    intro x s hx hb h0 h1 hs k hk
    obtain ⟨k, rfl⟩ : ∃ m, k = m + 1 := ⟨k - 1, by omega⟩
    rw [fmt_step n x s k hx h0 h1 (by omega)]
    have hd : (Int.tdiv x 10).natAbs = x.natAbs / 10 := by
      rw [Int.natAbs_tdiv]; rfl
    have hsz : (strOfNums [((48 + x.natAbs % 10 : Nat) : Int)] ++ s).size = 1 + s.size := by rw [ByteArray.size_append]; rfl
    have hdata : (strOfNums [((48 + x.natAbs % 10 : Nat) : Int)] ++ s).data.toList = UInt8.ofNat (48 + x.natAbs % 10) :: s.data.toList := by
      rw [ByteArray.data_append, Array.toList_append, strOfNums_data]; rfl
    by_cases c : x.natAbs < 10
    · have e0 : Int.tdiv x 10 = 0 := by
        have : (Int.tdiv x 10).natAbs = 0 := by rw [hd]; omega
        omega
      obtain ⟨k, rfl⟩ : ∃ m, k = m + 1 := ⟨k - 1, by omega⟩
      rw [e0, fmt_end n _ k (by rw [hsz]; omega), hdata, Lib.decDigits_one c]
      have : x.natAbs % 10 = x.natAbs := Nat.mod_eq_of_lt c
      rw [this]
      simp
    · have hne : Int.tdiv x 10 ≠ 0 := fun e => by
        have : (Int.tdiv x 10).natAbs = 0 := by rw [e]; rfl
        rw [hd] at this; omega
      have hb2 : (Int.tdiv x 10).natAbs < 10 ^ j := by
        rw [hd]; rw [Nat.pow_succ] at hb; omega
      have hr : -9223372036854775808 ≤ Int.tdiv x 10 ∧ Int.tdiv x 10 ≤ 9223372036854775807 := by omega
      rw [ih (Int.tdiv x 10) _ hne hb2 hr.1 hr.2 (by rw [hsz]; omega) k (by omega), hdata, hd]
      have hD : Lib.decDigits x.natAbs = Lib.decDigits (x.natAbs / 10) ++ [UInt8.ofNat (48 + x.natAbs % 10)] := by
        rw [Lib.decDigits, dif_neg c]
      rw [hD]
      simp
/-- The spec's text of a number is Go's own. -/
theorem s_fmt (n : Int) (h0 : -9223372036854775808 ≤ n) (h1 : n ≤ 9223372036854775807) (k : Nat) (hk : 20 < k) : spec_FormatInt.f k n = some ⟨(Lib.itoa n).toArray⟩ := by
  unfold spec_FormatInt.f Lib.itoa
  by_cases c : n = 0
  · subst c
    rw [if_pos rfl]
    have : Lib.decDigits 0 = [48] := Lib.decDigits_one (by decide)
    simp [this]
  · rw [if_neg c, fmt_loop n 20 n _ c (by omega) h0 h1 (by decide) k hk]
    unfold sg
    by_cases g : n < 0
    · rw [if_pos g, if_pos g]; simp
    · rw [if_neg g, if_neg g]
      have : n.natAbs = n.toNat := by omega
      rw [this]; simp
theorem i_fmt (n : Int) (h0 : -9223372036854775808 ≤ n) (h1 : n ≤ 9223372036854775807) : impl_FormatInt.f n = some ⟨(Lib.itoa n).toArray⟩ := by
  show Option.bind (if _ then some _ else none) _ = _
  rw [if_pos ⟨h0, h1⟩]; rfl
theorem FnExactFormatInt : laws_FnExactFormatInt.Pure := by
  intro n hn
  have hn := b64 hn
  refine ⟨21, ?_⟩
  unfold laws_FnExactFormatInt.f
  simp only [s_fmt n hn.1 hn.2 21 (by decide), i_fmt n hn.1 hn.2, Option.bind_some, if_true]

end Go.Proofs.YtkkagnedflfcjaaDoor.Pure
