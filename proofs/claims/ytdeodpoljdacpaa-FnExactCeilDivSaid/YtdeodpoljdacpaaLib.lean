/- Plain lemmas of this session on loops that the print writes: a copy of a list, a comparison of two lists; bounds of numbers. Conditions: those each lemma states. -/
import Derived.Test.YtdeodpoljdacpaaWWords
import Derived.Test.YtdeodpoljdacpaaWMore
import Derived.Test.YtdeodpoljdacpaaWSized
import Derived.OpenShut
import Derived.IntWalk
namespace Go.Proofs.Ytdeodpoljdacpaa
/-- The printed rows over slices call this lemma by a name that lacks the seat's word: here it stands under that name. -/
abbrev PrintWords.sized_ints := @Go.Proofs.YtdeodpoljdacpaaW.PrintWords.sized_ints
end Go.Proofs.Ytdeodpoljdacpaa
namespace Go.Proofs.Ytdeodpoljdacpaa.Lib
open Go.RowKit Go.Proofs.YtdeodpoljdacpaaW.PrintWords Go.Proofs.YtdeodpoljdacpaaW.PrintLast Go.Proofs.YtdeodpoljdacpaaW.PrintMore

theorem w64 {n : Int} (h1 : -9223372036854775808 ≤ n) (h2 : n ≤ 9223372036854775807) : wrap64 n = n := IntWalk.wrap64_in n ⟨h1, h2⟩
theorem b64 {n : Int} (h : (Lit.int .i64 n).wf = true) : -9223372036854775808 ≤ n ∧ n ≤ 9223372036854775807 := bounds_i64 h

theorem rd_nat (xs : List Int) (i : Nat) (h : i < xs.length) : rd xs (i : Int) = xs[i] := by
  unfold rd; rw [Int.toNat_natCast, List.getD_eq_getElem?_getD, List.getElem?_eq_getElem h]; rfl

theorem copy_step (xs ys : List Int) (i : Nat) (hl : ys.length = xs.length) (hi : i < xs.length) (hp : ys.take i = xs.take i) :
    (ys.set i (rd xs i)).length = xs.length ∧ (ys.set i (rd xs i)).take (i + 1) = xs.take (i + 1) := by
  refine ⟨by simp [hl], ?_⟩
  rw [rd_nat xs i hi]
  apply List.ext_getElem?
  intro j
  by_cases hj : j < i + 1
  · rw [List.getElem?_take_of_lt hj, List.getElem?_take_of_lt hj]
    by_cases e : i = j
    · subst e; rw [List.getElem?_set_self (by omega)]; rw [List.getElem?_eq_getElem hi]
    · rw [List.getElem?_set_ne e]
      have := congrArg (fun l : List Int => l[j]?) hp
      simp only [List.getElem?_take_of_lt (show j < i by omega)] at this
      exact this
  · rw [List.getElem?_eq_none (by simp; omega), List.getElem?_eq_none (by simp; omega)]

/-- A loop that copies a list, element by element. -/
theorem copy_loop {L : Nat → List Int → List Int → Int → Option (List Int)} (h : ∀ k x y i, L (k + 1) x y i = if i < (x.length : Int) then (if 0 ≤ i then (if i < (y.length : Int) then L k x (y.set i.toNat (rd x i)) (wrap64 (i + 1)) else none) else none) else some y)
    (xs : List Int) (hx : xs.length ≤ 9000000000000000) (d : Nat) : ∀ (i : Nat) (ys : List Int), ys.length = xs.length → i + d = xs.length → ys.take i = xs.take i → ∀ k, d < k → L k xs ys i = some xs := by
  induction d with
  | zero =>
    intro i ys hl hi hp k hk
    obtain ⟨k, rfl⟩ : ∃ m, k = m + 1 := ⟨k - 1, by omega⟩
    rw [h, if_neg (by omega)]
    rw [List.take_of_length_le (by omega), List.take_of_length_le (by omega)] at hp
    rw [hp]
  | succ d ih =>
    intro i ys hl hi hp k hk
    obtain ⟨k, rfl⟩ : ∃ m, k = m + 1 := ⟨k - 1, by omega⟩
    rw [h, if_pos (by omega), if_pos (by omega), if_pos (by omega), w64 (by omega) (by omega), Int.toNat_natCast]
    obtain ⟨h1, h2⟩ := copy_step xs ys i hl (by omega) hp
    exact ih (i + 1) _ h1 (by omega) h2 k (by omega)

/-- A loop that compares two lists of one length, element by element. -/
theorem eq_loop {L : Nat → List Int → List Int → Int → Option Bool} (h : ∀ k x y i, L (k + 1) x y i = if i < (x.length : Int) then (if 0 ≤ i then (if i < (y.length : Int) then (if rd x i = rd y i then L k x y (wrap64 (i + 1)) else some false) else none) else none) else some true)
    (xs ys : List Int) (hl : xs.length = ys.length) (hx : xs.length ≤ 9000000000000000) (d : Nat) : ∀ (i : Nat), i + d = xs.length → xs.take i = ys.take i → ∀ k, d < k → L k xs ys i = some (decide (xs = ys)) := by
  induction d with
  | zero =>
    intro i hi hp k hk
    obtain ⟨k, rfl⟩ : ∃ m, k = m + 1 := ⟨k - 1, by omega⟩
    rw [h, if_neg (by omega)]
    rw [List.take_of_length_le (by omega), List.take_of_length_le (by omega)] at hp
    rw [hp]; simp
  | succ d ih =>
    intro i hi hp k hk
    obtain ⟨k, rfl⟩ : ∃ m, k = m + 1 := ⟨k - 1, by omega⟩
    rw [h, if_pos (by omega), if_pos (by omega), if_pos (by omega), w64 (by omega) (by omega)]
    rw [rd_nat xs i (by omega), rd_nat ys i (by omega)]
    by_cases e : xs[i]'(by omega) = ys[i]'(by omega)
    · rw [if_pos e]
      refine ih (i + 1) (by omega) ?_ k (by omega)
      rw [List.take_succ_eq_append_getElem (by omega), List.take_succ_eq_append_getElem (by omega), hp, e]
    · rw [if_neg e]
      congr 1
      symm
      rw [decide_eq_false_iff_not]
      intro e'
      subst e'
      exact e rfl

theorem rounds_of {α : Type} {g : Nat → Option α} {r : α} {d : Nat} (h : ∀ k, d < k → g k = some r) : Ev g r := ⟨d + 1, fun k hk => h k (by omega)⟩

end Go.Proofs.Ytdeodpoljdacpaa.Lib
