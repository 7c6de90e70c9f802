/- Plain lemmas of this session on loops that the print writes: a copy of a list, a comparison of two lists; bounds of numbers. Conditions: those each lemma states. -/
import Derived.Test.YtinfglcccomilaaDoorWWords
import Derived.Test.YtinfglcccomilaaDoorWMore
import Derived.Test.YtinfglcccomilaaDoorWSized
import Derived.OpenShut
import Derived.IntWalk
namespace Go.Proofs.YtinfglcccomilaaDoor
/-- The printed rows over slices call this lemma by a name that lacks the seat's word: here it stands under that name. -/
abbrev PrintWords.sized_ints := @Go.Proofs.YtinfglcccomilaaDoorW.PrintWords.sized_ints
end Go.Proofs.YtinfglcccomilaaDoor
namespace Go.Proofs.YtinfglcccomilaaDoor.Lib
open Go.RowKit Go.Proofs.YtinfglcccomilaaDoorW.PrintWords Go.Proofs.YtinfglcccomilaaDoorW.PrintLast Go.Proofs.YtinfglcccomilaaDoorW.PrintMore

theorem w64 {n : Int} (h1 : -9223372036854775808 ≤ n) (h2 : n ≤ 9223372036854775807) : wrap64 n = n := IntWalk.wrap64_in n ⟨h1, h2⟩
theorem b64 {n : Int} (h : (Lit.int .i64 n).wf = true) : -9223372036854775808 ≤ n ∧ n ≤ 9223372036854775807 := bounds_i64 h

theorem rd_nat (xs : List Int) (i : Nat) (h : i < xs.length) : rd xs (i : Int) = xs[i] := by
  unfold rd; rw [Int.toNat_natCast, List.getD_eq_getElem?_getD, List.getElem?_eq_getElem h]; rfl

theorem rd_mem' (xs : List Int) (i : Nat) (h : i < xs.length) : rd xs (i : Int) ∈ xs := by rw [rd_nat xs i h]; exact List.getElem_mem h

theorem copy_step (xs ys : List Int) (i : Nat) (hl : ys.length = xs.length) (hi : i < xs.length) (hp : ys.take i = xs.take i) :
    (ys.set i (rd xs i)).length = xs.length ∧ (ys.set i (rd xs i)).take (i + 1) = xs.take (i + 1) := by
  refine ⟨by simp [hl], ?_⟩
  rw [rd_nat xs i hi]
  apply List.ext_getElem?
  intro j
  by_cases hj : j < i + 1
  · rw [List.getElem?_take_of_lt hj, List.getElem?_take_of_lt hj]
    by_cases e : i = j
    · subst e; rw [List.getElem?_set_self (by omega)]; rw [List.getElem?_eq_getElem hi]
    · rw [List.getElem?_set_ne e]
      have := congrArg (fun l : List Int => l[j]?) hp
      simp only [List.getElem?_take_of_lt (show j < i by omega)] at this
      exact this
  · rw [List.getElem?_eq_none (by simp; omega), List.getElem?_eq_none (by simp; omega)]

/-- A loop that copies a list, element by element. -/
theorem copy_loop {L : Nat → List Int → List Int → Int → Option (List Int)} (h : ∀ k x y i, L (k + 1) x y i = if i < (x.length : Int) then (if 0 ≤ i then (if i < (y.length : Int) then L k x (y.set i.toNat (rd x i)) (wrap64 (i + 1)) else none) else none) else some y)
    (xs : List Int) (hx : xs.length ≤ 9000000000000000) (d : Nat) : ∀ (i : Nat) (ys : List Int), ys.length = xs.length → i + d = xs.length → ys.take i = xs.take i → ∀ k, d < k → L k xs ys i = some xs := by
  induction d with
  | zero =>
    intro i ys hl hi hp k hk
    obtain ⟨k, rfl⟩ : ∃ m, k = m + 1 := ⟨k - 1, by omega⟩
    rw [h, if_neg (by omega)]
    rw [List.take_of_length_le (by omega), List.take_of_length_le (by omega)] at hp
    rw [hp]
  | succ d ih =>
    intro i ys hl hi hp k hk
    obtain ⟨k, rfl⟩ : ∃ m, k = m + 1 := ⟨k - 1, by omega⟩
    rw [h, if_pos (by omega), if_pos (by omega), if_pos (by omega), w64 (by omega) (by omega), Int.toNat_natCast]
    obtain ⟨h1, h2⟩ := copy_step xs ys i hl (by omega) hp
    exact ih (i + 1) _ h1 (by omega) h2 k (by omega)

/-- A loop that compares two lists of one length, element by element. -/
theorem eq_loop {L : Nat → Int → Option Bool} (xs ys : List Int) (h : ∀ k i, L (k + 1) i = if i < (xs.length : Int) then (if 0 ≤ i then (if i < (ys.length : Int) then (if rd xs i = rd ys i then L k (wrap64 (i + 1)) else some false) else none) else none) else some true)
    (hl : xs.length = ys.length) (hx : xs.length ≤ 9000000000000000) (d : Nat) : ∀ (i : Nat), i + d = xs.length → xs.take i = ys.take i → ∀ k, d < k → L k i = some (decide (xs = ys)) := by
  induction d with
  | zero =>
    intro i hi hp k hk
    obtain ⟨k, rfl⟩ : ∃ m, k = m + 1 := ⟨k - 1, by omega⟩
    rw [h, if_neg (by omega)]
    rw [List.take_of_length_le (by omega), List.take_of_length_le (by omega)] at hp
    rw [hp]; simp
  | succ d ih =>
    intro i hi hp k hk
    obtain ⟨k, rfl⟩ : ∃ m, k = m + 1 := ⟨k - 1, by omega⟩
    rw [h, if_pos (by omega), if_pos (by omega), if_pos (by omega), w64 (by omega) (by omega)]
    rw [rd_nat xs i (by omega), rd_nat ys i (by omega)]
    by_cases e : xs[i]'(by omega) = ys[i]'(by omega)
    · rw [if_pos e]
      refine ih (i + 1) (by omega) ?_ k (by omega)
      rw [List.take_succ_eq_append_getElem (by omega), List.take_succ_eq_append_getElem (by omega), hp, e]
    · rw [if_neg e]
      congr 1
      symm
      rw [decide_eq_false_iff_not]
      intro e'
      subst e'
      exact e rfl

theorem evo {α : Type} {g : Nat → Option α} {r : α} (h : Ev g r) : ∃ K, ∀ k, K ≤ k → g k = some r := h
theorem rounds_of {α : Type} {g : Nat → Option α} {r : α} {d : Nat} (h : ∀ k, d < k → g k = some r) : Ev g r := ⟨d + 1, fun k hk => h k (by omega)⟩


/-! ### fractions in lowest terms -/
theorem dvd_of_coprime {a b c : Int} (hg : Int.gcd a b = 1) (h : a ∣ b * c) : a ∣ c := by
  have h' : a.natAbs ∣ b.natAbs * c.natAbs := by rw [← Int.natAbs_mul]; exact Int.natAbs_dvd_natAbs.2 h
  exact Int.natAbs_dvd_natAbs.1 (Nat.Coprime.dvd_of_dvd_mul_left (k := a.natAbs) (m := b.natAbs) hg h')
theorem low_unique {n d N D : Int} (hd : 0 < d) (hD : 0 < D) (hg : Int.gcd N D = 1) (h : N * d = n * D) :
    n.tdiv (Int.gcd n d) = N ∧ d.tdiv (Int.gcd n d) = D := by
  have hgp : 0 < Int.gcd n d := Int.gcd_pos_of_ne_zero_right n (by omega)
  obtain ⟨n', hn⟩ := Int.gcd_dvd_left (a := n) (b := d)
  obtain ⟨d', hd'⟩ := Int.gcd_dvd_right (a := n) (b := d)
  generalize hG : Int.gcd n d = G at *
  have hGi : (0 : Int) < (G : Int) := by omega
  have hco : Int.gcd n' d' = 1 := by
    have h1 : Int.gcd (G * n') (G * d') = G * Int.gcd n' d' := by rw [Int.gcd_mul_left]; simp
    rw [← hn, ← hd', hG] at h1
    have : G * 1 = G * Int.gcd n' d' := by omega
    exact (Nat.eq_of_mul_eq_mul_left hgp this).symm
  have hdp : 0 < d' := by
    rw [hd'] at hd
    exact Int.pos_of_mul_pos_right hd hGi |> fun x => x
  have hc : N * d' = n' * D := by
    rw [hn, hd'] at h
    have : (G : Int) * (N * d') = G * (n' * D) := by
      calc (G : Int) * (N * d') = N * (G * d') := by rw [Int.mul_left_comm]
        _ = G * n' * D := h
        _ = G * (n' * D) := by rw [Int.mul_assoc]
    exact Int.eq_of_mul_eq_mul_left (by omega) this
  have hdd : d' ∣ D := by
    have : d' ∣ n' * D := ⟨N, by rw [← hc, Int.mul_comm]⟩
    exact dvd_of_coprime (by rw [Int.gcd_comm]; exact hco) this
  have hDd : D ∣ d' := by
    have : D ∣ N * d' := ⟨n', by rw [hc, Int.mul_comm]⟩
    exact dvd_of_coprime (by rw [Int.gcd_comm]; exact hg) this
  have hE : d' = D := Int.dvd_antisymm (by omega) (by omega) hdd hDd
  subst hE
  have hN : N = n' := Int.eq_of_mul_eq_mul_right (by omega) hc
  subst hN
  constructor
  · rw [hn]; exact Int.mul_tdiv_cancel_left _ (by omega)
  · rw [hd']; exact Int.mul_tdiv_cancel_left _ (by omega)
theorem low_spec {n d : Int} (hd : 0 < d) :
    0 < d.tdiv (Int.gcd n d) ∧ Int.gcd (n.tdiv (Int.gcd n d)) (d.tdiv (Int.gcd n d)) = 1 ∧ n.tdiv (Int.gcd n d) * d = n * d.tdiv (Int.gcd n d) ∧ n = Int.gcd n d * n.tdiv (Int.gcd n d) ∧ d = Int.gcd n d * d.tdiv (Int.gcd n d) := by
  have hgp : 0 < Int.gcd n d := Int.gcd_pos_of_ne_zero_right n (by omega)
  obtain ⟨n', hn⟩ := Int.gcd_dvd_left (a := n) (b := d)
  obtain ⟨d', hd'⟩ := Int.gcd_dvd_right (a := n) (b := d)
  have hco : Int.gcd n' d' = 1 := by
    have h1 : Int.gcd ((Int.gcd n d : Int) * n') ((Int.gcd n d : Int) * d') = Int.gcd n d * Int.gcd n' d' := by rw [Int.gcd_mul_left]; simp
    rw [← hn, ← hd'] at h1
    exact (Nat.eq_of_mul_eq_mul_left hgp (by omega : Int.gcd n d * 1 = Int.gcd n d * Int.gcd n' d')).symm
  generalize Int.gcd n d = G at *
  have hGi : (0 : Int) < (G : Int) := by omega
  subst hn; subst hd'
  rw [Int.mul_tdiv_cancel_left _ (by omega), Int.mul_tdiv_cancel_left _ (by omega)]
  refine ⟨Int.pos_of_mul_pos_right hd hGi, hco, ?_, rfl, rfl⟩
  rw [Int.mul_left_comm, Int.mul_assoc]

theorem gcd_mul_one {a b c : Int} (h1 : Int.gcd a c = 1) (h2 : Int.gcd b c = 1) : Int.gcd (a * b) c = 1 := by
  unfold Int.gcd at *
  rw [Int.natAbs_mul]
  exact Nat.Coprime.mul_left (k := c.natAbs) h1 h2

theorem gcd_left_one {a b g a' : Int} (h : Int.gcd a b = 1) (ha : a = g * a') : Int.gcd a' b = 1 := by
  unfold Int.gcd at *
  exact Nat.Coprime.coprime_dvd_left (Int.natAbs_dvd_natAbs.2 ⟨g, by rw [ha, Int.mul_comm]⟩) h

theorem gcd_right_one {a b g b' : Int} (h : Int.gcd a b = 1) (hb : b = g * b') : Int.gcd a b' = 1 := by
  rw [Int.gcd_comm] at h ⊢; exact gcd_left_one h hb

theorem mul_low {aN aD bN bD : Int} (hA : 0 < aD) (hB : 0 < bD) (ha : Int.gcd aN aD = 1) (hb : Int.gcd bN bD = 1) :
    let N := aN.tdiv (Int.gcd aN bD) * bN.tdiv (Int.gcd bN aD)
    let D := aD.tdiv (Int.gcd bN aD) * bD.tdiv (Int.gcd aN bD)
    0 < D ∧ Int.gcd N D = 1 ∧ N * (aD * bD) = aN * bN * D := by
  intro N D
  obtain ⟨p1, p2, _, p4, p5⟩ := low_spec (n := aN) hB
  obtain ⟨q1, q2, _, q4, q5⟩ := low_spec (n := bN) hA
  show 0 < aD.tdiv (Int.gcd bN aD) * bD.tdiv (Int.gcd aN bD) ∧ Int.gcd (aN.tdiv (Int.gcd aN bD) * bN.tdiv (Int.gcd bN aD)) (aD.tdiv (Int.gcd bN aD) * bD.tdiv (Int.gcd aN bD)) = 1 ∧ aN.tdiv (Int.gcd aN bD) * bN.tdiv (Int.gcd bN aD) * (aD * bD) = aN * bN * (aD.tdiv (Int.gcd bN aD) * bD.tdiv (Int.gcd aN bD))
  generalize (Int.gcd aN bD : Nat) = g at *
  generalize (Int.gcd bN aD : Nat) = h at *
  generalize aN.tdiv g = x at *
  generalize bN.tdiv h = y at *
  generalize aD.tdiv h = z at *
  generalize bD.tdiv g = w at *
  refine ⟨Int.mul_pos q1 p1, ?_, ?_⟩
  · refine gcd_mul_one ?_ ?_
    · rw [Int.gcd_comm]; refine gcd_mul_one ?_ ?_
      · rw [Int.gcd_comm]; exact gcd_right_one (gcd_left_one ha p4) q5
      · rw [Int.gcd_comm]; exact p2
    · rw [Int.gcd_comm]; refine gcd_mul_one ?_ ?_
      · rw [Int.gcd_comm]; exact q2
      · rw [Int.gcd_comm]; exact gcd_right_one (gcd_left_one hb q4) p5
  · rw [p4, p5, q4, q5]; ac_rfl

/-- Euclid's loop. -/
theorem gcd_loop {L : Nat → Int → Int → Option Int} (h : ∀ k a b, L (k + 1) a b = if b = 0 then some a else L k b (Int.tmod a b)) (d : Nat) : ∀ (a b : Int), 0 ≤ a → 0 ≤ b → b.toNat ≤ d → ∀ k, d < k → L k a b = some (Int.gcd a b : Int) := by
  induction d with
  | zero =>
    intro a b ha hb hd k hk
    obtain ⟨k, rfl⟩ : ∃ m, k = m + 1 := ⟨k - 1, by omega⟩
    obtain rfl : b = 0 := by omega
    rw [h, if_pos rfl, Int.gcd_zero_right]; congr 1; omega
  | succ d ih =>
    intro a b ha hb hd k hk
    obtain ⟨k, rfl⟩ : ∃ m, k = m + 1 := ⟨k - 1, by omega⟩
    rw [h]
    by_cases e : b = 0
    · subst e; rw [if_pos rfl, Int.gcd_zero_right]; congr 1; omega
    · rw [if_neg e]
      have e1 : Int.tmod a b = a % b := Int.tmod_eq_emod_of_nonneg ha
      have e2 := Int.emod_nonneg a e
      have e3 := Int.emod_lt_of_pos a (show 0 < b by omega)
      rw [e1, ih b (a % b) hb e2 (by omega) k (by omega)]
      congr 2
      obtain ⟨m, rfl⟩ := Int.eq_ofNat_of_zero_le ha
      obtain ⟨n, rfl⟩ := Int.eq_ofNat_of_zero_le hb
      rw [← Int.natCast_emod, Int.gcd_natCast_natCast, Int.gcd_natCast_natCast, Nat.gcd_comm m n, Nat.gcd_rec n m, Nat.gcd_comm]

def isR (n d : Int) : Bool := decide ((1 ≤ d ∧ d ≤ 1000000) ∧ (-1000000000 ≤ n ∧ n ≤ 1000000000) ∧ Int.gcd n d = 1)
def low (n d : Int) : Int × Int × Bool := if isR (n.tdiv (Int.gcd n d)) (d.tdiv (Int.gcd n d)) = true then (n.tdiv (Int.gcd n d), d.tdiv (Int.gcd n d), true) else (0, 0, false)
theorem mx_abs {n : Int} (h1 : -9223372036854775808 < n) (h2 : n ≤ 9223372036854775807) : mx n (wrap64 (-n)) = (n.natAbs : Int) := by
  unfold mx; rw [w64 (by omega) (by omega)]; split <;> omega
theorem tdiv_bd (n : Int) (g : Nat) : -(n.natAbs : Int) ≤ n.tdiv g ∧ n.tdiv g ≤ (n.natAbs : Int) := by
  have h := Int.natAbs_tdiv_le_natAbs n (g : Int)
  omega
theorem gcd_natAbs (n d : Int) : Int.gcd (n.natAbs : Int) d = Int.gcd n d := by unfold Int.gcd; simp

/-! ### marks: a list that is overwritten by counting numbers, and looked at again -/
def marks (φ : Int → Int) (m : Int) (n : Nat) : List Int := (List.range n).map fun (j : Nat) => φ (m + (j : Int))
theorem marks_length (φ : Int → Int) (m : Int) (n : Nat) : (marks φ m n).length = n := by simp [marks]
theorem marks_get (φ : Int → Int) (m : Int) (n i : Nat) (h : i < n) : rd (marks φ m n) i = φ (m + (i : Int)) := by
  rw [rd_nat _ _ (by rw [marks_length]; exact h)]; simp [marks]
theorem mark_loop {L : Nat → List Int → Int → Int → Option (Int × List Int)} {φ : Int → Int} (h : ∀ k x m i, L (k + 1) x m i = if i < (x.length : Int) then (if 0 ≤ i then L k (x.set i.toNat (φ m)) (wrap64 (m + 1)) (wrap64 (i + 1)) else none) else some (m, x))
    (m : Int) (n : Nat) (hm : 0 ≤ m) (hm2 : m ≤ 9000000000000000) (hn : n ≤ 9000000000000000) (d : Nat) : ∀ (i : Nat) (xs : List Int), xs.length = n → i + d = n → xs.take i = marks φ m i → ∀ k, d < k → L k xs (m + i) i = some (m + n, marks φ m n) := by
  induction d with
  | zero =>
    intro i xs hl hi hp k hk
    obtain ⟨k, rfl⟩ : ∃ m, k = m + 1 := ⟨k - 1, by omega⟩
    rw [h, if_neg (by omega)]
    obtain rfl : i = n := by omega
    rw [List.take_of_length_le (by omega)] at hp
    rw [hp]
  | succ d ih =>
    intro i xs hl hi hp k hk
    obtain ⟨k, rfl⟩ : ∃ m, k = m + 1 := ⟨k - 1, by omega⟩
    rw [h, if_pos (by omega), if_pos (by omega), w64 (by omega) (by omega), w64 (by omega) (by omega), Int.toNat_natCast]
    have e := ih (i + 1) (xs.set i (φ (m + i))) (by simp [hl]) (by omega) ?_ k (by omega)
    · rw [show m + (i : Int) + 1 = m + ((i + 1 : Nat) : Int) by omega, show (i : Int) + 1 = ((i + 1 : Nat) : Int) by omega]
      exact e
    · rw [List.take_succ_eq_append_getElem (by simp; omega), List.take_set_of_le (Nat.le_refl _), hp]
      simp [marks, List.range_succ]
theorem held_loop {L : Nat → List Int → Int → Int → Option Int} {φ : Int → Int} (h : ∀ k x m i, L (k + 1) x m i = if i < (x.length : Int) then (if 0 ≤ i then (if rd x i = φ m then L k x (wrap64 (m + 1)) (wrap64 (i + 1)) else some (-1)) else none) else some m)
    (m : Int) (n : Nat) (hm : 0 ≤ m) (hm2 : m ≤ 9000000000000000) (hn : n ≤ 9000000000000000) (d : Nat) : ∀ (i : Nat), i + d = n → ∀ k, d < k → L k (marks φ m n) (m + i) i = some (m + n) := by
  induction d with
  | zero =>
    intro i hi k hk
    obtain ⟨k, rfl⟩ : ∃ m, k = m + 1 := ⟨k - 1, by omega⟩
    rw [h, marks_length, if_neg (by omega)]
    rw [show i = n by omega]
  | succ d ih =>
    intro i hi k hk
    obtain ⟨k, rfl⟩ : ∃ m, k = m + 1 := ⟨k - 1, by omega⟩
    rw [h, marks_length, if_pos (by omega), if_pos (by omega), marks_get φ m n i (by omega), if_pos rfl, w64 (by omega) (by omega), w64 (by omega) (by omega)]
    have e := ih (i + 1) (by omega) k (by omega)
    rw [show m + (i : Int) + 1 = m + ((i + 1 : Nat) : Int) by omega, show (i : Int) + 1 = ((i + 1 : Nat) : Int) by omega]
    exact e

end Go.Proofs.YtinfglcccomilaaDoor.Lib
