/- The law FnExactKeyedHash returns true for each key and each slice of ints. Conditions: each number is an int; the reach of memory. -/
import Derived.Test.YtinfglcccomilaaQFnExactKeyedHashx2
import Derived.Test.YtinfglcccomilaaLib
namespace Go.Proofs.Ytinfglcccomilaa.Pure
open Go.RowKit Go.Proofs.Ytinfglcccomilaa.QFnExactKeyedHash Go.Proofs.YtinfglcccomilaaW.PrintWords Go.Proofs.YtinfglcccomilaaW.PrintLast Go.Proofs.YtinfglcccomilaaW.PrintMore Go.Proofs.Ytinfglcccomilaa.Lib 

theorem i_In (a l h : Int) : impl_InRange.f a l h = some (decide (l ≤ a ∧ a ≤ h)) := by
  unfold impl_InRange.f; by_cases e : l ≤ a <;> simp [e]
def modv (a m : Int) : Int := if 1 ≤ m ∧ m ≤ 1000000000000 then a % m else 0
theorem mod_core {a m : Int} (h1 : 1 ≤ m) (h2 : m ≤ 1000000000000) : Int.tmod (wrap64 (Int.tmod a m + m)) m = a % m := by
  have l1 : -m < Int.tmod a m := by have := Int.lt_tmod_of_pos a (show 0 < m by omega); omega
  have l2 : Int.tmod a m < m := Int.tmod_lt_of_pos a (by omega)
  rw [w64 (by omega) (by omega)]
  rw [Int.tmod_eq_emod_of_nonneg (by omega), Int.add_emod_right]
  rw [Int.tmod_eq_emod]
  split
  · simp
  · rw [Int.sub_emod]
    simp [Int.natAbs_of_nonneg (show 0 ≤ m by omega)]
theorem i_Mod (a m : Int) : impl_Mod.f a m = some (modv a m) := by
  unfold impl_Mod.f modv; rw [i_In]; simp only [Option.bind_some, decide_eq_true_eq]
  split
  · rename_i h; rw [if_neg (by omega), mod_core h.1 h.2]
  · rfl
def hstep (s v : Int) : Int := (s * 1000003 + v % 2147483647 + 13) % 2147483647
def hashv (l : List Int) : Int := l.foldl hstep 11
theorem hstep_bd (s v : Int) : 0 ≤ hstep s v ∧ hstep s v < 2147483647 := by unfold hstep; omega
theorem hstep_core {s v : Int} (h0 : 0 ≤ s) (h1 : s < 2147483647) : Int.tmod (wrap64 ((wrap64 ((wrap64 (s * 1000003)) + modv v 2147483647)) + 13)) 2147483647 = hstep s v := by
  unfold modv hstep
  rw [if_pos (by omega), w64 (n := s * 1000003) (by omega) (by omega), w64 (n := s * 1000003 + v % 2147483647) (by omega) (by omega), w64 (by omega) (by omega), Int.tmod_eq_emod_of_nonneg (by omega)]
theorem take_fold {α : Type} (f : α → Int → α) (a : α) (l : List Int) (i : Nat) (h : i < l.length) : (l.take (i + 1)).foldl f a = f ((l.take i).foldl f a) (rd l i) := by
  rw [List.take_succ_eq_append_getElem h, List.foldl_append, rd_nat l i h]; rfl
theorem hash_bd (l : List Int) : 0 ≤ hashv l ∧ hashv l < 2147483647 := by
  unfold hashv
  suffices h : ∀ (l : List Int) (s : Int), 0 ≤ s ∧ s < 2147483647 → 0 ≤ l.foldl hstep s ∧ l.foldl hstep s < 2147483647 from h l 11 (by omega)
  intro l
  induction l with
  | nil => intro s h; exact h
  | cons v l ih => intro s _; exact ih _ (hstep_bd s v)
theorem hash_loop {L : Nat → Int → Int → Option Int} (l : List Int) (hl : l.length ≤ 9000000000000000) (h : ∀ k s i, L (k + 1) s i = if i < (l.length : Int) then (if 0 ≤ i then L k (Int.tmod (wrap64 ((wrap64 ((wrap64 (s * 1000003)) + modv (rd l i) 2147483647)) + 13)) 2147483647) (wrap64 (i + 1)) else none) else some s) (d : Nat) :
    ∀ (i : Nat), i + d = l.length → ∀ k, d < k → L k (hashv (l.take i)) i = some (hashv l) := by
  induction d with
  | zero =>
    intro i hi k hk
    obtain ⟨k, rfl⟩ : ∃ m, k = m + 1 := ⟨k - 1, by omega⟩
    rw [h, if_neg (by omega), List.take_of_length_le (by omega)]
  | succ d ih =>
    intro i hi k hk
    obtain ⟨k, rfl⟩ : ∃ m, k = m + 1 := ⟨k - 1, by omega⟩
    have b := hash_bd (l.take i)
    rw [h, if_pos (by omega), if_pos (by omega), hstep_core b.1 b.2, w64 (by omega) (by omega)]
    have e := ih (i + 1) (by omega) k (by omega)
    unfold hashv at e ⊢
    rw [take_fold _ _ _ _ (by omega)] at e
    exact e
theorem i_Hash (l : List Int) (hl : l.length ≤ 9000000000000000) : Ev (fun k => impl_Hash.f k l) (hashv l) := by
  refine rounds_of (d := l.length) (fun k hk => ?_)
  unfold impl_Hash.f
  refine hash_loop (L := fun k s i => impl_Hash.l0 k s l (l.length : Int) i) l hl (fun k s i => ?_) l.length 0 (by omega) k hk
  simp only [impl_Hash.l0, i_Mod, Option.bind_some]
  by_cases h0 : i < (l.length : Int) <;> simp [h0]
theorem rdL_nat (ll : List (List Int)) (i : Nat) (h : i < ll.length) : rd_L1 ll (i : Int) = ll[i] := by
  unfold rd_L1; rw [Int.toNat_natCast, List.getD_eq_getElem?_getD, List.getElem?_eq_getElem h]; rfl
theorem flat_take (ll : List (List Int)) (i : Nat) (h : i < ll.length) : (ll.take (i + 1)).flatten = (ll.take i).flatten ++ ll[i] := by
  rw [List.take_succ_eq_append_getElem h, List.flatten_append]; simp
theorem flat_le (ll : List (List Int)) (i : Nat) : (ll.take i).flatten.length ≤ ll.flatten.length := by
  have h : ll.flatten = (ll.take i).flatten ++ (ll.drop i).flatten := by rw [← List.flatten_append, List.take_append_drop]
  rw [h, List.length_append]; omega
theorem cat_loop (ll : List (List Int)) (hl : ll.length ≤ 1000) (ht : ll.flatten.length ≤ 100000000) (d : Nat) : ∀ (i : Nat), i + d = ll.length → Ev (fun k => slices_Concat_int_int.l1 k (ll.take i).flatten ll (ll.length : Int) i) ll.flatten := by
  induction d with
  | zero =>
    intro i hi
    refine Ev.step (f := fun _ => some ll.flatten) (fun k => ?_) (Ev.now _)
    simp only [slices_Concat_int_int.l1]
    rw [if_neg (by omega), List.take_of_length_le (by omega)]
  | succ d ih =>
    intro i hi
    have h1 := flat_le ll (i + 1)
    have h2 := flat_take ll i (by omega)
    rw [h2, List.length_append] at h1
    refine Ev.step (f := fun k => slices_Concat_int_int.l1 k (ll.take (i + 1)).flatten ll (ll.length : Int) ((i + 1 : Nat) : Int)) (fun k => ?_) (ih (i + 1) (by omega))
    simp only [slices_Concat_int_int.l1]
    rw [if_pos (by omega), if_pos (by omega), if_pos (by omega), rdL_nat ll i (by omega), if_pos (by omega), w64 (by omega) (by omega), h2]; rfl
theorem size_loop (ll : List (List Int)) (hl : ll.length ≤ 1000) (ht : ll.flatten.length ≤ 100000000) (d : Nat) : ∀ (i : Nat), i + d = ll.length → Ev (fun k => slices_Concat_int_int.l0 k ll ((ll.take i).flatten.length : Int) ll (ll.length : Int) i) ll.flatten := by
  induction d with
  | zero =>
    intro i hi
    refine Ev.step (f := fun k => slices_Concat_int_int.l1 k [] ll (ll.length : Int) 0) (fun k => ?_) ?_
    · have h0 := flat_le ll i
      simp only [slices_Concat_int_int.l0, slices_Grow_int_int.f]
      rw [if_neg (by omega), if_pos ⟨trivial, by omega, by omega⟩]; rfl
    · exact cat_loop ll hl ht ll.length 0 (by omega)
  | succ d ih =>
    intro i hi
    have h1 := flat_le ll (i + 1)
    have h2 := flat_take ll i (by omega)
    have h3 : (ll.take (i + 1)).flatten.length = (ll.take i).flatten.length + (ll[i]'(by omega)).length := by rw [h2, List.length_append]
    refine Ev.step (f := fun k => slices_Concat_int_int.l0 k ll ((ll.take (i + 1)).flatten.length : Int) ll (ll.length : Int) ((i + 1 : Nat) : Int)) (fun k => ?_) (ih (i + 1) (by omega))
    simp only [slices_Concat_int_int.l0]
    rw [if_pos (by omega), if_pos (by omega), if_pos (by omega), rdL_nat ll i (by omega), w64 (n := ((ll.take i).flatten.length : Int) + ((ll[i]'(by omega)).length : Int)) (by omega) (by omega), if_neg (by omega), w64 (by omega) (by omega), h3]; rfl
theorem concat3 (a : Int) (l : List Int) (hl : l.length ≤ 10000000) : Ev (fun k => slices_Concat_int_int.f k [[a], l, [a]]) ([a] ++ l ++ [a]) := by
  unfold slices_Concat_int_int.f
  have e := size_loop [[a], l, [a]] (by simp) (by simp; omega) 3 0 (by simp)
  simpa using e
def keyv (a : Int) (l : List Int) : Int := hashv ([a] ++ l ++ [a])
theorem i_keyed (a : Int) (l : List Int) (hl : l.length ≤ 10000000) : Ev (fun k => impl_KeyedHash.f k a l) (keyv a l) := by
  unfold impl_KeyedHash.f
  refine Ev.bind (f := fun k t => (impl_Hash.f k t).bind fun r => some r) (concat3 a l hl) ?_
  exact Ev.bind (f := fun _ r => some r) (i_Hash _ (by simp; omega)) (Ev.now _)
theorem s_In (a l h : Int) : spec_l1In.f a l h = some (decide (l ≤ a ∧ a ≤ h)) := by
  unfold spec_l1In.f; by_cases e : l ≤ a <;> simp [e]
theorem s_Mod (a m : Int) : spec_Mod.f a m = some (modv a m) := by
  unfold spec_Mod.f modv; rw [s_In]; simp only [Option.bind_some, decide_eq_true_eq]
  split
  · rename_i h; rw [if_neg (by omega), mod_core h.1 h.2]
  · rfl
theorem s_Hash (l : List Int) (hl : l.length ≤ 9000000000000000) : Ev (fun k => spec_Hash.f k l) (hashv l) := by
  refine rounds_of (d := l.length) (fun k hk => ?_)
  unfold spec_Hash.f
  exact hash_loop (L := fun k s i => spec_Hash.l0 k l s i) l hl (fun k s i => by simp only [spec_Hash.l0, s_Mod, Option.bind_some]) l.length 0 (by omega) k hk
theorem s_keyed (a : Int) (l : List Int) (hl : l.length ≤ 10000000) : Ev (fun k => spec_KeyedHash.f k a l) (keyv a l) := by
  unfold spec_KeyedHash.f
  simp only [Option.bind_some]
  have h1 : ([a] : List Int).length + l.length < 17592186044416 := by simp; omega
  have h2 : ([a] ++ l).length < 17592186044416 := by simp; omega
  simp only [h1, h2, if_true]
  exact Ev.bind (f := fun _ r => some r) (s_Hash _ (by simp; omega)) (Ev.now _)
theorem c_I (xs : List Int) (hx : xs.length ≤ 1048576) : Ev (fun k => laws_toIntS.f k xs) xs := by
  refine rounds_of (d := xs.length) (fun k hk => ?_)
  unfold laws_toIntS.f
  rw [if_pos (by omega), if_pos (by omega)]
  exact copy_loop (L := laws_toIntS.l0) (fun k x y i => by simp only [laws_toIntS.l0]) xs (by omega) xs.length 0 _ (by simp) (by omega) (by simp) k hk
theorem e_I (xs ys : List Int) (hx : xs.length ≤ 9000000000000000) : Ev (fun k => laws_eqIntS.f k xs ys) (decide (xs = ys)) := by
  refine rounds_of (d := xs.length) (fun k hk => ?_)
  unfold laws_eqIntS.f
  by_cases e : xs.length = ys.length
  · rw [if_pos (by omega)]
    exact eq_loop (L := fun k i => laws_eqIntS.l0 k xs ys i) xs ys (fun k i => by simp only [laws_eqIntS.l0]) e (by omega) xs.length 0 (by omega) (by simp) k hk
  · rw [if_neg (by omega)]
    congr 1; symm; rw [decide_eq_false_iff_not]; intro e'; exact e (by rw [e'])
theorem FnExactKeyedHash : laws_FnExactKeyedHash.Pure := by
  intro n a _ _ _ _
  unfold laws_FnExactKeyedHash.f
  by_cases h1 : (a.length : Int) > 1048576
  · exact ⟨0, by rw [if_pos h1]⟩
  obtain ⟨K1, ha⟩ := evo (c_I a (by omega))
  obtain ⟨K3, ea⟩ := evo (e_I a a (by omega))
  obtain ⟨K5, hs⟩ := evo (s_keyed n a (by omega))
  obtain ⟨K6, hi⟩ := evo (i_keyed n a (by omega))
  refine ⟨K1 + K3 + K5 + K6, ?_⟩
  generalize hK : K1 + K3 + K5 + K6 = K
  rw [if_neg h1]
  simp only [ha K (by omega), ea K (by omega), hs K (by omega), hi K (by omega), Option.bind_some]
  simp

end Go.Proofs.Ytinfglcccomilaa.Pure
