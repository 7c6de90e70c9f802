/- The law FnExactDecrypt returns true for each key and each slice of bytes. Conditions: each number is of its kind; the reach of memory. -/
import Derived.Test.YteehlniclobkbaaQFnExactDecryptx3
import Derived.Test.YteehlniclobkbaaLib
namespace Go.Proofs.Yteehlniclobkbaa.Pure
open Go.RowKit Go.Proofs.Yteehlniclobkbaa.QFnExactDecrypt Go.Proofs.YteehlniclobkbaaW.PrintWords Go.Proofs.YteehlniclobkbaaW.PrintLast Go.Proofs.YteehlniclobkbaaW.PrintMore Go.Proofs.Yteehlniclobkbaa.Lib 

theorem s_In (a l h : Int) : spec_l1In.f a l h = some (decide (l ≤ a ∧ a ≤ h)) := by
  unfold spec_l1In.f; by_cases e : l ≤ a <;> simp [e]
def modv (a m : Int) : Int := if 1 ≤ m ∧ m ≤ 1000000000000 then a % m else 0
theorem mod_core {a m : Int} (h1 : 1 ≤ m) (h2 : m ≤ 1000000000000) : Int.tmod (wrap64 (Int.tmod a m + m)) m = a % m := by
  have l1 : -m < Int.tmod a m := by have := Int.lt_tmod_of_pos a (show 0 < m by omega); omega
  have l2 : Int.tmod a m < m := Int.tmod_lt_of_pos a (by omega)
  rw [w64 (by omega) (by omega)]
  rw [Int.tmod_eq_emod_of_nonneg (by omega), Int.add_emod_right]
  rw [Int.tmod_eq_emod]
  split
  · simp
  · rw [Int.sub_emod]
    simp [Int.natAbs_of_nonneg (show 0 ≤ m by omega)]
theorem s_Mod (a m : Int) : spec_Mod.f a m = some (modv a m) := by
  unfold spec_Mod.f modv; rw [s_In]; simp only [Option.bind_some, decide_eq_true_eq]
  split
  · rename_i h; rw [if_neg (by omega), mod_core h.1 h.2]
  · rfl
def hstep (s v : Int) : Int := (s * 1000003 + v % 2147483647 + 13) % 2147483647
def hashv (l : List Int) : Int := l.foldl hstep 11
theorem hstep_bd (s v : Int) : 0 ≤ hstep s v ∧ hstep s v < 2147483647 := by unfold hstep; omega
theorem hstep_core {s v : Int} (h0 : 0 ≤ s) (h1 : s < 2147483647) : Int.tmod (wrap64 ((wrap64 ((wrap64 (s * 1000003)) + modv v 2147483647)) + 13)) 2147483647 = hstep s v := by
  unfold modv hstep
  rw [if_pos (by omega), w64 (n := s * 1000003) (by omega) (by omega), w64 (n := s * 1000003 + v % 2147483647) (by omega) (by omega), w64 (by omega) (by omega), Int.tmod_eq_emod_of_nonneg (by omega)]
theorem take_fold {α : Type} (f : α → Int → α) (a : α) (l : List Int) (i : Nat) (h : i < l.length) : (l.take (i + 1)).foldl f a = f ((l.take i).foldl f a) (rd l i) := by
  rw [List.take_succ_eq_append_getElem h, List.foldl_append, rd_nat l i h]; rfl
theorem hash_bd (l : List Int) : 0 ≤ hashv l ∧ hashv l < 2147483647 := by
  unfold hashv
  suffices h : ∀ (l : List Int) (s : Int), 0 ≤ s ∧ s < 2147483647 → 0 ≤ l.foldl hstep s ∧ l.foldl hstep s < 2147483647 from h l 11 (by omega)
  intro l
  induction l with
  | nil => intro s h; exact h
  | cons v l ih => intro s _; exact ih _ (hstep_bd s v)
theorem hash_loop {L : Nat → Int → Int → Option Int} (l : List Int) (hl : l.length ≤ 9000000000000000) (h : ∀ k s i, L (k + 1) s i = if i < (l.length : Int) then (if 0 ≤ i then L k (Int.tmod (wrap64 ((wrap64 ((wrap64 (s * 1000003)) + modv (rd l i) 2147483647)) + 13)) 2147483647) (wrap64 (i + 1)) else none) else some s) (d : Nat) :
    ∀ (i : Nat), i + d = l.length → ∀ k, d < k → L k (hashv (l.take i)) i = some (hashv l) := by
  induction d with
  | zero =>
    intro i hi k hk
    obtain ⟨k, rfl⟩ : ∃ m, k = m + 1 := ⟨k - 1, by omega⟩
    rw [h, if_neg (by omega), List.take_of_length_le (by omega)]
  | succ d ih =>
    intro i hi k hk
    obtain ⟨k, rfl⟩ : ∃ m, k = m + 1 := ⟨k - 1, by omega⟩
    have b := hash_bd (l.take i)
    rw [h, if_pos (by omega), if_pos (by omega), hstep_core b.1 b.2, w64 (by omega) (by omega)]
    have e := ih (i + 1) (by omega) k (by omega)
    unfold hashv at e ⊢
    rw [take_fold _ _ _ _ (by omega)] at e
    exact e
theorem s_Hash (l : List Int) (hl : l.length ≤ 9000000000000000) : Ev (fun k => spec_Hash.f k l) (hashv l) := by
  refine rounds_of (d := l.length) (fun k hk => ?_)
  unfold spec_Hash.f
  exact hash_loop (L := fun k s i => spec_Hash.l0 k l s i) l hl (fun k s i => by simp only [spec_Hash.l0, s_Mod, Option.bind_some]) l.length 0 (by omega) k hk
def keyv (a : Int) (l : List Int) : Int := hashv ([a] ++ l ++ [a])
theorem s_keyed (a : Int) (l : List Int) (hl : l.length ≤ 10000000) : Ev (fun k => spec_KeyedHash.f k a l) (keyv a l) := by
  unfold spec_KeyedHash.f
  simp only [Option.bind_some]
  have h1 : ([a] : List Int).length + l.length < 17592186044416 := by simp; omega
  have h2 : ([a] ++ l).length < 17592186044416 := by simp; omega
  simp only [h1, h2, if_true]
  exact Ev.bind (f := fun _ r => some r) (s_Hash _ (by simp; omega)) (Ev.now _)
/-- Bytes, to each of which so often the keyed hash of its place is added. -/
def ciph (s a : Int) (l : List Int) : List Int := (List.range l.length).map fun (i : Nat) => (rd l (i : Int) + s * keyv a [(i : Int)]) % 256
theorem ciph_length (s a : Int) (l : List Int) : (ciph s a l).length = l.length := by simp [ciph]
theorem ciph_get (s a : Int) (l : List Int) (i : Nat) (h : i < l.length) : rd (ciph s a l) (i : Int) = (rd l (i : Int) + s * keyv a [(i : Int)]) % 256 := by
  rw [rd_nat _ i (by rw [ciph_length]; exact h)]; simp [ciph]
theorem keyv_bd (a : Int) (l : List Int) : 0 ≤ keyv a l ∧ keyv a l < 2147483647 := hash_bd _
theorem ciph_loop {L : Nat → List Int → Int → Option (List Int)} {Kh : Nat → List Int → Option Int} {g : Int → Int → Int} (s a : Int) (l : List Int) (hl : l.length ≤ 10000000) (hb : ∀ x ∈ l, (Lit.int .u8 x).wf = true) (hK : ∀ i : Int, Ev (fun k => Kh k [i]) (keyv a [i]))
    (hg : ∀ c t : Int, 0 ≤ c → c ≤ 255 → 0 ≤ t → t < 2147483647 → g c t = (c + s * t) % 256)
    (h : ∀ k o i, L (k + 1) o i = if i < (l.length : Int) then (if 0 ≤ i then ((Kh k [i]).bind fun t => if o.length < 140737488355328 then L k (o ++ [g (rd l i) t]) (wrap64 (i + 1)) else none) else none) else some o) (d : Nat) :
    ∀ (i : Nat), i + d = l.length → Ev (fun k => L k ((List.range i).map fun (j : Nat) => (rd l (j : Int) + s * keyv a [(j : Int)]) % 256) i) (ciph s a l) := by
  induction d with
  | zero =>
    intro i hi
    refine Ev.step (f := fun _ => some (ciph s a l)) (fun k => ?_) (Ev.now _)
    obtain rfl : i = l.length := by omega
    rw [h, if_neg (by omega)]; rfl
  | succ d ih =>
    intro i hi
    have hc := bounds_u8 (hb _ (rd_mem' l i (by omega)))
    have hk := keyv_bd a [(i : Int)]
    refine Ev.step (f := fun k => (Kh k [(i : Int)]).bind fun t => L k (((List.range i).map fun (j : Nat) => (rd l (j : Int) + s * keyv a [(j : Int)]) % 256) ++ [g (rd l i) t]) ((i + 1 : Nat) : Int)) (fun k => ?_) ?_
    · rw [h, if_pos (by omega), if_pos (by omega), w64 (by omega) (by omega)]
      have hlen : ((List.range i).map fun (j : Nat) => (rd l (j : Int) + s * keyv a [(j : Int)]) % 256).length < 140737488355328 := by simp; omega
      simp only [hlen, if_true]; rfl
    · refine Ev.bind (f := fun k t => L k (((List.range i).map fun (j : Nat) => (rd l (j : Int) + s * keyv a [(j : Int)]) % 256) ++ [g (rd l i) t]) ((i + 1 : Nat) : Int)) (hK _) ?_
      have e := ih (i + 1) (by omega)
      rw [List.range_succ, List.map_append] at e
      simp only [List.map_cons, List.map_nil] at e
      rw [hg _ _ hc.1 hc.2 hk.1 hk.2]
      exact e
theorem s_dec1 (a : Int) (l : List Int) (hl : l.length ≤ 10000000) (hb : ∀ x ∈ l, (Lit.int .u8 x).wf = true) : Ev (fun k => spec_Decrypt.f k a l) (ciph (-1) a l) := by
  unfold spec_Decrypt.f
  refine ciph_loop (L := fun k o i => spec_Decrypt.l0 k a l o i) (Kh := fun k l => spec_KeyedHash.f k a l) (g := fun c t => (modv (wrap64 (wrap64 c - Int.tmod t 256)) 256) % 256) (-1) a l hl hb (fun i => s_keyed a [i] (by simp)) (fun c t h0 h1 h2 h3 => ?_) (fun k o i => by simp only [spec_Decrypt.l0, s_Mod, Option.bind_some]) l.length 0 (by omega)
  rw [w64 (n := c) (by omega) (by omega), Int.tmod_eq_emod_of_nonneg h2, w64 (by omega) (by omega)]
  unfold modv
  rw [if_pos (by omega)]
  omega
theorem i_In (a l h : Int) : impl_InRange.f a l h = some (decide (l ≤ a ∧ a ≤ h)) := by
  unfold impl_InRange.f; by_cases e : l ≤ a <;> simp [e]
theorem i_Mod (a m : Int) : impl_Mod.f a m = some (modv a m) := by
  unfold impl_Mod.f modv; rw [i_In]; simp only [Option.bind_some, decide_eq_true_eq]
  split
  · rename_i h; rw [if_neg (by omega), mod_core h.1 h.2]
  · rfl
theorem i_Hash (l : List Int) (hl : l.length ≤ 9000000000000000) : Ev (fun k => impl_Hash.f k l) (hashv l) := by
  refine rounds_of (d := l.length) (fun k hk => ?_)
  unfold impl_Hash.f
  refine hash_loop (L := fun k s i => impl_Hash.l0 k s l (l.length : Int) i) l hl (fun k s i => ?_) l.length 0 (by omega) k hk
  simp only [impl_Hash.l0, i_Mod, Option.bind_some]
  by_cases h0 : i < (l.length : Int) <;> simp [h0]
theorem rdL_nat (ll : List (List Int)) (i : Nat) (h : i < ll.length) : rd_L2 ll (i : Int) = ll[i] := by
  unfold rd_L2; rw [Int.toNat_natCast, List.getD_eq_getElem?_getD, List.getElem?_eq_getElem h]; rfl
theorem flat_take (ll : List (List Int)) (i : Nat) (h : i < ll.length) : (ll.take (i + 1)).flatten = (ll.take i).flatten ++ ll[i] := by
  rw [List.take_succ_eq_append_getElem h, List.flatten_append]; simp
theorem flat_le (ll : List (List Int)) (i : Nat) : (ll.take i).flatten.length ≤ ll.flatten.length := by
  have h : ll.flatten = (ll.take i).flatten ++ (ll.drop i).flatten := by rw [← List.flatten_append, List.take_append_drop]
  rw [h, List.length_append]; omega
theorem cat_loop (ll : List (List Int)) (hl : ll.length ≤ 1000) (ht : ll.flatten.length ≤ 100000000) (d : Nat) : ∀ (i : Nat), i + d = ll.length → Ev (fun k => slices_Concat_int_int.l1 k (ll.take i).flatten ll (ll.length : Int) i) ll.flatten := by
  induction d with
  | zero =>
    intro i hi
    refine Ev.step (f := fun _ => some ll.flatten) (fun k => ?_) (Ev.now _)
    simp only [slices_Concat_int_int.l1]
    rw [if_neg (by omega), List.take_of_length_le (by omega)]
  | succ d ih =>
    intro i hi
    have h1 := flat_le ll (i + 1)
    have h2 := flat_take ll i (by omega)
    rw [h2, List.length_append] at h1
    refine Ev.step (f := fun k => slices_Concat_int_int.l1 k (ll.take (i + 1)).flatten ll (ll.length : Int) ((i + 1 : Nat) : Int)) (fun k => ?_) (ih (i + 1) (by omega))
    simp only [slices_Concat_int_int.l1]
    rw [if_pos (by omega), if_pos (by omega), if_pos (by omega), rdL_nat ll i (by omega), if_pos (by omega), w64 (by omega) (by omega), h2]; rfl
theorem size_loop (ll : List (List Int)) (hl : ll.length ≤ 1000) (ht : ll.flatten.length ≤ 100000000) (d : Nat) : ∀ (i : Nat), i + d = ll.length → Ev (fun k => slices_Concat_int_int.l0 k ll ((ll.take i).flatten.length : Int) ll (ll.length : Int) i) ll.flatten := by
  induction d with
  | zero =>
    intro i hi
    refine Ev.step (f := fun k => slices_Concat_int_int.l1 k [] ll (ll.length : Int) 0) (fun k => ?_) ?_
    · have h0 := flat_le ll i
      simp only [slices_Concat_int_int.l0, slices_Grow_int_int.f]
      rw [if_neg (by omega), if_pos ⟨trivial, by omega, by omega⟩]; rfl
    · exact cat_loop ll hl ht ll.length 0 (by omega)
  | succ d ih =>
    intro i hi
    have h1 := flat_le ll (i + 1)
    have h2 := flat_take ll i (by omega)
    have h3 : (ll.take (i + 1)).flatten.length = (ll.take i).flatten.length + (ll[i]'(by omega)).length := by rw [h2, List.length_append]
    refine Ev.step (f := fun k => slices_Concat_int_int.l0 k ll ((ll.take (i + 1)).flatten.length : Int) ll (ll.length : Int) ((i + 1 : Nat) : Int)) (fun k => ?_) (ih (i + 1) (by omega))
    simp only [slices_Concat_int_int.l0]
    rw [if_pos (by omega), if_pos (by omega), if_pos (by omega), rdL_nat ll i (by omega), w64 (n := ((ll.take i).flatten.length : Int) + ((ll[i]'(by omega)).length : Int)) (by omega) (by omega), if_neg (by omega), w64 (by omega) (by omega), h3]; rfl
theorem concat3 (a : Int) (l : List Int) (hl : l.length ≤ 10000000) : Ev (fun k => slices_Concat_int_int.f k [[a], l, [a]]) ([a] ++ l ++ [a]) := by
  unfold slices_Concat_int_int.f
  have e := size_loop [[a], l, [a]] (by simp) (by simp; omega) 3 0 (by simp)
  simpa using e
theorem i_keyed (a : Int) (l : List Int) (hl : l.length ≤ 10000000) : Ev (fun k => impl_KeyedHash.f k a l) (keyv a l) := by
  unfold impl_KeyedHash.f
  refine Ev.bind (f := fun k t => (impl_Hash.f k t).bind fun r => some r) (concat3 a l hl) ?_
  exact Ev.bind (f := fun _ r => some r) (i_Hash _ (by simp; omega)) (Ev.now _)
theorem i_ciph (a : Int) (l : List Int) (s : Int) (hs : s = 1 ∨ s = -1) (hl : l.length ≤ 10000000) (hb : ∀ x ∈ l, (Lit.int .u8 x).wf = true) : Ev (fun k => impl_ciphered.f k a l s) (ciph s a l) := by
  unfold impl_ciphered.f
  refine ciph_loop (L := fun k o i => impl_ciphered.l0 k a s o l (l.length : Int) i) (Kh := fun k l => impl_KeyedHash.f k a l) (g := fun c t => (wrap64 (wrap64 c + wrap64 (s * t))) % 256) s a l hl hb (fun i => i_keyed a [i] (by simp)) (fun c t h0 h1 h2 h3 => ?_) (fun k o i => ?_) l.length 0 (by omega)
  · have : s * t = t ∨ s * t = -t := by rcases hs with rfl | rfl <;> omega
    rw [w64 (n := c) (by omega) (by omega), w64 (n := s * t) (by omega) (by omega), w64 (by omega) (by omega)]
  · simp only [impl_ciphered.l0]
    by_cases h0 : i < (l.length : Int) <;> simp [h0]
theorem i_dec1 (a : Int) (l : List Int) (hl : l.length ≤ 10000000) (hb : ∀ x ∈ l, (Lit.int .u8 x).wf = true) : Ev (fun k => impl_Decrypt.f k a l) (ciph (-1) a l) := by
  unfold impl_Decrypt.f
  exact Ev.bind (f := fun _ r => some r) (i_ciph a l (-1) (by omega) hl hb) (Ev.now _)
theorem c_B (xs : List Int) (hx : xs.length ≤ 1048576) : Ev (fun k => laws_toByteS.f k xs) xs := by
  refine rounds_of (d := xs.length) (fun k hk => ?_)
  unfold laws_toByteS.f
  rw [if_pos (by omega), if_pos (by omega)]
  exact copy_loop (L := laws_toByteS.l0) (fun k x y i => by simp only [laws_toByteS.l0]) xs (by omega) xs.length 0 _ (by simp) (by omega) (by simp) k hk
theorem e_B (xs ys : List Int) (hx : xs.length ≤ 9000000000000000) : Ev (fun k => laws_eqByteS.f k xs ys) (decide (xs = ys)) := by
  refine rounds_of (d := xs.length) (fun k hk => ?_)
  unfold laws_eqByteS.f
  by_cases e : xs.length = ys.length
  · rw [if_pos (by omega)]
    exact eq_loop (L := fun k i => laws_eqByteS.l0 k xs ys i) xs ys (fun k i => by simp only [laws_eqByteS.l0]) e (by omega) xs.length 0 (by omega) (by simp) k hk
  · rw [if_neg (by omega)]
    congr 1; symm; rw [decide_eq_false_iff_not]; intro e'; exact e (by rw [e'])
theorem m_B (xs : List Int) (m : Int) (hm : 0 ≤ m) (hm2 : m ≤ 100000000) (hx : xs.length ≤ 100000000) : Ev (fun k => laws_markByteS.f k xs m) (m + (xs.length : Int), marks (· % 256) m xs.length) := by
  refine rounds_of (d := xs.length) (fun k hk => ?_)
  unfold laws_markByteS.f
  have h := mark_loop (L := laws_markByteS.l0) (φ := (· % 256)) (fun k x m i => by simp only [laws_markByteS.l0]) m xs.length (by omega) (by omega) (by omega) xs.length 0 xs rfl (by omega) (by simp [marks]) k hk
  rw [show m + ((0 : Nat) : Int) = m by omega] at h
  exact h
theorem h_B (n : Nat) (hn : n ≤ 100000000) : Ev (fun k => laws_heldByteS.f k (marks (· % 256) 1 n) 1) (1 + (n : Int)) := by
  refine rounds_of (d := n) (fun k hk => ?_)
  unfold laws_heldByteS.f
  have h := held_loop (L := laws_heldByteS.l0) (φ := (· % 256)) (fun k x m i => by simp only [laws_heldByteS.l0]) 1 n (by omega) (by omega) (by omega) n 0 (by omega) k hk
  exact h
theorem FnExactDecrypt : laws_FnExactDecrypt.Pure := by
  intro n a _ _ _ hw
  unfold laws_FnExactDecrypt.f
  by_cases h1 : (a.length : Int) > 1048576
  · exact ⟨0, by rw [if_pos h1]⟩
  have hn := ciph_length (-1) n a
  obtain ⟨K1, ha⟩ := evo (c_B a (by omega))
  obtain ⟨K2, ea⟩ := evo (e_B a a (by omega))
  obtain ⟨K3, hs⟩ := evo (s_dec1 n a (by omega) hw)
  obtain ⟨K4, hi⟩ := evo (i_dec1 n a (by omega) hw)
  obtain ⟨K5, eb⟩ := evo (e_B (ciph (-1) n a) (ciph (-1) n a) (by omega))
  obtain ⟨K6, ma⟩ := evo (m_B a 1 (by omega) (by omega) (by omega))
  obtain ⟨K7, mb⟩ := evo (m_B (ciph (-1) n a) 1 (by omega) (by omega) (by omega))
  obtain ⟨K8, hb⟩ := evo (h_B (ciph (-1) n a).length (by omega))
  refine ⟨K1 + K2 + K3 + K4 + K5 + K6 + K7 + K8 + 1, ?_⟩
  generalize hK : K1 + K2 + K3 + K4 + K5 + K6 + K7 + K8 = K
  have hj : laws_FnExactDecrypt.j0 (K + 1) n a (ciph (-1) n a) (ciph (-1) n a) false = some true := by
    simp only [laws_FnExactDecrypt.j0]
    rw [if_neg (by decide), mb K (by omega)]
    simp only [Option.bind_some, ha K (by omega), hi K (by omega), eb K (by omega), hb K (by omega)]
    simp only [decide_true, if_true]
    rw [if_neg (by omega), if_neg (by omega)]
  rw [if_neg h1]
  simp only [ha (K + 1) (by omega), ea (K + 1) (by omega), hs (K + 1) (by omega), hi (K + 1) (by omega), eb (K + 1) (by omega), ma (K + 1) (by omega), Option.bind_some, decide_true, if_true, Bool.not_true]
  rw [if_neg (by omega)]
  exact hj

end Go.Proofs.Yteehlniclobkbaa.Pure
