/- The law FnExactDeriveFromString returns true for each key and each label. Conditions: the key is an int; the reach of memory. -/
import Derived.Test.YteehlniclobkbaaQFnExactDeriveFromStringx2
import Derived.Test.YteehlniclobkbaaLib
import Derived.Test.YteehlniclobkbaaVar
namespace Go.Proofs.Yteehlniclobkbaa.Pure
open Go.RowKit Go.Proofs.Yteehlniclobkbaa.QFnExactDeriveFromString Go.Proofs.YteehlniclobkbaaW.PrintWords Go.Proofs.YteehlniclobkbaaW.PrintLast Go.Proofs.YteehlniclobkbaaW.PrintMore Go.Proofs.Yteehlniclobkbaa.Lib Go.Proofs.Yteehlniclobkbaa.Var

theorem i_In (a l h : Int) : impl_InRange.f a l h = some (decide (l ≤ a ∧ a ≤ h)) := by
  unfold impl_InRange.f; by_cases e : l ≤ a <;> simp [e]
def modv (a m : Int) : Int := if 1 ≤ m ∧ m ≤ 1000000000000 then a % m else 0
theorem mod_core {a m : Int} (h1 : 1 ≤ m) (h2 : m ≤ 1000000000000) : Int.tmod (wrap64 (Int.tmod a m + m)) m = a % m := by
  have l1 : -m < Int.tmod a m := by have := Int.lt_tmod_of_pos a (show 0 < m by omega); omega
  have l2 : Int.tmod a m < m := Int.tmod_lt_of_pos a (by omega)
  rw [w64 (by omega) (by omega)]
  rw [Int.tmod_eq_emod_of_nonneg (by omega), Int.add_emod_right]
  rw [Int.tmod_eq_emod]
  split
  · simp
  · rw [Int.sub_emod]
    simp [Int.natAbs_of_nonneg (show 0 ≤ m by omega)]
theorem i_Mod (a m : Int) : impl_Mod.f a m = some (modv a m) := by
  unfold impl_Mod.f modv; rw [i_In]; simp only [Option.bind_some, decide_eq_true_eq]
  split
  · rename_i h; rw [if_neg (by omega), mod_core h.1 h.2]
  · rfl
def hstep (s v : Int) : Int := (s * 1000003 + v % 2147483647 + 13) % 2147483647
def hashv (l : List Int) : Int := l.foldl hstep 11
theorem hstep_bd (s v : Int) : 0 ≤ hstep s v ∧ hstep s v < 2147483647 := by unfold hstep; omega
theorem hstep_core {s v : Int} (h0 : 0 ≤ s) (h1 : s < 2147483647) : Int.tmod (wrap64 ((wrap64 ((wrap64 (s * 1000003)) + modv v 2147483647)) + 13)) 2147483647 = hstep s v := by
  unfold modv hstep
  rw [if_pos (by omega), w64 (n := s * 1000003) (by omega) (by omega), w64 (n := s * 1000003 + v % 2147483647) (by omega) (by omega), w64 (by omega) (by omega), Int.tmod_eq_emod_of_nonneg (by omega)]
theorem take_fold {α : Type} (f : α → Int → α) (a : α) (l : List Int) (i : Nat) (h : i < l.length) : (l.take (i + 1)).foldl f a = f ((l.take i).foldl f a) (rd l i) := by
  rw [List.take_succ_eq_append_getElem h, List.foldl_append, rd_nat l i h]; rfl
theorem hash_bd (l : List Int) : 0 ≤ hashv l ∧ hashv l < 2147483647 := by
  unfold hashv
  suffices h : ∀ (l : List Int) (s : Int), 0 ≤ s ∧ s < 2147483647 → 0 ≤ l.foldl hstep s ∧ l.foldl hstep s < 2147483647 from h l 11 (by omega)
  intro l
  induction l with
  | nil => intro s h; exact h
  | cons v l ih => intro s _; exact ih _ (hstep_bd s v)
theorem hash_loop {L : Nat → Int → Int → Option Int} (l : List Int) (hl : l.length ≤ 9000000000000000) (h : ∀ k s i, L (k + 1) s i = if i < (l.length : Int) then (if 0 ≤ i then L k (Int.tmod (wrap64 ((wrap64 ((wrap64 (s * 1000003)) + modv (rd l i) 2147483647)) + 13)) 2147483647) (wrap64 (i + 1)) else none) else some s) (d : Nat) :
    ∀ (i : Nat), i + d = l.length → ∀ k, d < k → L k (hashv (l.take i)) i = some (hashv l) := by
  induction d with
  | zero =>
    intro i hi k hk
    obtain ⟨k, rfl⟩ : ∃ m, k = m + 1 := ⟨k - 1, by omega⟩
    rw [h, if_neg (by omega), List.take_of_length_le (by omega)]
  | succ d ih =>
    intro i hi k hk
    obtain ⟨k, rfl⟩ : ∃ m, k = m + 1 := ⟨k - 1, by omega⟩
    have b := hash_bd (l.take i)
    rw [h, if_pos (by omega), if_pos (by omega), hstep_core b.1 b.2, w64 (by omega) (by omega)]
    have e := ih (i + 1) (by omega) k (by omega)
    unfold hashv at e ⊢
    rw [take_fold _ _ _ _ (by omega)] at e
    exact e
theorem i_Hash (l : List Int) (hl : l.length ≤ 9000000000000000) : Ev (fun k => impl_Hash.f k l) (hashv l) := by
  refine rounds_of (d := l.length) (fun k hk => ?_)
  unfold impl_Hash.f
  refine hash_loop (L := fun k s i => impl_Hash.l0 k s l (l.length : Int) i) l hl (fun k s i => ?_) l.length 0 (by omega) k hk
  simp only [impl_Hash.l0, i_Mod, Option.bind_some]
  by_cases h0 : i < (l.length : Int) <;> simp [h0]
theorem rdL_nat (ll : List (List Int)) (i : Nat) (h : i < ll.length) : rd_L2 ll (i : Int) = ll[i] := by
  unfold rd_L2; rw [Int.toNat_natCast, List.getD_eq_getElem?_getD, List.getElem?_eq_getElem h]; rfl
theorem flat_take (ll : List (List Int)) (i : Nat) (h : i < ll.length) : (ll.take (i + 1)).flatten = (ll.take i).flatten ++ ll[i] := by
  rw [List.take_succ_eq_append_getElem h, List.flatten_append]; simp
theorem flat_le (ll : List (List Int)) (i : Nat) : (ll.take i).flatten.length ≤ ll.flatten.length := by
  have h : ll.flatten = (ll.take i).flatten ++ (ll.drop i).flatten := by rw [← List.flatten_append, List.take_append_drop]
  rw [h, List.length_append]; omega
theorem cat_loop (ll : List (List Int)) (hl : ll.length ≤ 1000) (ht : ll.flatten.length ≤ 100000000) (d : Nat) : ∀ (i : Nat), i + d = ll.length → Ev (fun k => slices_Concat_int_int.l1 k (ll.take i).flatten ll (ll.length : Int) i) ll.flatten := by
  induction d with
  | zero =>
    intro i hi
    refine Ev.step (f := fun _ => some ll.flatten) (fun k => ?_) (Ev.now _)
    simp only [slices_Concat_int_int.l1]
    rw [if_neg (by omega), List.take_of_length_le (by omega)]
  | succ d ih =>
    intro i hi
    have h1 := flat_le ll (i + 1)
    have h2 := flat_take ll i (by omega)
    rw [h2, List.length_append] at h1
    refine Ev.step (f := fun k => slices_Concat_int_int.l1 k (ll.take (i + 1)).flatten ll (ll.length : Int) ((i + 1 : Nat) : Int)) (fun k => ?_) (ih (i + 1) (by omega))
    simp only [slices_Concat_int_int.l1]
    rw [if_pos (by omega), if_pos (by omega), if_pos (by omega), rdL_nat ll i (by omega), if_pos (by omega), w64 (by omega) (by omega), h2]; rfl
theorem size_loop (ll : List (List Int)) (hl : ll.length ≤ 1000) (ht : ll.flatten.length ≤ 100000000) (d : Nat) : ∀ (i : Nat), i + d = ll.length → Ev (fun k => slices_Concat_int_int.l0 k ll ((ll.take i).flatten.length : Int) ll (ll.length : Int) i) ll.flatten := by
  induction d with
  | zero =>
    intro i hi
    refine Ev.step (f := fun k => slices_Concat_int_int.l1 k [] ll (ll.length : Int) 0) (fun k => ?_) ?_
    · have h0 := flat_le ll i
      simp only [slices_Concat_int_int.l0, slices_Grow_int_int.f]
      rw [if_neg (by omega), if_pos ⟨trivial, by omega, by omega⟩]; rfl
    · exact cat_loop ll hl ht ll.length 0 (by omega)
  | succ d ih =>
    intro i hi
    have h1 := flat_le ll (i + 1)
    have h2 := flat_take ll i (by omega)
    have h3 : (ll.take (i + 1)).flatten.length = (ll.take i).flatten.length + (ll[i]'(by omega)).length := by rw [h2, List.length_append]
    refine Ev.step (f := fun k => slices_Concat_int_int.l0 k ll ((ll.take (i + 1)).flatten.length : Int) ll (ll.length : Int) ((i + 1 : Nat) : Int)) (fun k => ?_) (ih (i + 1) (by omega))
    simp only [slices_Concat_int_int.l0]
    rw [if_pos (by omega), if_pos (by omega), if_pos (by omega), rdL_nat ll i (by omega), w64 (n := ((ll.take i).flatten.length : Int) + ((ll[i]'(by omega)).length : Int)) (by omega) (by omega), if_neg (by omega), w64 (by omega) (by omega), h3]; rfl
theorem concat3 (a : Int) (l : List Int) (hl : l.length ≤ 10000000) : Ev (fun k => slices_Concat_int_int.f k [[a], l, [a]]) ([a] ++ l ++ [a]) := by
  unfold slices_Concat_int_int.f
  have e := size_loop [[a], l, [a]] (by simp) (by simp; omega) 3 0 (by simp)
  simpa using e
def keyv (a : Int) (l : List Int) : Int := hashv ([a] ++ l ++ [a])
theorem i_keyed (a : Int) (l : List Int) (hl : l.length ≤ 10000000) : Ev (fun k => impl_KeyedHash.f k a l) (keyv a l) := by
  unfold impl_KeyedHash.f
  refine Ev.bind (f := fun k t => (impl_Hash.f k t).bind fun r => some r) (concat3 a l hl) ?_
  exact Ev.bind (f := fun _ r => some r) (i_Hash _ (by simp; omega)) (Ev.now _)
def b2i (l : List Int) : List Int := (l.length : Int) :: l
theorem b2i_loop {L : Nat → List Int → Int → Option (List Int)} (l : List Int) (hl : l.length ≤ 100000000) (hb : ∀ x ∈ l, (Lit.int .u8 x).wf = true) (h : ∀ k o i, L (k + 1) o i = if i < (l.length : Int) then (if 0 ≤ i then (if o.length < 17592186044416 then L k (o ++ [wrap64 (rd l i)]) (wrap64 (i + 1)) else none) else none) else some o) (d : Nat) :
    ∀ (i : Nat), i + d = l.length → ∀ k, d < k → L k ((l.length : Int) :: l.take i) i = some (b2i l) := by
  induction d with
  | zero =>
    intro i hi k hk
    obtain ⟨k, rfl⟩ : ∃ m, k = m + 1 := ⟨k - 1, by omega⟩
    rw [h, if_neg (by omega), List.take_of_length_le (by omega)]; rfl
  | succ d ih =>
    intro i hi k hk
    obtain ⟨k, rfl⟩ : ∃ m, k = m + 1 := ⟨k - 1, by omega⟩
    have hlt : i < l.length := by omega
    have b := bounds_u8 (hb l[i] (List.getElem_mem hlt))
    rw [h, if_pos (by omega), if_pos (by omega), if_pos (by simp; omega), rd_nat l i hlt, w64 (by omega) (by omega), w64 (by omega) (by omega)]
    have e := ih (i + 1) (by omega) k (by omega)
    rw [List.take_succ_eq_append_getElem hlt] at e
    exact e
theorem b2i_length (l : List Int) : (b2i l).length = l.length + 1 := by simp [b2i]
theorem i_b2i (l : List Int) (hl : l.length ≤ 100000000) (hb : ∀ x ∈ l, (Lit.int .u8 x).wf = true) : Ev (fun k => impl_BytesToInts.f k l) (b2i l) := by
  refine rounds_of (d := l.length) (fun k hk => ?_)
  unfold impl_BytesToInts.f
  refine b2i_loop (L := fun k o i => impl_BytesToInts.l0 k o l (l.length : Int) i) l hl hb (fun k o i => ?_) l.length 0 (by omega) k hk
  simp only [impl_BytesToInts.l0]
  by_cases h0 : i < (l.length : Int) <;> simp [h0]
theorem bytesOf_wf (s : ByteArray) : ∀ x ∈ bytesOf s, (Lit.int .u8 x).wf = true := by
  intro x hx
  unfold bytesOf at hx
  obtain ⟨b, _, rfl⟩ := List.mem_map.1 hx
  have := b.toNat_lt
  exact Go.Proofs.Yteehlniclobkbaa.Var.wf8 (by omega)
def drv (a : Int) (s : ByteArray) : Int := if keyv a (b2i (bytesOf s)) = 0 then 1 else keyv a (b2i (bytesOf s))
theorem drv_bd (a : Int) (s : ByteArray) : 1 ≤ drv a s ∧ drv a s ≤ 2147483646 := by
  have := hash_bd ([a] ++ b2i (bytesOf s) ++ [a])
  unfold drv keyv; split <;> omega
theorem i_drv (a : Int) (s : ByteArray) (hs : s.size ≤ 1048576) : Ev (fun k => impl_DeriveFromString.f k a s) (drv a s) := by
  have hl : (bytesOf s).length ≤ 1048576 := by rw [bytesOf_length]; exact hs
  have hb := b2i_length (bytesOf s)
  obtain ⟨K1, e1⟩ := evo (i_b2i (bytesOf s) (by omega) (bytesOf_wf s))
  obtain ⟨K2, e2⟩ := evo (i_keyed a (b2i (bytesOf s)) (by omega))
  refine ⟨K1 + K2, fun k hk => ?_⟩
  show impl_DeriveFromString.f k a s = _
  unfold impl_DeriveFromString.f
  rw [if_pos (by omega), e1 k (by omega)]
  simp only [Option.bind_some]
  rw [e2 k (by omega)]
  rfl
theorem s_In (a l h : Int) : spec_l1In.f a l h = some (decide (l ≤ a ∧ a ≤ h)) := by
  unfold spec_l1In.f; by_cases e : l ≤ a <;> simp [e]
theorem s_Mod (a m : Int) : spec_Mod.f a m = some (modv a m) := by
  unfold spec_Mod.f modv; rw [s_In]; simp only [Option.bind_some, decide_eq_true_eq]
  split
  · rename_i h; rw [if_neg (by omega), mod_core h.1 h.2]
  · rfl
theorem s_Hash (l : List Int) (hl : l.length ≤ 9000000000000000) : Ev (fun k => spec_Hash.f k l) (hashv l) := by
  refine rounds_of (d := l.length) (fun k hk => ?_)
  unfold spec_Hash.f
  exact hash_loop (L := fun k s i => spec_Hash.l0 k l s i) l hl (fun k s i => by simp only [spec_Hash.l0, s_Mod, Option.bind_some]) l.length 0 (by omega) k hk
theorem s_keyed (a : Int) (l : List Int) (hl : l.length ≤ 10000000) : Ev (fun k => spec_KeyedHash.f k a l) (keyv a l) := by
  unfold spec_KeyedHash.f
  simp only [Option.bind_some]
  have h1 : ([a] : List Int).length + l.length < 17592186044416 := by simp; omega
  have h2 : ([a] ++ l).length < 17592186044416 := by simp; omega
  simp only [h1, h2, if_true]
  exact Ev.bind (f := fun _ r => some r) (s_Hash _ (by simp; omega)) (Ev.now _)
theorem s_b2i (l : List Int) (hl : l.length ≤ 100000000) (hb : ∀ x ∈ l, (Lit.int .u8 x).wf = true) : Ev (fun k => spec_BytesToInts.f k l) (b2i l) := by
  refine rounds_of (d := l.length) (fun k hk => ?_)
  unfold spec_BytesToInts.f
  exact b2i_loop (L := fun k o i => spec_BytesToInts.l0 k l o i) l hl hb (fun k o i => by simp only [spec_BytesToInts.l0]) l.length 0 (by omega) k hk
theorem s_drv (a : Int) (s : ByteArray) (hs : s.size ≤ 1048576) : Ev (fun k => spec_DeriveFromString.f k a s) (drv a s) := by
  have hl : (bytesOf s).length ≤ 1048576 := by rw [bytesOf_length]; exact hs
  have hb := b2i_length (bytesOf s)
  have hk := hash_bd ([a] ++ b2i (bytesOf s) ++ [a])
  obtain ⟨K1, e1⟩ := evo (s_b2i (bytesOf s) (by omega) (bytesOf_wf s))
  obtain ⟨K2, e2⟩ := evo (s_keyed a (b2i (bytesOf s)) (by omega))
  refine ⟨K1 + K2, fun k hk => ?_⟩
  show spec_DeriveFromString.f k a s = _
  unfold spec_DeriveFromString.f
  rw [if_pos (by omega), e1 k (by omega)]
  simp only [Option.bind_some]
  rw [e2 k (by omega)]
  simp only [Option.bind_some]
  unfold drv keyv
  congr 1
  split <;> split <;> omega
theorem FnExactDeriveFromString : laws_FnExactDeriveFromString.Pure := by
  intro a s _ _
  unfold laws_FnExactDeriveFromString.f
  by_cases h1 : (s.size : Int) > 1048576
  · exact ⟨0, by rw [if_pos h1]⟩
  obtain ⟨K1, e1⟩ := evo (s_drv a s (by omega))
  obtain ⟨K2, e2⟩ := evo (i_drv a s (by omega))
  refine ⟨K1 + K2, ?_⟩
  rw [if_neg h1, e1 _ (by omega)]
  simp only [Option.bind_some]
  rw [e2 _ (by omega)]
  simp

end Go.Proofs.Yteehlniclobkbaa.Pure
