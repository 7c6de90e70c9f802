/- The law FnKeyedHash returns true for each input of bytes. Conditions: each number is a byte; the reach of memory. -/
import Derived.Test.YteehlniclobkbaaQFnKeyedHashx3
import Derived.Test.YteehlniclobkbaaLib
import Derived.Test.YteehlniclobkbaaDraw
namespace Go.Proofs.Yteehlniclobkbaa.Pure
open Go.RowKit Go.Proofs.Yteehlniclobkbaa.QFnKeyedHash Go.Proofs.YteehlniclobkbaaW.PrintWords Go.Proofs.YteehlniclobkbaaW.PrintLast Go.Proofs.YteehlniclobkbaaW.PrintMore Go.Proofs.Yteehlniclobkbaa.Lib Go.Proofs.Yteehlniclobkbaa.Var Go.Proofs.Yteehlniclobkbaa.Draw

theorem big_le (l : List Int) : laws_big.f l = some (decide ((l.length : Int) > 1048576)) := rfl
theorem d_New (l : List Int) (hl : l.length ≤ 1048576) : ∃ h, Ev (fun k => spec_l1New.f k l) (l, 0, h) := by
  unfold spec_l1New.f
  exact new_loop (L := fun k h i => spec_l1New.l0 k l h i) (M := fun h i => Go.bits .and .i64 (wrap64 ((wrap64 ((wrap64 (h * 137)) + (wrap64 (rd l i)))) + 11)) 1073741823) l (by omega) (fun k h i => by simp only [spec_l1New.l0]) l.length 0 _ (by omega)
theorem d_Byte (b : List Int) (hl : b.length ≤ 1048576) (i h : Int) (h0 : 0 ≤ i) (h1 : i ≤ (b.length : Int)) : Ok (spec_l1Byte.f b i h) b.length fun v => 0 ≤ v ∧ v ≤ 255 := by
  unfold spec_l1Byte.f
  refine Ok.ite (fun g => ?_) (fun g => ?_)
  · rw [if_pos h0, w64 (n := i + 1) (by omega) (by omega)]
    exact Ok.now (by omega) (by omega) (and255 _)
  · exact Ok.now h0 h1 (and255 _)
theorem d_Below (b : List Int) (hl : b.length ≤ 1048576) (n i h : Int) (h0 : 0 ≤ i) (h1 : i ≤ (b.length : Int)) : Ok (spec_l1Below.f b i h n) b.length fun v => 0 ≤ v ∧ (0 < n → v < n) ∧ (n ≤ 0 → v = 0) := by
  unfold spec_l1Below.f
  refine Ok.ite (fun g => Ok.now h0 h1 (by omega)) (fun g => Ok.ite (fun g2 => ?_) (fun g2 => ?_))
  · refine Ok.bind (d_Byte b hl i h h0 h1) (fun v i h h0 h1 hv => ?_)
    dsimp only
    rw [if_neg (by omega)]
    have := tmod_bd (x := v) (n := n) (by omega) (by omega)
    exact Ok.now h0 h1 (by omega)
  · refine Ok.bind (d_Byte b hl i h h0 h1) (fun x i h h0 h1 hx => ?_)
    refine Ok.bind (d_Byte b hl i h h0 h1) (fun y i h h0 h1 hy => ?_)
    refine Ok.bind (d_Byte b hl i h h0 h1) (fun z i h h0 h1 hz => ?_)
    dsimp only
    rw [if_neg (by omega), w64 (n := x * 65536) (by omega) (by omega), w64 (n := y * 256) (by omega) (by omega), w64 (n := x * 65536 + y * 256) (by omega) (by omega), w64 (n := x * 65536 + y * 256 + z) (by omega) (by omega)]
    have := tmod_bd (x := x * 65536 + y * 256 + z) (n := n) (by omega) (by omega)
    exact Ok.now h0 h1 (by omega)
theorem d_Once (b : List Int) (hl : b.length ≤ 1048576) (n i h : Int) (h0 : 0 ≤ i) (h1 : i ≤ (b.length : Int)) : Ok (spec_l1Once.f b i h n) b.length fun _ => True := by
  unfold spec_l1Once.f
  exact Ok.bind (d_Below b hl n i h h0 h1) (fun v i h h0 h1 _ => Ok.now h0 h1 trivial)
theorem d_Int (b : List Int) (hl : b.length ≤ 1048576) (l : List Int) (hn : 0 < l.length) (i h : Int) (h0 : 0 ≤ i) (h1 : i ≤ (b.length : Int)) : Ok (spec_l1Int.f b i h l) b.length fun v => v ∈ l := by
  unfold spec_l1Int.f
  refine Ok.bind (d_Below b hl _ i h h0 h1) (fun v i h h0 h1 hv => ?_)
  dsimp only
  rw [if_pos (by omega), if_pos (by omega)]
  exact Ok.now h0 h1 (rd_mem (by omega) (by omega))
theorem d_Word (b : List Int) (hl : b.length ≤ 1048576) (i h : Int) (h0 : 0 ≤ i) (h1 : i ≤ (b.length : Int)) : Ok (spec_l3Word.f b i h) b.length fun v => -1 ≤ v ∧ v ≤ 2147483648 := by
  unfold spec_l3Word.f
  refine Ok.bind (d_Once b hl _ i h h0 h1) (fun v i h h0 h1 _ => ?_)
  refine Ok.ite (fun _ => ?_) (fun _ => ?_)
  · refine Ok.bind (d_Int b hl _ (by decide) i h h0 h1) (fun v i h h0 h1 hv => Ok.now h0 h1 ?_)
    simp only [List.mem_cons, List.not_mem_nil, or_false] at hv
    dsimp only at hv ⊢; omega
  · refine Ok.bind (d_Once b hl _ i h h0 h1) (fun v i h h0 h1 _ => ?_)
    refine Ok.ite (fun _ => ?_) (fun _ => ?_)
    · refine Ok.bind (d_Int b hl _ (by decide) i h h0 h1) (fun v i h h0 h1 hv => Ok.now h0 h1 ?_)
      simp only [List.mem_cons, List.not_mem_nil, or_false] at hv
      dsimp only at hv ⊢; omega
    · refine Ok.bind (d_Below b hl _ i h h0 h1) (fun v i h h0 h1 hv => ?_)
      refine Ok.bind (d_Below b hl _ i h h0 h1) (fun w i h h0 h1 hw => Ok.now h0 h1 ?_)
      have : 0 ≤ v * w := Int.mul_nonneg (by omega) (by omega)
      have : v * w ≤ 1000000 * 2000 := Int.mul_le_mul (by omega) (by omega) (by omega) (by omega)
      dsimp only
      rw [w64 (by omega) (by omega)]; omega
theorem i_In (a l h : Int) : impl_InRange.f a l h = some (decide (l ≤ a ∧ a ≤ h)) := by
  unfold impl_InRange.f; by_cases e : l ≤ a <;> simp [e]
def modv (a m : Int) : Int := if 1 ≤ m ∧ m ≤ 1000000000000 then a % m else 0
theorem mod_core {a m : Int} (h1 : 1 ≤ m) (h2 : m ≤ 1000000000000) : Int.tmod (wrap64 (Int.tmod a m + m)) m = a % m := by
  have l1 : -m < Int.tmod a m := by have := Int.lt_tmod_of_pos a (show 0 < m by omega); omega
  have l2 : Int.tmod a m < m := Int.tmod_lt_of_pos a (by omega)
  rw [w64 (by omega) (by omega)]
  rw [Int.tmod_eq_emod_of_nonneg (by omega), Int.add_emod_right]
  rw [Int.tmod_eq_emod]
  split
  · simp
  · rw [Int.sub_emod]
    simp [Int.natAbs_of_nonneg (show 0 ≤ m by omega)]
theorem i_Mod (a m : Int) : impl_Mod.f a m = some (modv a m) := by
  unfold impl_Mod.f modv; rw [i_In]; simp only [Option.bind_some, decide_eq_true_eq]
  split
  · rename_i h; rw [if_neg (by omega), mod_core h.1 h.2]
  · rfl
def hstep (s v : Int) : Int := (s * 1000003 + v % 2147483647 + 13) % 2147483647
def hashv (l : List Int) : Int := l.foldl hstep 11
theorem hstep_bd (s v : Int) : 0 ≤ hstep s v ∧ hstep s v < 2147483647 := by unfold hstep; omega
theorem hstep_core {s v : Int} (h0 : 0 ≤ s) (h1 : s < 2147483647) : Int.tmod (wrap64 ((wrap64 ((wrap64 (s * 1000003)) + modv v 2147483647)) + 13)) 2147483647 = hstep s v := by
  unfold modv hstep
  rw [if_pos (by omega), w64 (n := s * 1000003) (by omega) (by omega), w64 (n := s * 1000003 + v % 2147483647) (by omega) (by omega), w64 (by omega) (by omega), Int.tmod_eq_emod_of_nonneg (by omega)]
theorem take_fold {α : Type} (f : α → Int → α) (a : α) (l : List Int) (i : Nat) (h : i < l.length) : (l.take (i + 1)).foldl f a = f ((l.take i).foldl f a) (rd l i) := by
  rw [List.take_succ_eq_append_getElem h, List.foldl_append, rd_nat l i h]; rfl
theorem hash_bd (l : List Int) : 0 ≤ hashv l ∧ hashv l < 2147483647 := by
  unfold hashv
  suffices h : ∀ (l : List Int) (s : Int), 0 ≤ s ∧ s < 2147483647 → 0 ≤ l.foldl hstep s ∧ l.foldl hstep s < 2147483647 from h l 11 (by omega)
  intro l
  induction l with
  | nil => intro s h; exact h
  | cons v l ih => intro s _; exact ih _ (hstep_bd s v)
theorem hash_loop {L : Nat → Int → Int → Option Int} (l : List Int) (hl : l.length ≤ 9000000000000000) (h : ∀ k s i, L (k + 1) s i = if i < (l.length : Int) then (if 0 ≤ i then L k (Int.tmod (wrap64 ((wrap64 ((wrap64 (s * 1000003)) + modv (rd l i) 2147483647)) + 13)) 2147483647) (wrap64 (i + 1)) else none) else some s) (d : Nat) :
    ∀ (i : Nat), i + d = l.length → ∀ k, d < k → L k (hashv (l.take i)) i = some (hashv l) := by
  induction d with
  | zero =>
    intro i hi k hk
    obtain ⟨k, rfl⟩ : ∃ m, k = m + 1 := ⟨k - 1, by omega⟩
    rw [h, if_neg (by omega), List.take_of_length_le (by omega)]
  | succ d ih =>
    intro i hi k hk
    obtain ⟨k, rfl⟩ : ∃ m, k = m + 1 := ⟨k - 1, by omega⟩
    have b := hash_bd (l.take i)
    rw [h, if_pos (by omega), if_pos (by omega), hstep_core b.1 b.2, w64 (by omega) (by omega)]
    have e := ih (i + 1) (by omega) k (by omega)
    unfold hashv at e ⊢
    rw [take_fold _ _ _ _ (by omega)] at e
    exact e
theorem i_Hash (l : List Int) (hl : l.length ≤ 9000000000000000) : Ev (fun k => impl_Hash.f k l) (hashv l) := by
  refine rounds_of (d := l.length) (fun k hk => ?_)
  unfold impl_Hash.f
  refine hash_loop (L := fun k s i => impl_Hash.l0 k s l (l.length : Int) i) l hl (fun k s i => ?_) l.length 0 (by omega) k hk
  simp only [impl_Hash.l0, i_Mod, Option.bind_some]
  by_cases h0 : i < (l.length : Int) <;> simp [h0]
theorem rdL_nat (ll : List (List Int)) (i : Nat) (h : i < ll.length) : rd_L2 ll (i : Int) = ll[i] := by
  unfold rd_L2; rw [Int.toNat_natCast, List.getD_eq_getElem?_getD, List.getElem?_eq_getElem h]; rfl
theorem flat_take (ll : List (List Int)) (i : Nat) (h : i < ll.length) : (ll.take (i + 1)).flatten = (ll.take i).flatten ++ ll[i] := by
  rw [List.take_succ_eq_append_getElem h, List.flatten_append]; simp
theorem flat_le (ll : List (List Int)) (i : Nat) : (ll.take i).flatten.length ≤ ll.flatten.length := by
  have h : ll.flatten = (ll.take i).flatten ++ (ll.drop i).flatten := by rw [← List.flatten_append, List.take_append_drop]
  rw [h, List.length_append]; omega
theorem cat_loop (ll : List (List Int)) (hl : ll.length ≤ 1000) (ht : ll.flatten.length ≤ 100000000) (d : Nat) : ∀ (i : Nat), i + d = ll.length → Ev (fun k => slices_Concat_int_int.l1 k (ll.take i).flatten ll (ll.length : Int) i) ll.flatten := by
  induction d with
  | zero =>
    intro i hi
    refine Ev.step (f := fun _ => some ll.flatten) (fun k => ?_) (Ev.now _)
    simp only [slices_Concat_int_int.l1]
    rw [if_neg (by omega), List.take_of_length_le (by omega)]
  | succ d ih =>
    intro i hi
    have h1 := flat_le ll (i + 1)
    have h2 := flat_take ll i (by omega)
    rw [h2, List.length_append] at h1
    refine Ev.step (f := fun k => slices_Concat_int_int.l1 k (ll.take (i + 1)).flatten ll (ll.length : Int) ((i + 1 : Nat) : Int)) (fun k => ?_) (ih (i + 1) (by omega))
    simp only [slices_Concat_int_int.l1]
    rw [if_pos (by omega), if_pos (by omega), if_pos (by omega), rdL_nat ll i (by omega), if_pos (by omega), w64 (by omega) (by omega), h2]; rfl
theorem size_loop (ll : List (List Int)) (hl : ll.length ≤ 1000) (ht : ll.flatten.length ≤ 100000000) (d : Nat) : ∀ (i : Nat), i + d = ll.length → Ev (fun k => slices_Concat_int_int.l0 k ll ((ll.take i).flatten.length : Int) ll (ll.length : Int) i) ll.flatten := by
  induction d with
  | zero =>
    intro i hi
    refine Ev.step (f := fun k => slices_Concat_int_int.l1 k [] ll (ll.length : Int) 0) (fun k => ?_) ?_
    · have h0 := flat_le ll i
      simp only [slices_Concat_int_int.l0, slices_Grow_int_int.f]
      rw [if_neg (by omega), if_pos ⟨trivial, by omega, by omega⟩]; rfl
    · exact cat_loop ll hl ht ll.length 0 (by omega)
  | succ d ih =>
    intro i hi
    have h1 := flat_le ll (i + 1)
    have h2 := flat_take ll i (by omega)
    have h3 : (ll.take (i + 1)).flatten.length = (ll.take i).flatten.length + (ll[i]'(by omega)).length := by rw [h2, List.length_append]
    refine Ev.step (f := fun k => slices_Concat_int_int.l0 k ll ((ll.take (i + 1)).flatten.length : Int) ll (ll.length : Int) ((i + 1 : Nat) : Int)) (fun k => ?_) (ih (i + 1) (by omega))
    simp only [slices_Concat_int_int.l0]
    rw [if_pos (by omega), if_pos (by omega), if_pos (by omega), rdL_nat ll i (by omega), w64 (n := ((ll.take i).flatten.length : Int) + ((ll[i]'(by omega)).length : Int)) (by omega) (by omega), if_neg (by omega), w64 (by omega) (by omega), h3]; rfl
theorem concat3 (a : Int) (l : List Int) (hl : l.length ≤ 10000000) : Ev (fun k => slices_Concat_int_int.f k [[a], l, [a]]) ([a] ++ l ++ [a]) := by
  unfold slices_Concat_int_int.f
  have e := size_loop [[a], l, [a]] (by simp) (by simp; omega) 3 0 (by simp)
  simpa using e
def keyv (a : Int) (l : List Int) : Int := hashv ([a] ++ l ++ [a])
theorem i_keyed (a : Int) (l : List Int) (hl : l.length ≤ 10000000) : Ev (fun k => impl_KeyedHash.f k a l) (keyv a l) := by
  unfold impl_KeyedHash.f
  refine Ev.bind (f := fun k t => (impl_Hash.f k t).bind fun r => some r) (concat3 a l hl) ?_
  exact Ev.bind (f := fun _ r => some r) (i_Hash _ (by simp; omega)) (Ev.now _)
def b2i (l : List Int) : List Int := (l.length : Int) :: l
theorem b2i_loop {L : Nat → List Int → Int → Option (List Int)} (l : List Int) (hl : l.length ≤ 100000000) (hb : ∀ x ∈ l, (Lit.int .u8 x).wf = true) (h : ∀ k o i, L (k + 1) o i = if i < (l.length : Int) then (if 0 ≤ i then (if o.length < 17592186044416 then L k (o ++ [wrap64 (rd l i)]) (wrap64 (i + 1)) else none) else none) else some o) (d : Nat) :
    ∀ (i : Nat), i + d = l.length → ∀ k, d < k → L k ((l.length : Int) :: l.take i) i = some (b2i l) := by
  induction d with
  | zero =>
    intro i hi k hk
    obtain ⟨k, rfl⟩ : ∃ m, k = m + 1 := ⟨k - 1, by omega⟩
    rw [h, if_neg (by omega), List.take_of_length_le (by omega)]; rfl
  | succ d ih =>
    intro i hi k hk
    obtain ⟨k, rfl⟩ : ∃ m, k = m + 1 := ⟨k - 1, by omega⟩
    have hlt : i < l.length := by omega
    have b := bounds_u8 (hb l[i] (List.getElem_mem hlt))
    rw [h, if_pos (by omega), if_pos (by omega), if_pos (by simp; omega), rd_nat l i hlt, w64 (by omega) (by omega), w64 (by omega) (by omega)]
    have e := ih (i + 1) (by omega) k (by omega)
    rw [List.take_succ_eq_append_getElem hlt] at e
    exact e
theorem b2i_length (l : List Int) : (b2i l).length = l.length + 1 := by simp [b2i]
theorem i_b2i (l : List Int) (hl : l.length ≤ 100000000) (hb : ∀ x ∈ l, (Lit.int .u8 x).wf = true) : Ev (fun k => impl_BytesToInts.f k l) (b2i l) := by
  refine rounds_of (d := l.length) (fun k hk => ?_)
  unfold impl_BytesToInts.f
  refine b2i_loop (L := fun k o i => impl_BytesToInts.l0 k o l (l.length : Int) i) l hl hb (fun k o i => ?_) l.length 0 (by omega) k hk
  simp only [impl_BytesToInts.l0]
  by_cases h0 : i < (l.length : Int) <;> simp [h0]
theorem bytesOf_wf (s : ByteArray) : ∀ x ∈ bytesOf s, (Lit.int .u8 x).wf = true := by
  intro x hx
  unfold bytesOf at hx
  obtain ⟨b, _, rfl⟩ := List.mem_map.1 hx
  have := b.toNat_lt
  exact Go.Proofs.Yteehlniclobkbaa.Var.wf8 (by omega)
def drv (a : Int) (s : ByteArray) : Int := if keyv a (b2i (bytesOf s)) = 0 then 1 else keyv a (b2i (bytesOf s))
theorem drv_bd (a : Int) (s : ByteArray) : 1 ≤ drv a s ∧ drv a s ≤ 2147483646 := by
  have := hash_bd ([a] ++ b2i (bytesOf s) ++ [a])
  unfold drv keyv; split <;> omega
theorem i_drv (a : Int) (s : ByteArray) (hs : s.size ≤ 1048576) : Ev (fun k => impl_DeriveFromString.f k a s) (drv a s) := by
  have hl : (bytesOf s).length ≤ 1048576 := by rw [bytesOf_length]; exact hs
  have hb := b2i_length (bytesOf s)
  obtain ⟨K1, e1⟩ := evo (i_b2i (bytesOf s) (by omega) (bytesOf_wf s))
  obtain ⟨K2, e2⟩ := evo (i_keyed a (b2i (bytesOf s)) (by omega))
  refine ⟨K1 + K2, fun k hk => ?_⟩
  show impl_DeriveFromString.f k a s = _
  unfold impl_DeriveFromString.f
  rw [if_pos (by omega), e1 k (by omega)]
  simp only [Option.bind_some]
  rw [e2 k (by omega)]
  rfl
theorem s_In (a l h : Int) : spec_l1In.f a l h = some (decide (l ≤ a ∧ a ≤ h)) := by
  unfold spec_l1In.f; by_cases e : l ≤ a <;> simp [e]
theorem s_Mod (a m : Int) : spec_Mod.f a m = some (modv a m) := by
  unfold spec_Mod.f modv; rw [s_In]; simp only [Option.bind_some, decide_eq_true_eq]
  split
  · rename_i h; rw [if_neg (by omega), mod_core h.1 h.2]
  · rfl
theorem at_ok (l : List Int) (hl : l.length ≤ 1048576) (hw : ∀ x ∈ l, (Lit.int .u8 x).wf = true) (a : Int) (h0 : 0 ≤ a) (h1 : a ≤ 1000000) : ∃ v, laws_at.f l a = some v ∧ 0 ≤ v ∧ v ≤ 255 := by
  unfold laws_at.f
  by_cases g : a < (l.length : Int)
  · have hv := bounds_u8 (hw _ (rd_mem h0 g))
    refine ⟨rd l a, ?_, hv⟩
    rw [if_pos g, if_pos h0, w64 (by omega) (by omega)]
  · have hm := tmod_bd (x := a * 31 + (l.length : Int) * 7) (n := 256) (by omega) (by omega)
    refine ⟨Int.tmod (a * 31 + (l.length : Int) * 7) 256, ?_, by omega, by omega⟩
    rw [if_neg g, w64 (n := a * 31) (by omega) (by omega), w64 (n := (l.length : Int) * 7) (by omega) (by omega), w64 (by omega) (by omega)]
theorem mul_core {e z : Int} (hz : e * 1000003 = 2147483647 * z) (h1 : -2147483647 < e) (h2 : e < 2147483647) : e = 0 := by omega
theorem hstep_inj {s t v : Int} (h0 : 0 ≤ s) (h1 : s < 2147483647) (h2 : 0 ≤ t) (h3 : t < 2147483647) (h : hstep s v = hstep t v) : s = t := by
  unfold hstep at h
  have h4 := Int.emod_eq_emod_iff_emod_sub_eq_zero.1 h
  obtain ⟨z, hz⟩ := Int.dvd_of_emod_eq_zero h4
  generalize v % 2147483647 = c at hz
  clear h4 h
  have h5 : (s - t) * 1000003 = 2147483647 * z := by rw [← hz, Int.sub_mul]; clear hz; omega
  clear hz
  have h7 : -2147483647 < s - t := by clear h5; omega
  have h8 : s - t < 2147483647 := by clear h5; omega
  have h6 := mul_core h5 h7 h8
  clear h5
  omega
theorem fold_inj (l : List Int) : ∀ (s t : Int), 0 ≤ s → s < 2147483647 → 0 ≤ t → t < 2147483647 → l.foldl hstep s = l.foldl hstep t → s = t := by
  induction l with
  | nil => intro s t _ _ _ _ h; exact h
  | cons v l ih =>
    intro s t h0 h1 h2 h3 h
    have bs := hstep_bd s v
    have bt := hstep_bd t v
    exact hstep_inj h0 h1 h2 h3 (ih _ _ bs.1 bs.2 bt.1 bt.2 h)
theorem keyv_at (a : Int) (p q : List Int) (x : Int) : keyv a (p ++ x :: q) = (q ++ [a]).foldl hstep (hstep (([a] ++ p).foldl hstep 11) x) := by
  unfold keyv hashv; simp [List.foldl_append]
theorem keyv_turn (a : Int) (l : List Int) (i : Nat) (hi : i < l.length) (v : Int) (hv : v % 2147483647 ≠ l[i] % 2147483647) : keyv a (l.set i v) ≠ keyv a l := by
  intro h
  have e1 : l.set i v = l.take i ++ v :: l.drop (i + 1) := by rw [List.set_eq_take_append_cons_drop, if_pos hi]
  have e2 : l = l.take i ++ l[i] :: l.drop (i + 1) := by rw [← List.drop_eq_getElem_cons hi, List.take_append_drop]
  have g1 : keyv a (l.set i v) = (l.drop (i + 1) ++ [a]).foldl hstep (hstep (([a] ++ l.take i).foldl hstep 11) v) := by
    rw [e1]; exact keyv_at ..
  have g2 : keyv a l = (l.drop (i + 1) ++ [a]).foldl hstep (hstep (([a] ++ l.take i).foldl hstep 11) l[i]) := by
    have g := keyv_at a (l.take i) (l.drop (i + 1)) l[i]
    rw [← e2] at g
    exact g
  rw [g1, g2] at h
  have b1 := hstep_bd (([a] ++ l.take i).foldl hstep 11) v
  have b2 := hstep_bd (([a] ++ l.take i).foldl hstep 11) l[i]
  have e := fold_inj _ _ _ b1.1 b1.2 b2.1 b2.2 h
  unfold hstep at e
  omega
theorem d_WordsLoop (l : List Int) (hl : l.length ≤ 1048576) (d : Nat) : ∀ (o : List Int) (i h : Int), o.length + d ≤ 100 → 0 ≤ i → i ≤ (l.length : Int) → (∀ x ∈ o, -1 ≤ x ∧ x ≤ 2147483648) → OkE (fun k => spec_l3Words.l0 k o d l i h) l.length fun v => v.length ≤ 100 ∧ ∀ x ∈ v, -1 ≤ x ∧ x ≤ 2147483648 := by
  induction d with
  | zero =>
    intro o i h ho h0 h1 hb
    refine ⟨o, i, h, Ev.step (f := fun _ => some (o, i, h)) (fun k => ?_) (Ev.now _), h0, h1, by omega, hb⟩
    simp only [spec_l3Words.l0]
    rw [if_neg (by omega)]
  | succ d ih =>
    intro o i h ho h0 h1 hb
    obtain ⟨c, i1, h1', e1, a1, b1, p1⟩ := d_Word l hl i h h0 h1
    obtain ⟨v, i2, h2, e2, a2, b2, p2⟩ := ih (o ++ [c]) i1 h1' (by simp; omega) a1 b1 (fun x hx => by
      rcases List.mem_append.1 hx with hx | hx
      · exact hb x hx
      · simp at hx; omega)
    refine ⟨v, i2, h2, Ev.step (f := fun k => spec_l3Words.l0 k (o ++ [c]) d l i1 h1') (fun k => ?_) e2, a2, b2, p2⟩
    simp only [spec_l3Words.l0]
    rw [if_pos (by omega), e1, w64 (by omega) (by omega), show ((d + 1 : Nat) : Int) - 1 = (d : Int) by omega]
    simp only [Option.bind_some]
    rw [if_pos (by omega)]
theorem d_DrawKH (l : List Int) (hl : l.length ≤ 1048576) : ∃ a b, Ev (fun k => spec_DrawKeyedHash.f k l) (a, b) ∧ b.length ≤ 100 ∧ (∀ x ∈ b, -1 ≤ x ∧ x ≤ 2147483648) := by
  obtain ⟨h, e⟩ := d_New l hl
  obtain ⟨c, i1, h1, e1, a1, b1, p1⟩ := d_Word l hl 0 h (by omega) (by omega)
  obtain ⟨n, i2, h2, e2, a2, b2, p2⟩ := d_Below l hl 5 i1 h1 a1 b1
  obtain ⟨bs, i3, h3, e3, a3, b3, p3, q3⟩ := d_WordsLoop l hl n.toNat [] i2 h2 (by simp; omega) a2 b2 (by simp)
  obtain ⟨K1, e⟩ := evo e
  obtain ⟨K2, e3⟩ := evo e3
  refine ⟨c, bs, ⟨K1 + K2, fun k hk => ?_⟩, p3, q3⟩
  have e4 := e3 k (by omega)
  rw [Int.toNat_of_nonneg p2.1] at e4
  show spec_DrawKeyedHash.f k l = _
  unfold spec_DrawKeyedHash.f spec_l3Words.f
  simp only [e k (by omega), e1, e2, e4, Option.bind_some]
theorem d_Str (b : List Int) (hl : b.length ≤ 1048576) (l : List ByteArray) (hn : 0 < l.length) (i h : Int) (h0 : 0 ≤ i) (h1 : i ≤ (b.length : Int)) : Ok (spec_l1Str.f b i h l) b.length fun v => v ∈ l := by
  unfold spec_l1Str.f
  refine Ok.bind (d_Below b hl _ i h h0 h1) (fun v i h h0 h1 hv => ?_)
  dsimp only
  rw [if_pos (by omega), if_pos (by omega)]
  refine Ok.now h0 h1 ?_
  unfold rdOf
  rw [List.getD_eq_getElem?_getD, List.getElem?_eq_getElem (by omega)]
  exact List.getElem_mem _
theorem d_DrawDrv (l : List Int) (hl : l.length ≤ 1048576) : ∃ a b, Ev (fun k => spec_DrawDeriveFromString.f k l) (a, b) ∧ b.size ≤ 100 := by
  obtain ⟨h, e⟩ := d_New l hl
  obtain ⟨c, i1, h1, e1, a1, b1, p1⟩ := d_Word l hl 0 h (by omega) (by omega)
  obtain ⟨s, i2, h2, e2, a2, b2, p2⟩ := d_Str l hl [(⟨#[]⟩ : ByteArray), (⟨#[97]⟩ : ByteArray), (⟨#[98]⟩ : ByteArray), (⟨#[97, 98]⟩ : ByteArray), (⟨#[110, 101, 119, 115]⟩ : ByteArray), (⟨#[120]⟩ : ByteArray)] (by decide) i1 h1 a1 b1
  obtain ⟨K1, e⟩ := evo e
  refine ⟨c, s, ⟨K1, fun k hk => ?_⟩, ?_⟩
  · show spec_DrawDeriveFromString.f k l = _
    unfold spec_DrawDeriveFromString.f
    simp only [e k (by omega), e1, e2, Option.bind_some]
  · simp only [List.mem_cons, List.not_mem_nil, or_false] at p2
    rcases p2 with rfl | rfl | rfl | rfl | rfl | rfl <;> decide
theorem valid_true (a : Int) (s : ByteArray) : impl_IsValidKey.f (drv a s) = some true := by
  have := drv_bd a s
  unfold impl_IsValidKey.f
  rw [i_In]
  simp only [Option.bind_some]
  congr 1
  rw [decide_eq_true_eq]; exact this
theorem end_true (l : List Int) (hl : l.length ≤ 1048576) : ∃ a s, Ev (fun k => spec_DrawDeriveFromString.f k l) (a, s) ∧ Ev (fun k => impl_DeriveFromString.f k a s) (drv a s) := by
  obtain ⟨a, s, e, hs⟩ := d_DrawDrv l hl
  exact ⟨a, s, e, i_drv a s (by omega)⟩
theorem FnKeyedHash : laws_FnKeyedHash.Pure := by
  intro l _ _ hw
  unfold laws_FnKeyedHash.f
  rw [big_le]
  simp only [Option.bind_some]
  by_cases h1 : (l.length : Int) > 1048576
  · exact ⟨0, by simp [h1]⟩
  simp only [h1, decide_false, Bool.false_eq_true, if_false]
  have hl : l.length ≤ 1048576 := by omega
  obtain ⟨a, b, e, hb, hbw⟩ := d_DrawKH l hl
  have hk : 0 ≤ keyv a b ∧ keyv a b < 2147483647 := hash_bd _
  obtain ⟨c, s, e5, e6⟩ := end_true l hl
  obtain ⟨K1, e⟩ := evo e
  obtain ⟨K2, e2⟩ := evo (i_keyed a b (by omega))
  obtain ⟨K3, e3⟩ := evo (i_Hash ([a] ++ b ++ [a]) (by simp; omega))
  obtain ⟨K5, e5⟩ := evo e5
  obtain ⟨K6, e6⟩ := evo e6
  have hv := valid_true c s
  have s1 : ([a] : List Int).length + b.length < 17592186044416 := by simp; omega
  have s2 : ([a] ++ b).length < 17592186044416 := by simp; omega
  have s3 : ([] : List Int).length + b.length < 17592186044416 := by simp; omega
  by_cases hz : (b.length : Int) > 0
  · obtain ⟨t0, ht0, p0, p1⟩ := at_ok l hl hw 0 (by omega) (by omega)
    obtain ⟨t1, ht1, q0, q1⟩ := at_ok l hl hw 1 (by omega) (by omega)
    have hm := tmod_bd (x := t0) (n := (b.length : Int)) p0 (by omega)
    have hi : (Int.tmod t0 (b.length : Int)).toNat < b.length := by omega
    have hx := hbw _ (rd_mem hm.1 hm.2)
    have hr : rd b (Int.tmod t0 (b.length : Int)) = b[(Int.tmod t0 (b.length : Int)).toNat] := by
      have := rd_nat b (Int.tmod t0 (b.length : Int)).toNat hi
      rwa [Int.toNat_of_nonneg hm.1] at this
    have hne : keyv a (b.set (Int.tmod t0 (b.length : Int)).toNat (modv (rd b (Int.tmod t0 (b.length : Int)) + 1 + t1) 2147483647)) ≠ keyv a b := by
      refine keyv_turn a b _ hi _ ?_
      rw [← hr]
      unfold modv
      rw [if_pos (by omega)]
      omega
    obtain ⟨K4, e4⟩ := evo (i_keyed a (b.set (Int.tmod t0 (b.length : Int)).toNat (modv (rd b (Int.tmod t0 (b.length : Int)) + 1 + t1) 2147483647)) (by rw [List.length_set]; omega))
    refine ⟨K1 + K2 + K3 + K4 + K5 + K6 + 1, ?_⟩
    generalize hK : K1 + K2 + K3 + K4 + K5 + K6 = K
    simp only [e (K + 1) (by omega), e2 (K + 1) (by omega), Option.bind_some]
    rw [if_neg (by omega), if_neg (by omega)]
    simp only [s1, s2, if_true, e3 (K + 1) (by omega), Option.bind_some]
    rw [show (keyv a b != hashv ([a] ++ b ++ [a])) = false by simp [keyv]]
    simp only [laws_FnKeyedHash.j0, Bool.false_eq_true, if_false, hz, if_true, s3, List.nil_append, ht0, ht1, Option.bind_some]
    rw [if_neg (by omega), if_pos hm.1, if_pos hm.2, w64 (n := rd b (Int.tmod t0 (b.length : Int)) + 1) (by omega) (by omega), w64 (by omega) (by omega), s_Mod]
    simp only [Option.bind_some, e4 K (by omega)]
    rw [if_neg hne, e5 K (by omega)]
    simp only [Option.bind_some, e6 K (by omega), hv]
  · refine ⟨K1 + K2 + K3 + K5 + K6 + 1, ?_⟩
    generalize hK : K1 + K2 + K3 + K5 + K6 = K
    simp only [e (K + 1) (by omega), e2 (K + 1) (by omega), Option.bind_some]
    rw [if_neg (by omega), if_neg (by omega)]
    simp only [s1, s2, if_true, e3 (K + 1) (by omega), Option.bind_some]
    rw [show (keyv a b != hashv ([a] ++ b ++ [a])) = false by simp [keyv]]
    simp only [laws_FnKeyedHash.j0, Bool.false_eq_true, if_false, hz, e5 K (by omega), e6 K (by omega), hv, Option.bind_some]

end Go.Proofs.Yteehlniclobkbaa.Pure
