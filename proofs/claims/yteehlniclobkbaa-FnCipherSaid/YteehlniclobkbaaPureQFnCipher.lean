/- The law FnCipher returns true for each input of bytes. Conditions: each number is a byte; the reach of memory. -/
import Derived.Test.YteehlniclobkbaaQFnCipherx2
import Derived.Test.YteehlniclobkbaaLib
import Derived.Test.YteehlniclobkbaaDraw
namespace Go.Proofs.Yteehlniclobkbaa.Pure
open Go.RowKit Go.Proofs.Yteehlniclobkbaa.QFnCipher Go.Proofs.YteehlniclobkbaaW.PrintWords Go.Proofs.YteehlniclobkbaaW.PrintLast Go.Proofs.YteehlniclobkbaaW.PrintMore Go.Proofs.Yteehlniclobkbaa.Lib Go.Proofs.Yteehlniclobkbaa.Var Go.Proofs.Yteehlniclobkbaa.Draw

theorem big_le (l : List Int) : laws_big.f l = some (decide ((l.length : Int) > 1048576)) := rfl
theorem d_New (l : List Int) (hl : l.length ≤ 1048576) : ∃ h, Ev (fun k => spec_l1New.f k l) (l, 0, h) := by
  unfold spec_l1New.f
  exact new_loop (L := fun k h i => spec_l1New.l0 k l h i) (M := fun h i => Go.bits .and .i64 (wrap64 ((wrap64 ((wrap64 (h * 137)) + (wrap64 (rd l i)))) + 11)) 1073741823) l (by omega) (fun k h i => by simp only [spec_l1New.l0]) l.length 0 _ (by omega)
theorem d_Byte (b : List Int) (hl : b.length ≤ 1048576) (i h : Int) (h0 : 0 ≤ i) (h1 : i ≤ (b.length : Int)) : Ok (spec_l1Byte.f b i h) b.length fun v => 0 ≤ v ∧ v ≤ 255 := by
  unfold spec_l1Byte.f
  refine Ok.ite (fun g => ?_) (fun g => ?_)
  · rw [if_pos h0, w64 (n := i + 1) (by omega) (by omega)]
    exact Ok.now (by omega) (by omega) (and255 _)
  · exact Ok.now h0 h1 (and255 _)
theorem d_Below (b : List Int) (hl : b.length ≤ 1048576) (n i h : Int) (h0 : 0 ≤ i) (h1 : i ≤ (b.length : Int)) : Ok (spec_l1Below.f b i h n) b.length fun v => 0 ≤ v ∧ (0 < n → v < n) ∧ (n ≤ 0 → v = 0) := by
  unfold spec_l1Below.f
  refine Ok.ite (fun g => Ok.now h0 h1 (by omega)) (fun g => Ok.ite (fun g2 => ?_) (fun g2 => ?_))
  · refine Ok.bind (d_Byte b hl i h h0 h1) (fun v i h h0 h1 hv => ?_)
    dsimp only
    rw [if_neg (by omega)]
    have := tmod_bd (x := v) (n := n) (by omega) (by omega)
    exact Ok.now h0 h1 (by omega)
  · refine Ok.bind (d_Byte b hl i h h0 h1) (fun x i h h0 h1 hx => ?_)
    refine Ok.bind (d_Byte b hl i h h0 h1) (fun y i h h0 h1 hy => ?_)
    refine Ok.bind (d_Byte b hl i h h0 h1) (fun z i h h0 h1 hz => ?_)
    dsimp only
    rw [if_neg (by omega), w64 (n := x * 65536) (by omega) (by omega), w64 (n := y * 256) (by omega) (by omega), w64 (n := x * 65536 + y * 256) (by omega) (by omega), w64 (n := x * 65536 + y * 256 + z) (by omega) (by omega)]
    have := tmod_bd (x := x * 65536 + y * 256 + z) (n := n) (by omega) (by omega)
    exact Ok.now h0 h1 (by omega)
theorem d_Once (b : List Int) (hl : b.length ≤ 1048576) (n i h : Int) (h0 : 0 ≤ i) (h1 : i ≤ (b.length : Int)) : Ok (spec_l1Once.f b i h n) b.length fun _ => True := by
  unfold spec_l1Once.f
  exact Ok.bind (d_Below b hl n i h h0 h1) (fun v i h h0 h1 _ => Ok.now h0 h1 trivial)
theorem d_Int (b : List Int) (hl : b.length ≤ 1048576) (l : List Int) (hn : 0 < l.length) (i h : Int) (h0 : 0 ≤ i) (h1 : i ≤ (b.length : Int)) : Ok (spec_l1Int.f b i h l) b.length fun v => v ∈ l := by
  unfold spec_l1Int.f
  refine Ok.bind (d_Below b hl _ i h h0 h1) (fun v i h h0 h1 hv => ?_)
  dsimp only
  rw [if_pos (by omega), if_pos (by omega)]
  exact Ok.now h0 h1 (rd_mem (by omega) (by omega))
theorem d_Bytes (b : List Int) (hl : b.length ≤ 1048576) (n : Int) (hn0 : 0 ≤ n) (hn : n ≤ 1000) (i h : Int) (h0 : 0 ≤ i) (h1 : i ≤ (b.length : Int)) : OkE (fun k => spec_l1Bytes.f k b i h n) b.length fun v => v.length = n.toNat ∧ ∀ x ∈ v, 0 ≤ x ∧ x ≤ 255 := by
  unfold spec_l1Bytes.f
  have e := bytes_loop (L := fun k o j i h => spec_l1Bytes.l0 k (n.toNat : Int) o j b i h) (B := fun i h => spec_l1Byte.f b i h) b n.toNat (by omega) (fun i h => d_Byte b hl i h) (fun k o j i h => by simp only [spec_l1Bytes.l0]) n.toNat 0 [] i h (by omega) (by simp) h0 h1 (by simp)
  rw [Int.toNat_of_nonneg hn0] at e
  exact e
theorem i_In (a l h : Int) : impl_InRange.f a l h = some (decide (l ≤ a ∧ a ≤ h)) := by
  unfold impl_InRange.f; by_cases e : l ≤ a <;> simp [e]
def modv (a m : Int) : Int := if 1 ≤ m ∧ m ≤ 1000000000000 then a % m else 0
theorem mod_core {a m : Int} (h1 : 1 ≤ m) (h2 : m ≤ 1000000000000) : Int.tmod (wrap64 (Int.tmod a m + m)) m = a % m := by
  have l1 : -m < Int.tmod a m := by have := Int.lt_tmod_of_pos a (show 0 < m by omega); omega
  have l2 : Int.tmod a m < m := Int.tmod_lt_of_pos a (by omega)
  rw [w64 (by omega) (by omega)]
  rw [Int.tmod_eq_emod_of_nonneg (by omega), Int.add_emod_right]
  rw [Int.tmod_eq_emod]
  split
  · simp
  · rw [Int.sub_emod]
    simp [Int.natAbs_of_nonneg (show 0 ≤ m by omega)]
theorem i_Mod (a m : Int) : impl_Mod.f a m = some (modv a m) := by
  unfold impl_Mod.f modv; rw [i_In]; simp only [Option.bind_some, decide_eq_true_eq]
  split
  · rename_i h; rw [if_neg (by omega), mod_core h.1 h.2]
  · rfl
def hstep (s v : Int) : Int := (s * 1000003 + v % 2147483647 + 13) % 2147483647
def hashv (l : List Int) : Int := l.foldl hstep 11
theorem hstep_bd (s v : Int) : 0 ≤ hstep s v ∧ hstep s v < 2147483647 := by unfold hstep; omega
theorem hstep_core {s v : Int} (h0 : 0 ≤ s) (h1 : s < 2147483647) : Int.tmod (wrap64 ((wrap64 ((wrap64 (s * 1000003)) + modv v 2147483647)) + 13)) 2147483647 = hstep s v := by
  unfold modv hstep
  rw [if_pos (by omega), w64 (n := s * 1000003) (by omega) (by omega), w64 (n := s * 1000003 + v % 2147483647) (by omega) (by omega), w64 (by omega) (by omega), Int.tmod_eq_emod_of_nonneg (by omega)]
theorem take_fold {α : Type} (f : α → Int → α) (a : α) (l : List Int) (i : Nat) (h : i < l.length) : (l.take (i + 1)).foldl f a = f ((l.take i).foldl f a) (rd l i) := by
  rw [List.take_succ_eq_append_getElem h, List.foldl_append, rd_nat l i h]; rfl
theorem hash_bd (l : List Int) : 0 ≤ hashv l ∧ hashv l < 2147483647 := by
  unfold hashv
  suffices h : ∀ (l : List Int) (s : Int), 0 ≤ s ∧ s < 2147483647 → 0 ≤ l.foldl hstep s ∧ l.foldl hstep s < 2147483647 from h l 11 (by omega)
  intro l
  induction l with
  | nil => intro s h; exact h
  | cons v l ih => intro s _; exact ih _ (hstep_bd s v)
theorem hash_loop {L : Nat → Int → Int → Option Int} (l : List Int) (hl : l.length ≤ 9000000000000000) (h : ∀ k s i, L (k + 1) s i = if i < (l.length : Int) then (if 0 ≤ i then L k (Int.tmod (wrap64 ((wrap64 ((wrap64 (s * 1000003)) + modv (rd l i) 2147483647)) + 13)) 2147483647) (wrap64 (i + 1)) else none) else some s) (d : Nat) :
    ∀ (i : Nat), i + d = l.length → ∀ k, d < k → L k (hashv (l.take i)) i = some (hashv l) := by
  induction d with
  | zero =>
    intro i hi k hk
    obtain ⟨k, rfl⟩ : ∃ m, k = m + 1 := ⟨k - 1, by omega⟩
    rw [h, if_neg (by omega), List.take_of_length_le (by omega)]
  | succ d ih =>
    intro i hi k hk
    obtain ⟨k, rfl⟩ : ∃ m, k = m + 1 := ⟨k - 1, by omega⟩
    have b := hash_bd (l.take i)
    rw [h, if_pos (by omega), if_pos (by omega), hstep_core b.1 b.2, w64 (by omega) (by omega)]
    have e := ih (i + 1) (by omega) k (by omega)
    unfold hashv at e ⊢
    rw [take_fold _ _ _ _ (by omega)] at e
    exact e
theorem i_Hash (l : List Int) (hl : l.length ≤ 9000000000000000) : Ev (fun k => impl_Hash.f k l) (hashv l) := by
  refine rounds_of (d := l.length) (fun k hk => ?_)
  unfold impl_Hash.f
  refine hash_loop (L := fun k s i => impl_Hash.l0 k s l (l.length : Int) i) l hl (fun k s i => ?_) l.length 0 (by omega) k hk
  simp only [impl_Hash.l0, i_Mod, Option.bind_some]
  by_cases h0 : i < (l.length : Int) <;> simp [h0]
theorem rdL_nat (ll : List (List Int)) (i : Nat) (h : i < ll.length) : rd_L2 ll (i : Int) = ll[i] := by
  unfold rd_L2; rw [Int.toNat_natCast, List.getD_eq_getElem?_getD, List.getElem?_eq_getElem h]; rfl
theorem flat_take (ll : List (List Int)) (i : Nat) (h : i < ll.length) : (ll.take (i + 1)).flatten = (ll.take i).flatten ++ ll[i] := by
  rw [List.take_succ_eq_append_getElem h, List.flatten_append]; simp
theorem flat_le (ll : List (List Int)) (i : Nat) : (ll.take i).flatten.length ≤ ll.flatten.length := by
  have h : ll.flatten = (ll.take i).flatten ++ (ll.drop i).flatten := by rw [← List.flatten_append, List.take_append_drop]
  rw [h, List.length_append]; omega
theorem cat_loop (ll : List (List Int)) (hl : ll.length ≤ 1000) (ht : ll.flatten.length ≤ 100000000) (d : Nat) : ∀ (i : Nat), i + d = ll.length → Ev (fun k => slices_Concat_int_int.l1 k (ll.take i).flatten ll (ll.length : Int) i) ll.flatten := by
  induction d with
  | zero =>
    intro i hi
    refine Ev.step (f := fun _ => some ll.flatten) (fun k => ?_) (Ev.now _)
    simp only [slices_Concat_int_int.l1]
    rw [if_neg (by omega), List.take_of_length_le (by omega)]
  | succ d ih =>
    intro i hi
    have h1 := flat_le ll (i + 1)
    have h2 := flat_take ll i (by omega)
    rw [h2, List.length_append] at h1
    refine Ev.step (f := fun k => slices_Concat_int_int.l1 k (ll.take (i + 1)).flatten ll (ll.length : Int) ((i + 1 : Nat) : Int)) (fun k => ?_) (ih (i + 1) (by omega))
    simp only [slices_Concat_int_int.l1]
    rw [if_pos (by omega), if_pos (by omega), if_pos (by omega), rdL_nat ll i (by omega), if_pos (by omega), w64 (by omega) (by omega), h2]; rfl
theorem size_loop (ll : List (List Int)) (hl : ll.length ≤ 1000) (ht : ll.flatten.length ≤ 100000000) (d : Nat) : ∀ (i : Nat), i + d = ll.length → Ev (fun k => slices_Concat_int_int.l0 k ll ((ll.take i).flatten.length : Int) ll (ll.length : Int) i) ll.flatten := by
  induction d with
  | zero =>
    intro i hi
    refine Ev.step (f := fun k => slices_Concat_int_int.l1 k [] ll (ll.length : Int) 0) (fun k => ?_) ?_
    · have h0 := flat_le ll i
      simp only [slices_Concat_int_int.l0, slices_Grow_int_int.f]
      rw [if_neg (by omega), if_pos ⟨trivial, by omega, by omega⟩]; rfl
    · exact cat_loop ll hl ht ll.length 0 (by omega)
  | succ d ih =>
    intro i hi
    have h1 := flat_le ll (i + 1)
    have h2 := flat_take ll i (by omega)
    have h3 : (ll.take (i + 1)).flatten.length = (ll.take i).flatten.length + (ll[i]'(by omega)).length := by rw [h2, List.length_append]
    refine Ev.step (f := fun k => slices_Concat_int_int.l0 k ll ((ll.take (i + 1)).flatten.length : Int) ll (ll.length : Int) ((i + 1 : Nat) : Int)) (fun k => ?_) (ih (i + 1) (by omega))
    simp only [slices_Concat_int_int.l0]
    rw [if_pos (by omega), if_pos (by omega), if_pos (by omega), rdL_nat ll i (by omega), w64 (n := ((ll.take i).flatten.length : Int) + ((ll[i]'(by omega)).length : Int)) (by omega) (by omega), if_neg (by omega), w64 (by omega) (by omega), h3]; rfl
theorem concat3 (a : Int) (l : List Int) (hl : l.length ≤ 10000000) : Ev (fun k => slices_Concat_int_int.f k [[a], l, [a]]) ([a] ++ l ++ [a]) := by
  unfold slices_Concat_int_int.f
  have e := size_loop [[a], l, [a]] (by simp) (by simp; omega) 3 0 (by simp)
  simpa using e
def keyv (a : Int) (l : List Int) : Int := hashv ([a] ++ l ++ [a])
theorem i_keyed (a : Int) (l : List Int) (hl : l.length ≤ 10000000) : Ev (fun k => impl_KeyedHash.f k a l) (keyv a l) := by
  unfold impl_KeyedHash.f
  refine Ev.bind (f := fun k t => (impl_Hash.f k t).bind fun r => some r) (concat3 a l hl) ?_
  exact Ev.bind (f := fun _ r => some r) (i_Hash _ (by simp; omega)) (Ev.now _)
/-- Bytes, to each of which so often the keyed hash of its place is added. -/
def ciph (s a : Int) (l : List Int) : List Int := (List.range l.length).map fun (i : Nat) => (rd l (i : Int) + s * keyv a [(i : Int)]) % 256
theorem ciph_length (s a : Int) (l : List Int) : (ciph s a l).length = l.length := by simp [ciph]
theorem ciph_get (s a : Int) (l : List Int) (i : Nat) (h : i < l.length) : rd (ciph s a l) (i : Int) = (rd l (i : Int) + s * keyv a [(i : Int)]) % 256 := by
  rw [rd_nat _ i (by rw [ciph_length]; exact h)]; simp [ciph]
theorem keyv_bd (a : Int) (l : List Int) : 0 ≤ keyv a l ∧ keyv a l < 2147483647 := hash_bd _
theorem ciph_loop {L : Nat → List Int → Int → Option (List Int)} {Kh : Nat → List Int → Option Int} {g : Int → Int → Int} (s a : Int) (l : List Int) (hl : l.length ≤ 10000000) (hb : ∀ x ∈ l, (Lit.int .u8 x).wf = true) (hK : ∀ i : Int, Ev (fun k => Kh k [i]) (keyv a [i]))
    (hg : ∀ c t : Int, 0 ≤ c → c ≤ 255 → 0 ≤ t → t < 2147483647 → g c t = (c + s * t) % 256)
    (h : ∀ k o i, L (k + 1) o i = if i < (l.length : Int) then (if 0 ≤ i then ((Kh k [i]).bind fun t => if o.length < 140737488355328 then L k (o ++ [g (rd l i) t]) (wrap64 (i + 1)) else none) else none) else some o) (d : Nat) :
    ∀ (i : Nat), i + d = l.length → Ev (fun k => L k ((List.range i).map fun (j : Nat) => (rd l (j : Int) + s * keyv a [(j : Int)]) % 256) i) (ciph s a l) := by
  induction d with
  | zero =>
    intro i hi
    refine Ev.step (f := fun _ => some (ciph s a l)) (fun k => ?_) (Ev.now _)
    obtain rfl : i = l.length := by omega
    rw [h, if_neg (by omega)]; rfl
  | succ d ih =>
    intro i hi
    have hc := bounds_u8 (hb _ (rd_mem' l i (by omega)))
    have hk := keyv_bd a [(i : Int)]
    refine Ev.step (f := fun k => (Kh k [(i : Int)]).bind fun t => L k (((List.range i).map fun (j : Nat) => (rd l (j : Int) + s * keyv a [(j : Int)]) % 256) ++ [g (rd l i) t]) ((i + 1 : Nat) : Int)) (fun k => ?_) ?_
    · rw [h, if_pos (by omega), if_pos (by omega), w64 (by omega) (by omega)]
      have hlen : ((List.range i).map fun (j : Nat) => (rd l (j : Int) + s * keyv a [(j : Int)]) % 256).length < 140737488355328 := by simp; omega
      simp only [hlen, if_true]; rfl
    · refine Ev.bind (f := fun k t => L k (((List.range i).map fun (j : Nat) => (rd l (j : Int) + s * keyv a [(j : Int)]) % 256) ++ [g (rd l i) t]) ((i + 1 : Nat) : Int)) (hK _) ?_
      have e := ih (i + 1) (by omega)
      rw [List.range_succ, List.map_append] at e
      simp only [List.map_cons, List.map_nil] at e
      rw [hg _ _ hc.1 hc.2 hk.1 hk.2]
      exact e
theorem i_ciph (a : Int) (l : List Int) (s : Int) (hs : s = 1 ∨ s = -1) (hl : l.length ≤ 10000000) (hb : ∀ x ∈ l, (Lit.int .u8 x).wf = true) : Ev (fun k => impl_ciphered.f k a l s) (ciph s a l) := by
  unfold impl_ciphered.f
  refine ciph_loop (L := fun k o i => impl_ciphered.l0 k a s o l (l.length : Int) i) (Kh := fun k l => impl_KeyedHash.f k a l) (g := fun c t => (wrap64 (wrap64 c + wrap64 (s * t))) % 256) s a l hl hb (fun i => i_keyed a [i] (by simp)) (fun c t h0 h1 h2 h3 => ?_) (fun k o i => ?_) l.length 0 (by omega)
  · have : s * t = t ∨ s * t = -t := by rcases hs with rfl | rfl <;> omega
    rw [w64 (n := c) (by omega) (by omega), w64 (n := s * t) (by omega) (by omega), w64 (by omega) (by omega)]
  · simp only [impl_ciphered.l0]
    by_cases h0 : i < (l.length : Int) <;> simp [h0]
theorem i_enc1 (a : Int) (l : List Int) (hl : l.length ≤ 10000000) (hb : ∀ x ∈ l, (Lit.int .u8 x).wf = true) : Ev (fun k => impl_Encrypt.f k a l) (ciph 1 a l) := by
  unfold impl_Encrypt.f
  exact Ev.bind (f := fun _ r => some r) (i_ciph a l 1 (by omega) hl hb) (Ev.now _)
theorem i_dec1 (a : Int) (l : List Int) (hl : l.length ≤ 10000000) (hb : ∀ x ∈ l, (Lit.int .u8 x).wf = true) : Ev (fun k => impl_Decrypt.f k a l) (ciph (-1) a l) := by
  unfold impl_Decrypt.f
  exact Ev.bind (f := fun _ r => some r) (i_ciph a l (-1) (by omega) hl hb) (Ev.now _)
theorem sm_B (xs ys : List Int) (hx : xs.length ≤ 9000000000000000) : Ev (fun k => laws_sameBytes.f k xs ys) (decide (xs = ys)) := by
  refine rounds_of (d := xs.length) (fun k hk => ?_)
  unfold laws_sameBytes.f
  by_cases e : xs.length = ys.length
  · rw [if_pos (by omega)]
    exact eq_loop (L := fun k i => laws_sameBytes.l0 k xs ys i) xs ys (fun k i => by simp only [laws_sameBytes.l0]) e (by omega) xs.length 0 (by omega) (by simp) k hk
  · rw [if_neg (by omega)]
    congr 1; symm; rw [decide_eq_false_iff_not]; intro e'; exact e (by rw [e'])
theorem d_Word (b : List Int) (hl : b.length ≤ 1048576) (i h : Int) (h0 : 0 ≤ i) (h1 : i ≤ (b.length : Int)) : Ok (spec_l3Word.f b i h) b.length fun v => -1 ≤ v ∧ v ≤ 2147483648 := by
  unfold spec_l3Word.f
  refine Ok.bind (d_Once b hl _ i h h0 h1) (fun v i h h0 h1 _ => ?_)
  refine Ok.ite (fun _ => ?_) (fun _ => ?_)
  · refine Ok.bind (d_Int b hl _ (by decide) i h h0 h1) (fun v i h h0 h1 hv => Ok.now h0 h1 ?_)
    simp only [List.mem_cons, List.not_mem_nil, or_false] at hv
    dsimp only at hv ⊢; omega
  · refine Ok.bind (d_Once b hl _ i h h0 h1) (fun v i h h0 h1 _ => ?_)
    refine Ok.ite (fun _ => ?_) (fun _ => ?_)
    · refine Ok.bind (d_Int b hl _ (by decide) i h h0 h1) (fun v i h h0 h1 hv => Ok.now h0 h1 ?_)
      simp only [List.mem_cons, List.not_mem_nil, or_false] at hv
      dsimp only at hv ⊢; omega
    · refine Ok.bind (d_Below b hl _ i h h0 h1) (fun v i h h0 h1 hv => ?_)
      refine Ok.bind (d_Below b hl _ i h h0 h1) (fun w i h h0 h1 hw => Ok.now h0 h1 ?_)
      have : 0 ≤ v * w := Int.mul_nonneg (by omega) (by omega)
      have : v * w ≤ 1000000 * 2000 := Int.mul_le_mul (by omega) (by omega) (by omega) (by omega)
      dsimp only
      rw [w64 (by omega) (by omega)]; omega
theorem d_DrawEncrypt (l : List Int) (hl : l.length ≤ 1048576) : ∃ a b, Ev (fun k => spec_DrawEncrypt.f k l) (a, b) ∧ b.length ≤ 7 ∧ (∀ x ∈ b, (Lit.int .u8 x).wf = true) := by
  obtain ⟨h, e⟩ := d_New l hl
  obtain ⟨c, i1, h1, e1, a1, b1, p1⟩ := d_Word l hl 0 h (by omega) (by omega)
  obtain ⟨n, i2, h2, e2, a2, b2, p2⟩ := d_Below l hl 8 i1 h1 a1 b1
  obtain ⟨bs, i3, h3, e3, a3, b3, p3, q3⟩ := d_Bytes l hl n (by omega) (by omega) i2 h2 a2 b2
  obtain ⟨K1, e⟩ := evo e
  obtain ⟨K2, e3⟩ := evo e3
  refine ⟨c, bs, ⟨K1 + K2, fun k hk => ?_⟩, by omega, fun x hx => wf8 (q3 x hx)⟩
  show spec_DrawEncrypt.f k l = _
  unfold spec_DrawEncrypt.f
  simp only [e k (by omega), e1, e2, e3 k (by omega), Option.bind_some]
theorem ciph_wf (s a : Int) (l : List Int) : ∀ x ∈ ciph s a l, (Lit.int .u8 x).wf = true := by
  intro x hx
  unfold ciph at hx
  obtain ⟨i, _, rfl⟩ := List.mem_map.1 hx
  exact wf8 (by omega)
theorem ciph_back (s a : Int) (l : List Int) (hb : ∀ x ∈ l, (Lit.int .u8 x).wf = true) : ciph (-s) a (ciph s a l) = l := by
  apply List.ext_getElem
  · rw [ciph_length, ciph_length]
  · intro i h1 h2
    rw [← rd_nat _ i h1, ← rd_nat _ i h2, ciph_get _ _ _ i (by rw [ciph_length]; exact h2), ciph_get _ _ _ i h2]
    have hc := bounds_u8 (hb _ (rd_mem' l i h2))
    rw [Int.neg_mul]
    generalize s * keyv a [(i : Int)] = t
    omega
theorem FnCipher : laws_FnCipher.Pure := by
  intro l _ _ _
  unfold laws_FnCipher.f
  rw [big_le]
  simp only [Option.bind_some]
  by_cases h1 : (l.length : Int) > 1048576
  · exact ⟨0, by simp [h1]⟩
  simp only [h1, decide_false, Bool.false_eq_true, if_false]
  obtain ⟨a, b, e, hb, hw⟩ := d_DrawEncrypt l (by omega)
  have l1 := ciph_length 1 a b
  have l2 := ciph_length (-1) a b
  obtain ⟨K1, e⟩ := evo e
  obtain ⟨K2, e2⟩ := evo (i_enc1 a b (by omega) hw)
  obtain ⟨K3, e3⟩ := evo (i_dec1 a (ciph 1 a b) (by omega) (ciph_wf 1 a b))
  obtain ⟨K4, e4⟩ := evo (sm_B b b (by omega))
  obtain ⟨K5, e5⟩ := evo (i_dec1 a b (by omega) hw)
  obtain ⟨K6, e6⟩ := evo (i_enc1 a (ciph (-1) a b) (by omega) (ciph_wf (-1) a b))
  rw [show (-1 : Int) = -(1) from rfl, ciph_back 1 a b hw] at e3
  have hb2 := ciph_back (-1) a b hw
  rw [show -(-1 : Int) = 1 from rfl] at hb2
  rw [hb2] at e6
  refine ⟨K1 + K2 + K3 + K4 + K5 + K6, ?_⟩
  generalize hK : K1 + K2 + K3 + K4 + K5 + K6 = K
  simp only [e K (by omega), e2 K (by omega), e3 K (by omega), e4 K (by omega), e5 K (by omega), e6 K (by omega), Option.bind_some, decide_true, if_true, l1]
  simp

end Go.Proofs.Yteehlniclobkbaa.Pure
