/- The law FnByteStrings returns true for each input of bytes. Conditions: each number is a byte; the reach of memory. -/
import Derived.Test.YteehlniclobkbaaQFnByteStringsx3
import Derived.Test.YteehlniclobkbaaLib
import Derived.Test.YteehlniclobkbaaDraw
import Derived.Test.YteehlniclobkbaaVar
import Derived.Test.YteehlniclobkbaaVar
namespace Go.Proofs.Yteehlniclobkbaa.Pure
open Go.RowKit Go.Proofs.Yteehlniclobkbaa.QFnByteStrings Go.Proofs.YteehlniclobkbaaW.PrintWords Go.Proofs.YteehlniclobkbaaW.PrintLast Go.Proofs.YteehlniclobkbaaW.PrintMore Go.Proofs.Yteehlniclobkbaa.Lib Go.Proofs.Yteehlniclobkbaa.Var Go.Proofs.Yteehlniclobkbaa.Var Go.Proofs.Yteehlniclobkbaa.Var Go.Proofs.Yteehlniclobkbaa.Draw

theorem big_le (l : List Int) : laws_big.f l = some (decide ((l.length : Int) > 1048576)) := rfl
theorem d_New (l : List Int) (hl : l.length ≤ 1048576) : ∃ h, Ev (fun k => spec_l1New.f k l) (l, 0, h) := by
  unfold spec_l1New.f
  exact new_loop (L := fun k h i => spec_l1New.l0 k l h i) (M := fun h i => Go.bits .and .i64 (wrap64 ((wrap64 ((wrap64 (h * 137)) + (wrap64 (rd l i)))) + 11)) 1073741823) l (by omega) (fun k h i => by simp only [spec_l1New.l0]) l.length 0 _ (by omega)
theorem d_Byte (b : List Int) (hl : b.length ≤ 1048576) (i h : Int) (h0 : 0 ≤ i) (h1 : i ≤ (b.length : Int)) : Ok (spec_l1Byte.f b i h) b.length fun v => 0 ≤ v ∧ v ≤ 255 := by
  unfold spec_l1Byte.f
  refine Ok.ite (fun g => ?_) (fun g => ?_)
  · rw [if_pos h0, w64 (n := i + 1) (by omega) (by omega)]
    exact Ok.now (by omega) (by omega) (and255 _)
  · exact Ok.now h0 h1 (and255 _)
theorem d_Below (b : List Int) (hl : b.length ≤ 1048576) (n i h : Int) (h0 : 0 ≤ i) (h1 : i ≤ (b.length : Int)) : Ok (spec_l1Below.f b i h n) b.length fun v => 0 ≤ v ∧ (0 < n → v < n) ∧ (n ≤ 0 → v = 0) := by
  unfold spec_l1Below.f
  refine Ok.ite (fun g => Ok.now h0 h1 (by omega)) (fun g => Ok.ite (fun g2 => ?_) (fun g2 => ?_))
  · refine Ok.bind (d_Byte b hl i h h0 h1) (fun v i h h0 h1 hv => ?_)
    dsimp only
    rw [if_neg (by omega)]
    have := tmod_bd (x := v) (n := n) (by omega) (by omega)
    exact Ok.now h0 h1 (by omega)
  · refine Ok.bind (d_Byte b hl i h h0 h1) (fun x i h h0 h1 hx => ?_)
    refine Ok.bind (d_Byte b hl i h h0 h1) (fun y i h h0 h1 hy => ?_)
    refine Ok.bind (d_Byte b hl i h h0 h1) (fun z i h h0 h1 hz => ?_)
    dsimp only
    rw [if_neg (by omega), w64 (n := x * 65536) (by omega) (by omega), w64 (n := y * 256) (by omega) (by omega), w64 (n := x * 65536 + y * 256) (by omega) (by omega), w64 (n := x * 65536 + y * 256 + z) (by omega) (by omega)]
    have := tmod_bd (x := x * 65536 + y * 256 + z) (n := n) (by omega) (by omega)
    exact Ok.now h0 h1 (by omega)
theorem d_Bytes (b : List Int) (hl : b.length ≤ 1048576) (n : Int) (hn0 : 0 ≤ n) (hn : n ≤ 1000) (i h : Int) (h0 : 0 ≤ i) (h1 : i ≤ (b.length : Int)) : OkE (fun k => spec_l1Bytes.f k b i h n) b.length fun v => v.length = n.toNat ∧ ∀ x ∈ v, 0 ≤ x ∧ x ≤ 255 := by
  unfold spec_l1Bytes.f
  have e := bytes_loop (L := fun k o j i h => spec_l1Bytes.l0 k (n.toNat : Int) o j b i h) (B := fun i h => spec_l1Byte.f b i h) b n.toNat (by omega) (fun i h => d_Byte b hl i h) (fun k o j i h => by simp only [spec_l1Bytes.l0]) n.toNat 0 [] i h (by omega) (by simp) h0 h1 (by simp)
  rw [Int.toNat_of_nonneg hn0] at e
  exact e
theorem i_In (a l h : Int) : impl_InRange.f a l h = some (decide (l ≤ a ∧ a ≤ h)) := by
  unfold impl_InRange.f; by_cases e : l ≤ a <;> simp [e]
theorem i_app (b : List Int) (n : Int) (hb : b.length ≤ 100000000000) : Ev (fun k => impl_AppendUvarint.f k b n) (appU b n) := by
  have hc : impl_clone_byte.f b = some b := by
    unfold impl_clone_byte.f; simp only [Option.bind_some, List.nil_append, List.length_nil]; rw [if_pos (by omega)]
  unfold appU
  by_cases h : 0 ≤ n ∧ n ≤ 1000000000000
  · rw [if_pos h]
    refine rounds_of (d := 5) (fun k hk => ?_)
    unfold impl_AppendUvarint.f
    rw [hc]
    simp only [i_In, h, Option.bind_some, and_self, decide_true, if_true]
    have e := uv_loop (L := impl_AppendUvarint.l0) (fun k n o hn ho => ?_) 5 n.toNat b (by omega) (by omega) (by omega) k hk
    · rw [Int.toNat_of_nonneg h.1] at e; exact e
    · simp only [impl_AppendUvarint.l0]
      rw [if_pos ho]
      by_cases g : 128 ≤ n
      · rw [if_pos (by omega), if_pos g, Int.tdiv_eq_ediv_of_nonneg (by omega), Int.tmod_eq_emod_of_nonneg (by omega), w64 (by omega) (by omega), w64 (by omega) (by omega), show (n : Int) / 128 = ((n / 128 : Nat) : Int) by omega, show ((n : Int) % 128 + 128) % 256 = ((n % 128 + 128 : Nat) : Int) by omega]
      · rw [if_neg (by omega), if_neg g, if_pos ho]
        congr 3; omega
  · rw [if_neg h]
    refine ⟨0, fun k _ => ?_⟩
    unfold impl_AppendUvarint.f
    rw [hc]
    simp only [i_In, h, Option.bind_some, decide_false, Bool.false_eq_true, if_false]
def appB (b d : List Int) : List Int := appU b (d.length : Int) ++ d
theorem appB_length (b d : List Int) : (appB b d).length ≤ b.length + d.length + 6 := by
  have := appU_length b (d.length : Int); unfold appB; rw [List.length_append]; omega
theorem i_appB (b d : List Int) (hb : b.length ≤ 100000000) (hd : d.length ≤ 100000000) : Ev (fun k => impl_AppendBytes.f k b d) (appB b d) := by
  obtain ⟨K, h⟩ := evo (i_app b (d.length : Int) (by omega))
  have hl := appU_length b (d.length : Int)
  refine ⟨K, fun k hk => ?_⟩
  show impl_AppendBytes.f k b d = _
  unfold impl_AppendBytes.f
  rw [h k hk]; simp only [Option.bind_some]
  rw [if_pos (by omega)]; rfl
def encI (l : List Int) : List Int := l.foldl appU []
theorem enc_len (l : List Int) (i : Nat) : (encI (l.take i)).length ≤ 6 * i := by
  suffices h : ∀ (m o : List Int), (m.foldl appU o).length ≤ o.length + 6 * m.length by
    have e := h (l.take i) []
    have := List.length_take_le i l
    simp at e
    unfold encI; omega
  intro m
  induction m with
  | nil => intro o; simp
  | cons x m ih => intro o; have := ih (appU o x); have h := appU_length o x; simp only [List.foldl_cons, List.length_cons]; omega
theorem encI_length (l : List Int) : (encI l).length ≤ 6 * l.length := by
  have := enc_len l l.length; rwa [List.take_length] at this
theorem enc_loop {L : Nat → List Int → Int → Option (List Int)} {A : Nat → List Int → Int → Option (List Int)} (l : List Int) (hl : l.length ≤ 10000000) (hA : ∀ (b : List Int) (n : Int), b.length ≤ 100000000000 → Ev (fun k => A k b n) (appU b n))
    (h : ∀ k o i, L (k + 1) o i = if i < (l.length : Int) then (if 0 ≤ i then ((A k o (rd l i)).bind fun t => L k t (wrap64 (i + 1))) else none) else some o) (d : Nat) :
    ∀ (i : Nat), i + d = l.length → Ev (fun k => L k (encI (l.take i)) i) (encI l) := by
  induction d with
  | zero =>
    intro i hi
    refine Ev.step (f := fun _ => some (encI l)) (fun k => ?_) (Ev.now _)
    rw [h, if_neg (by omega), List.take_of_length_le (by omega)]
  | succ d ih =>
    intro i hi
    have b := enc_len l i
    refine Ev.step (f := fun k => (A k (encI (l.take i)) (rd l i)).bind fun t => L k t ((i + 1 : Nat) : Int)) (fun k => ?_) ?_
    · rw [h, if_pos (by omega), if_pos (by omega), w64 (by omega) (by omega)]; rfl
    · refine Ev.bind (f := fun k t => L k t ((i + 1 : Nat) : Int)) (hA _ _ (by omega)) ?_
      have e := ih (i + 1) (by omega)
      unfold encI at e ⊢
      rw [take_fold' _ _ _ _ (by omega)] at e
      exact e
theorem i_enc (l : List Int) (hl : l.length ≤ 10000000) : Ev (fun k => impl_EncodeInts.f k l) (encI l) := by
  unfold impl_EncodeInts.f
  refine enc_loop (L := fun k o i => impl_EncodeInts.l0 k o l (l.length : Int) i) l hl i_app (fun k o i => ?_) l.length 0 (by omega)
  simp only [impl_EncodeInts.l0]
  by_cases h0 : i < (l.length : Int) <;> simp [h0]
theorem byte_at {l : List Int} (hb : ∀ x ∈ l, (Lit.int .u8 x).wf = true) (i : Nat) (h : i < l.length) : 0 ≤ l[i] ∧ l[i] ≤ 255 := bounds_u8 (hb l[i] (List.getElem_mem h))
theorem i_readU_go (l : List Int) (a : Int) (ha0 : 0 ≤ a) (ha : a < (l.length : Int)) (hl : l.length ≤ 100000000) (hb : ∀ x ∈ l, (Lit.int .u8 x).wf = true) (f : Nat) :
    ∀ (i : Nat) (n : Int), i + f = 6 → 0 ≤ n → n < 128 ^ i → Ev (fun k => impl_ReadUvarint.l0 k a n (l.drop a.toNat) ((l.drop a.toNat).length : Int) i) (ended (dec f (decide (0 < i)) (l.drop (a.toNat + i))) n (128 ^ i) (a + i)) := by
  have hlen : (l.drop a.toNat).length = l.length - a.toNat := List.length_drop ..
  induction f with
  | zero =>
    intro i n hi h0 h1
    refine Ev.step (f := fun _ => some (0, 0, false)) (fun k => ?_) (Ev.now _)
    simp only [impl_ReadUvarint.l0]
    by_cases g : (i : Int) < ((l.drop a.toNat).length : Int)
    · rw [if_pos g, if_pos (by omega), if_pos g, if_pos (by omega)]
    · rw [if_neg g]
  | succ f ih =>
    intro i n hi h0 h1
    by_cases hlt : a.toNat + i < l.length
    · have hc := byte_at hb (a.toNat + i) hlt
      have hd : l.drop (a.toNat + i) = l[a.toNat + i] :: l.drop (a.toNat + i + 1) := List.drop_eq_getElem_cons hlt
      have hr : rd (l.drop a.toNat) (i : Int) = l[a.toNat + i] := by
        rw [rd_nat _ i (by omega), List.getElem_drop]
      have hj := join7 i (by omega) n (l[a.toNat + i] % 128) h0 h1 (by omega) (by omega)
      have hm := ended_more (dec f true (l.drop (a.toNat + i + 1))) n (128 ^ i) (a + i) (l[a.toNat + i]) (128 ^ (i + 1)) (Int.pow_succ _ _)
      rw [hd]
      have hn : ∀ k, impl_ReadUvarint.l0 (k + 1) a n (l.drop a.toNat) ((l.drop a.toNat).length : Int) i = if l[a.toNat + i] < 128 then (if l[a.toNat + i] = 0 ∧ 0 < i then some (0, 0, false) else if n + l[a.toNat + i] % 128 * 128 ^ i > 1000000000000 then some (0, 0, false) else some (n + l[a.toNat + i] % 128 * 128 ^ i, a + i + 1, true)) else impl_ReadUvarint.l0 k a (n + l[a.toNat + i] % 128 * 128 ^ i) (l.drop a.toNat) ((l.drop a.toNat).length : Int) ((i + 1 : Nat) : Int) := by
        intro k
        simp only [impl_ReadUvarint.l0]
        rw [if_pos (by omega), if_pos (by omega), if_pos (by omega), if_neg (by omega), w64 (n := 7 * (i : Int)) (by omega) (by omega), if_pos (by omega), hr, and127b (by omega) (by omega), w64 (n := l[a.toNat + i] % 128) (by omega) (by omega), hj.1, w64 (n := a + (i : Int)) (by omega) (by omega), w64 (n := a + (i : Int) + 1) (by omega) (by omega), w64 (n := (i : Int) + 1) (by omega) (by omega)]
        by_cases g1 : l[a.toNat + i] < 128
        · rw [if_pos g1, if_pos g1]
          by_cases g3 : 0 < i
          · rw [if_pos (show (i : Int) > 0 by omega)]
            by_cases g2 : l[a.toNat + i] = 0
            · rw [if_pos g2, if_pos ⟨g2, g3⟩]
            · rw [if_neg g2, if_neg (show ¬ (l[a.toNat + i] = 0 ∧ 0 < i) from fun e => g2 e.1)]
          · rw [if_neg (show ¬ (i : Int) > 0 by omega), if_neg (show ¬ (l[a.toNat + i] = 0 ∧ 0 < i) from fun e => g3 e.2)]
        · rw [if_neg g1, if_neg g1]; rfl
      by_cases g1 : l[a.toNat + i] < 128
      · refine Ev.step (f := fun _ => some (ended (dec (f + 1) (decide (0 < i)) (l[a.toNat + i] :: l.drop (a.toNat + i + 1))) n (128 ^ i) (a + i))) (fun k => ?_) (Ev.now _)
        rw [hn, if_pos g1]
        simp only [dec]
        rw [if_pos g1]
        by_cases g2 : l[a.toNat + i] = 0 ∧ 0 < i
        · rw [if_pos g2, if_pos ⟨by simp [g2.2], g2.1⟩]; rfl
        · rw [if_neg g2, if_neg (show ¬ (decide (0 < i) = true ∧ l[a.toNat + i] = 0) from fun e => g2 ⟨e.2, of_decide_eq_true e.1⟩)]
          simp only [ended]
          rw [Int.emod_eq_of_lt (by omega) g1, Int.mul_comm]
          by_cases g3 : n + 128 ^ i * l[a.toNat + i] > 1000000000000
          · rw [if_pos g3, if_pos g3]
          · rw [if_neg g3, if_neg g3]
      · simp only [dec]
        rw [if_neg g1, hm]
        refine Ev.step (f := fun k => impl_ReadUvarint.l0 k a (n + l[a.toNat + i] % 128 * 128 ^ i) (l.drop a.toNat) ((l.drop a.toNat).length : Int) ((i + 1 : Nat) : Int)) (fun k => ?_) ?_
        · rw [hn, if_neg g1]
        · have e := ih (i + 1) (n + l[a.toNat + i] % 128 * 128 ^ i) (by omega) (by have := Int.pow_pos (n := 128) (m := i) (by decide); have := Int.mul_nonneg (show 0 ≤ l[a.toNat + i] % 128 by omega) (Int.le_of_lt this); omega) hj.2
          rw [show decide (0 < i + 1) = true by simp, show a + ((i + 1 : Nat) : Int) = a + i + 1 by omega] at e
          exact e
    · refine Ev.step (f := fun _ => some (0, 0, false)) (fun k => ?_) ?_
      · simp only [impl_ReadUvarint.l0]
        rw [if_neg (by omega)]
      · rw [List.drop_eq_nil_of_le (by omega)]; exact Ev.now _
theorem i_readU (l : List Int) (a : Int) (hl : l.length ≤ 100000000) (hb : ∀ x ∈ l, (Lit.int .u8 x).wf = true) : Ev (fun k => impl_ReadUvarint.f k l a) (readU l a) := by
  unfold impl_ReadUvarint.f readU
  by_cases h : 0 ≤ a ∧ a < (l.length : Int)
  · rw [if_pos h]
    have e := i_readU_go l a h.1 h.2 hl hb 6 0 0 rfl (by omega) (by decide)
    simp only [i_In, Option.bind_some]
    rw [w64 (by omega) (by omega), show decide (0 ≤ a ∧ a ≤ (l.length : Int) - 1) = true by rw [decide_eq_true_eq]; omega]
    have h2 : a ≤ (l.length : Int) := by omega
    simp only [if_true, h.1, h2]
    simpa using e
  · rw [if_neg h]
    simp only [i_In, Option.bind_some]
    rw [w64 (by omega) (by omega), show decide (0 ≤ a ∧ a ≤ (l.length : Int) - 1) = false by rw [decide_eq_false_iff_not]; omega]
    exact Ev.now _
theorem i_readB (l : List Int) (a m : Int) (hl : l.length ≤ 100000000) (hb : ∀ x ∈ l, (Lit.int .u8 x).wf = true) : Ev (fun k => impl_ReadBytes.f k l a m) (readB l a m) := by
  obtain ⟨K, h⟩ := evo (i_readU l a hl hb)
  refine ⟨K, fun k hk => ?_⟩
  show impl_ReadBytes.f k l a m = _
  unfold impl_ReadBytes.f readB
  rw [h k hk]
  rcases hr : readU l a with ⟨n, p, ok⟩
  simp only [Option.bind_some]
  cases ok with
  | false => simp
  | true =>
    obtain ⟨h0, h1, h2, h3, h4⟩ := readU_ok hb hr
    simp only [if_true, true_and]
    rw [w64 (n := (l.length : Int) - p) (by omega) (by omega), w64 (n := p + n) (by omega) (by omega)]
    by_cases g1 : n > m
    · rw [if_pos g1, if_neg (by omega)]
    · rw [if_neg g1]
      by_cases g2 : n > (l.length : Int) - p
      · rw [if_pos g2, if_neg (by omega)]
      · rw [if_neg g2, if_pos (by omega), if_pos (by omega), if_pos (by omega), if_pos (show n ≤ m ∧ n ≤ (l.length : Int) - p by omega)]
        unfold impl_clone_byte.f
        simp only [Option.bind_some, List.nil_append]
        rw [if_pos (by simp; omega)]; rfl
/-- What DecodeInts gives: the numbers read one behind the other. -/
def decI (l : List Int) : Nat → Int → List Int → List Int × Int × Bool
  | 0, a, o => (o, a, true)
  | c + 1, a, o => if (readU l a).2.2 = true then decI l c (readU l a).2.1 (o ++ [(readU l a).1]) else ([], 0, false)
def decV (l : List Int) (a n : Int) : List Int × Int × Bool := if (0 ≤ n ∧ n ≤ 100) ∧ (0 ≤ a ∧ a ≤ (l.length : Int)) then decI l n.toNat a [] else ([], 0, false)
theorem decI_length (l : List Int) (c : Nat) : ∀ (a : Int) (o : List Int), (decI l c a o).1.length ≤ o.length + c := by
  induction c with
  | zero => intro a o; simp [decI]
  | succ c ih =>
    intro a o
    simp only [decI]
    split
    · have := ih (readU l a).2.1 (o ++ [(readU l a).1]); simp at this; omega
    · simp
theorem decV_length (l : List Int) (a n : Int) : (decV l a n).1.length ≤ 100 := by
  unfold decV; split
  · have := decI_length l n.toNat a []; simp at this; omega
  · simp
theorem dec_loop {L : Nat → Int → List Int → Int → Option (List Int × Int × Bool)} {R : Nat → List Int → Int → Option (Int × Int × Bool)} (l : List Int) (n : Nat) (hn : n ≤ 100) (hR : ∀ a, Ev (fun k => R k l a) (readU l a))
    (h : ∀ k a o i, L (k + 1) a o i = if i < (n : Int) then ((R k l a).bind fun r => if r.2.2 = true then (if o.length < 17592186044416 then L k r.2.1 (o ++ [r.1]) (wrap64 (i + 1)) else none) else some ([], 0, false)) else some (o, a, true)) (d : Nat) :
    ∀ (i : Nat) (a : Int) (o : List Int), i + d = n → o.length ≤ i → Ev (fun k => L k a o i) (decI l d a o) := by
  induction d with
  | zero =>
    intro i a o hi ho
    refine Ev.step (f := fun _ => some (o, a, true)) (fun k => ?_) (Ev.now _)
    rw [h, if_neg (by omega)]
  | succ d ih =>
    intro i a o hi ho
    refine Ev.step (f := fun k => (R k l a).bind fun r => if r.2.2 = true then L k r.2.1 (o ++ [r.1]) ((i + 1 : Nat) : Int) else some ([], 0, false)) (fun k => ?_) ?_
    · rw [h, if_pos (by omega), w64 (by omega) (by omega)]
      have ho2 : o.length < 17592186044416 := by omega
      simp only [ho2, if_true]; rfl
    · refine Ev.bind (f := fun k r => if r.2.2 = true then L k r.2.1 (o ++ [r.1]) ((i + 1 : Nat) : Int) else some ([], 0, false)) (hR a) ?_
      simp only [decI]
      by_cases g : (readU l a).2.2 = true
      · simp only [g, if_true]
        exact ih (i + 1) _ _ (by omega) (by simp; omega)
      · simp only [g, Bool.false_eq_true, if_false]; exact Ev.now _
theorem i_decV (l : List Int) (a n : Int) (hl : l.length ≤ 100000000) (hb : ∀ x ∈ l, (Lit.int .u8 x).wf = true) : Ev (fun k => impl_DecodeInts.f k l a n) (decV l a n) := by
  unfold impl_DecodeInts.f decV
  simp only [i_In, Option.bind_some]
  by_cases h1 : 0 ≤ n ∧ n ≤ 100
  · by_cases h2 : 0 ≤ a ∧ a ≤ (l.length : Int)
    · simp only [h1, h2, and_self, decide_true, if_true, Bool.not_true]
      refine Ev.step (f := fun k => impl_DecodeInts.l0 k l a [] n 0) (fun k => ?_) ?_
      · simp only [impl_DecodeInts.j0, Bool.false_eq_true, if_false]
      · have e := dec_loop (L := fun k a o i => impl_DecodeInts.l0 k l a o (n.toNat : Int) i) l n.toNat (by omega) (fun a => i_readU l a hl hb) (fun k a o i => by simp only [impl_DecodeInts.l0]) n.toNat 0 a [] (by omega) (by simp)
        rw [Int.toNat_of_nonneg h1.1] at e; exact e
    · simp only [h1, h2, and_self, and_false, decide_true, decide_false, if_true, if_false, Bool.not_false]
      refine Ev.step (f := fun _ => some ([], 0, false)) (fun k => ?_) (Ev.now _)
      simp only [impl_DecodeInts.j0, if_true]
  · simp only [h1, false_and, decide_false, Bool.false_eq_true, if_false]
    refine Ev.step (f := fun _ => some ([], 0, false)) (fun k => ?_) (Ev.now _)
    simp only [impl_DecodeInts.j0, if_true]
theorem sm_B (xs ys : List Int) (hx : xs.length ≤ 9000000000000000) : Ev (fun k => laws_sameBytes.f k xs ys) (decide (xs = ys)) := by
  refine rounds_of (d := xs.length) (fun k hk => ?_)
  unfold laws_sameBytes.f
  by_cases e : xs.length = ys.length
  · rw [if_pos (by omega)]
    exact eq_loop (L := fun k i => laws_sameBytes.l0 k xs ys i) xs ys (fun k i => by simp only [laws_sameBytes.l0]) e (by omega) xs.length 0 (by omega) (by simp) k hk
  · rw [if_neg (by omega)]
    congr 1; symm; rw [decide_eq_false_iff_not]; intro e'; exact e (by rw [e'])
theorem sm_I (xs ys : List Int) (hx : xs.length ≤ 9000000000000000) : Ev (fun k => laws_sameInts.f k xs ys) (decide (xs = ys)) := by
  refine rounds_of (d := xs.length) (fun k hk => ?_)
  unfold laws_sameInts.f
  by_cases e : xs.length = ys.length
  · rw [if_pos (by omega)]
    exact eq_loop (L := fun k i => laws_sameInts.l0 k xs ys i) xs ys (fun k i => by simp only [laws_sameInts.l0]) e (by omega) xs.length 0 (by omega) (by simp) k hk
  · rw [if_neg (by omega)]
    congr 1; symm; rw [decide_eq_false_iff_not]; intro e'; exact e (by rw [e'])
theorem at_ok (l : List Int) (hl : l.length ≤ 1048576) (hw : ∀ x ∈ l, (Lit.int .u8 x).wf = true) (a : Int) (h0 : 0 ≤ a) (h1 : a ≤ 1000000) : ∃ v, laws_at.f l a = some v ∧ 0 ≤ v ∧ v ≤ 255 := by
  unfold laws_at.f
  by_cases g : a < (l.length : Int)
  · have hv := bounds_u8 (hw _ (rd_mem h0 g))
    refine ⟨rd l a, ?_, hv⟩
    rw [if_pos g, if_pos h0, w64 (by omega) (by omega)]
  · have hm := tmod_bd (x := a * 31 + (l.length : Int) * 7) (n := 256) (by omega) (by omega)
    refine ⟨Int.tmod (a * 31 + (l.length : Int) * 7) 256, ?_, by omega, by omega⟩
    rw [if_neg g, w64 (n := a * 31) (by omega) (by omega), w64 (n := (l.length : Int) * 7) (by omega) (by omega), w64 (by omega) (by omega)]
theorem d_DrawAppB (l : List Int) (hl : l.length ≤ 1048576) : ∃ b n, Ev (fun k => spec_DrawAppendBytes.f k l) (b, n) ∧ b.length ≤ 2 ∧ (∀ x ∈ b, (Lit.int .u8 x).wf = true) ∧ n.length ≤ 5 ∧ (∀ x ∈ n, (Lit.int .u8 x).wf = true) := by
  obtain ⟨h, e⟩ := d_New l hl
  obtain ⟨c, i1, h1, e1, a1, b1, p1⟩ := d_Below l hl 3 0 h (by omega) (by omega)
  obtain ⟨bs, i2, h2, e2, a2, b2, p2, q2⟩ := d_Bytes l hl c (by omega) (by omega) i1 h1 a1 b1
  obtain ⟨c2, i3, h3, e3, a3, b3, p3⟩ := d_Below l hl 6 i2 h2 a2 b2
  obtain ⟨ds, i4, h4, e4, a4, b4, p4, q4⟩ := d_Bytes l hl c2 (by omega) (by omega) i3 h3 a3 b3
  obtain ⟨K1, e⟩ := evo e
  obtain ⟨K2, e2⟩ := evo e2
  obtain ⟨K4, e4⟩ := evo e4
  refine ⟨bs, ds, ⟨K1 + K2 + K4, fun k hk => ?_⟩, by omega, fun x hx => wf8 (q2 x hx), by omega, fun x hx => wf8 (q4 x hx)⟩
  show spec_DrawAppendBytes.f k l = _
  unfold spec_DrawAppendBytes.f
  simp only [e k (by omega), e1, e2 k (by omega), e3, e4 k (by omega), Option.bind_some]
def flat (l : List Int) : List Int := l.flatMap fun n => uv n.toNat
theorem enc_flat (l : List Int) : ∀ o, (∀ x ∈ l, 0 ≤ x ∧ x ≤ 1000000000000) → l.foldl appU o = o ++ flat l := by
  induction l with
  | nil => intro o _; simp [flat]
  | cons n l ih =>
    intro o h
    have hn := h n (List.mem_cons_self ..)
    rw [List.foldl_cons, ih _ (fun x hx => h x (List.mem_cons_of_mem _ hx))]
    unfold appU; rw [if_pos hn]
    simp [flat]
theorem flat_wf (l : List Int) : ∀ x ∈ flat l, (Lit.int .u8 x).wf = true := by
  intro x hx
  obtain ⟨n, _, h⟩ := List.mem_flatMap.1 hx
  exact uv_wf _ x h
theorem decI_flat (l : List Int) : ∀ (P : List Int) (o : List Int), (∀ x ∈ l, 0 ≤ x ∧ x ≤ 1000000000000) → ∀ c, decI (P ++ flat l) (l.length + c) (P.length : Int) o = decI (P ++ flat l) c ((P ++ flat l).length : Int) (o ++ l) := by
  induction l with
  | nil => intro P o _ c; simp [flat]
  | cons n l ih =>
    intro P o h c
    have hn := h n (List.mem_cons_self ..)
    have hf : P ++ flat (n :: l) = P ++ uv n.toNat ++ flat l := by simp [flat]
    have hr := readU_put P n hn.1 hn.2 (flat l)
    rw [hf, List.length_cons, show l.length + 1 + c = (l.length + c) + 1 by omega]
    conv => lhs; unfold decI
    rw [hr]
    simp only [if_true]
    have e := ih (P ++ uv n.toNat) (o ++ [n]) (fun x hx => h x (List.mem_cons_of_mem _ hx)) c
    rw [e]; simp
theorem end_true (l : List Int) (hl : l.length ≤ 10) (hb : ∀ x ∈ l, 0 ≤ x ∧ x ≤ 1000000000000) : Ev (fun k => (impl_EncodeInts.f k l).bind fun t247 => ((impl_DecodeInts.f k t247 0 (l.length : Int)).bind fun bt250 => ((impl_DecodeInts.f k t247 0 (wrap64 ((l.length : Int) + 1))).bind fun bt255 => (if bt250.2.2 = true then ((laws_sameInts.f k bt250.1 l).bind fun t260 => (if t260 = true then (if bt250.2.1 = (t247.length : Int) then (some (!bt255.2.2)) else (some false)) else (some false))) else (some false))))) true := by
  have he : encI l = flat l := by unfold encI; rw [enc_flat l [] hb]; simp
  have hlen := encI_length l
  rw [he] at hlen
  obtain ⟨K1, e1⟩ := evo (i_enc l (by omega))
  rw [he] at e1
  obtain ⟨K2, e2⟩ := evo (i_decV (flat l) 0 (l.length : Int) (by omega) (flat_wf l))
  obtain ⟨K3, e3⟩ := evo (i_decV (flat l) 0 ((l.length : Int) + 1) (by omega) (flat_wf l))
  obtain ⟨K4, e4⟩ := evo (sm_I l l (by omega))
  have v2 : decV (flat l) 0 (l.length : Int) = (l, ((flat l).length : Int), true) := by
    have e := decI_flat l [] [] hb 0
    simp only [List.nil_append, List.length_nil, Nat.add_zero, decI] at e
    unfold decV
    rw [if_pos (by omega), Int.toNat_natCast]
    exact e
  have v3 : decV (flat l) 0 ((l.length : Int) + 1) = ([], 0, false) := by
    have e := decI_flat l [] [] hb 1
    have hr : readU (flat l) ((flat l).length : Int) = (0, 0, false) := by unfold readU; rw [if_neg (by omega)]
    simp only [List.nil_append, List.length_nil, decI, hr] at e
    unfold decV
    rw [if_pos (by omega), show ((l.length : Int) + 1).toNat = l.length + 1 by omega]
    exact e
  rw [v2] at e2
  rw [v3] at e3
  refine ⟨K1 + K2 + K3 + K4, fun k hk => ?_⟩
  dsimp only
  rw [w64 (by omega) (by omega), e1 k (by omega)]
  simp only [Option.bind_some, e2 k (by omega), e3 k (by omega), if_true, e4 k (by omega), decide_true, Bool.not_false]
theorem fill_true (l : List Int) (hl : l.length ≤ 1048576) (hw : ∀ x ∈ l, (Lit.int .u8 x).wf = true) (d : Nat) : ∀ (i : Nat) (o : List Int), i + d = 6 → o.length = i → (∀ x ∈ o, 0 ≤ x ∧ x ≤ 1000000000000) → Ev (fun k => laws_FnByteStrings.l0 k l o i) true := by
  obtain ⟨t, ht, t0, t1⟩ := at_ok l hl hw 0 (by omega) (by omega)
  have tm := tmod_bd (x := t) (n := 6) t0 (by omega)
  induction d with
  | zero =>
    intro i o hi ho hb
    refine Ev.step (fun k => ?_) (end_true o (by omega) hb)
    simp only [laws_FnByteStrings.l0, ht, Option.bind_some]
    rw [if_neg (by omega)]
  | succ d ih =>
    intro i o hi ho hb
    by_cases g : (i : Int) < Int.tmod t 6
    · obtain ⟨x, hx, x0, x1⟩ := at_ok l hl hw ((i : Int) + 1) (by omega) (by omega)
      obtain ⟨y, hy, y0, y1⟩ := at_ok l hl hw ((i : Int) + 2) (by omega) (by omega)
      obtain ⟨z, hz, z0, z1⟩ := at_ok l hl hw ((i : Int) + 3) (by omega) (by omega)
      have p0 : 0 ≤ x * y := Int.mul_nonneg x0 y0
      have p1 : x * y ≤ 255 * 255 := Int.mul_le_mul x1 y1 y0 (by omega)
      have q0 : 0 ≤ x * y * z := Int.mul_nonneg p0 z0
      have q1 : x * y * z ≤ 255 * 255 * 255 := Int.mul_le_mul p1 z1 z0 (by omega)
      refine Ev.step (f := fun k => laws_FnByteStrings.l0 k l (o ++ [x * y * z]) ((i + 1 : Nat) : Int)) (fun k => ?_) (ih (i + 1) _ (by omega) (by simp [ho]) (fun v hv => ?_))
      · simp only [laws_FnByteStrings.l0, ht, Option.bind_some]
        rw [if_pos g, w64 (n := (i : Int) + 1) (by omega) (by omega), w64 (n := (i : Int) + 2) (by omega) (by omega), w64 (n := (i : Int) + 3) (by omega) (by omega), hx]
        simp only [Option.bind_some, hy, hz]
        rw [if_pos (by omega), w64 (n := x * y) (by omega) (by omega), w64 (n := x * y * z) (by omega) (by omega)]; rfl
      · rcases List.mem_append.1 hv with hv | hv
        · exact hb v hv
        · simp at hv; omega
    · refine Ev.step (fun k => ?_) (end_true o (by omega) hb)
      simp only [laws_FnByteStrings.l0, ht, Option.bind_some]
      rw [if_neg g]
theorem FnByteStrings : laws_FnByteStrings.Pure := by
  intro l _ _ hw
  unfold laws_FnByteStrings.f
  rw [big_le]
  simp only [Option.bind_some]
  by_cases h1 : (l.length : Int) > 1048576
  · exact ⟨0, by simp [h1]⟩
  simp only [h1, decide_false, Bool.false_eq_true, if_false]
  obtain ⟨b, d, e, hb, wb, hd, wd⟩ := d_DrawAppB l (by omega)
  have hx : appB b d = b ++ uv d.length ++ d := by unfold appB appU; rw [if_pos (by omega), Int.toNat_natCast]
  have hn := appB_length b d
  have hwx : ∀ x ∈ appB b d, (Lit.int .u8 x).wf = true := by
    intro x h; unfold appB at h
    rcases List.mem_append.1 h with h | h
    · exact appU_wf wb _ x h
    · exact wd x h
  obtain ⟨K1, e⟩ := evo e
  obtain ⟨K2, e2⟩ := evo (i_appB b d (by omega) (by omega))
  obtain ⟨K3, e3⟩ := evo (i_readB (appB b d) (b.length : Int) (d.length : Int) (by omega) hwx)
  obtain ⟨K4, e4⟩ := evo (i_readB (appB b d) (b.length : Int) ((d.length : Int) - 1) (by omega) hwx)
  obtain ⟨K5, e5⟩ := evo (sm_B d d (by omega))
  obtain ⟨K6, e6⟩ := evo (fill_true l (by omega) hw 6 0 [] (by omega) (by simp) (by simp))
  have hr := readU_put b (d.length : Int) (by omega) (by omega) d
  rw [Int.toNat_natCast, ← hx] at hr
  have hl2 : (appB b d).length = (b ++ uv d.length).length + d.length := by rw [hx, List.length_append]
  have r3 : readB (appB b d) (b.length : Int) (d.length : Int) = (d, ((appB b d).length : Int), true) := by
    unfold readB
    rw [hr]
    dsimp only
    rw [if_pos ⟨rfl, by omega, by omega⟩]
    have e7 : (((b ++ uv d.length).length : Int) + (d.length : Int)).toNat = (appB b d).length := by omega
    rw [e7, List.take_length, Int.toNat_natCast, hx, List.drop_left]
    simp only [Prod.mk.injEq, and_true, true_and, List.length_append]; omega
  have r4 : readB (appB b d) (b.length : Int) ((d.length : Int) - 1) = ([], 0, false) := by
    unfold readB
    rw [hr]
    dsimp only
    rw [if_neg (by omega)]
  rw [r3] at e3
  rw [r4] at e4
  refine ⟨K1 + K2 + K3 + K4 + K5 + K6 + 2, ?_⟩
  generalize hK : K1 + K2 + K3 + K4 + K5 + K6 = K
  rw [e (K + 2) (by omega)]
  simp only [Option.bind_some, e2 (K + 2) (by omega), e3 (K + 2) (by omega)]
  rw [w64 (n := (d.length : Int) - 1) (by omega) (by omega)]
  simp only [Option.bind_some, e4 (K + 2) (by omega), e5 (K + 2) (by omega), if_true, decide_true]
  simp only [laws_FnByteStrings.j0, Bool.false_eq_true, if_false]
  exact e6 (K + 1) (by omega)

end Go.Proofs.Yteehlniclobkbaa.Pure
