/- Plain lemmas of this session on varints: the bytes of a number, and the number and the count of bytes that are read. Conditions: those each lemma states. -/
import Derived.Test.YtinfglcccomilaaDoorLib
import Derived.Laws.BitsLemmas
namespace Go.Proofs.YtinfglcccomilaaDoor.Var
open Go.RowKit Go.Proofs.YtinfglcccomilaaDoorW.PrintWords Go.Proofs.YtinfglcccomilaaDoorW.PrintLast Go.Proofs.YtinfglcccomilaaDoorW.PrintMore Go.Proofs.YtinfglcccomilaaDoor.Lib

theorem wraps62 (n : Int) (h₀ : 0 ≤ n) (h₁ : n < 2 ^ 62) : IntKind.i64.wrap n = n := by rw [IntKind.wrap_i64]; omega
theorem wraps8 (n : Int) (h₀ : 0 ≤ n) (h₁ : n < 2 ^ 8) : IntKind.u8.wrap n = n := by rw [IntKind.wrap_u8]; omega
theorem and127 {x : Int} (h0 : 0 ≤ x) (h1 : x < 4000000000000000000) : bits .and .i64 x 127 = x % 128 := bits_mask .i64 62 (by decide) wraps62 7 (by decide) x h0 (by omega)
theorem and127b {x : Int} (h0 : 0 ≤ x) (h1 : x < 256) : bits .and .u8 x 127 = x % 128 := bits_mask .u8 8 (by decide) wraps8 7 (by decide) x h0 (by omega)
theorem or_lo_hi (i : Nat) (x y : Int) (hx0 : 0 ≤ x) (hx : x % 2 ^ i = 0) (hx1 : x < 2 ^ 62) (hy0 : 0 ≤ y) (hy : y < 2 ^ i) (hy1 : y < 2 ^ 62) : bits .or .i64 y x = y + x := by
  have e : bits .or .i64 y x = bits .or .i64 x y := by
    obtain ⟨a, rfl⟩ := Int.eq_ofNat_of_zero_le hx0
    obtain ⟨b, rfl⟩ := Int.eq_ofNat_of_zero_le hy0
    have ha : a < 2 ^ 62 := by exact_mod_cast hx1
    have hb : b < 2 ^ 62 := by exact_mod_cast hy1
    rw [(bits_nat .i64 62 (by decide) wraps62 b a hb ha).2, (bits_nat .i64 62 (by decide) wraps62 a b ha hb).2, Nat.or_comm]
  rw [e, bits_join .i64 62 (by decide) wraps62 i x y hx0 hx hx1 hy0 hy hy1, Int.add_comm]
theorem or128 {x : Int} (h0 : 0 ≤ x) (h1 : x < 128) : bits .or .i64 x 128 = x + 128 := or_lo_hi 7 128 x (by decide) (by decide) (by decide) h0 (by omega) (by omega)

/-- The bytes of a number. -/
def uv (n : Nat) : List Int := if n < 128 then [(n : Int)] else ((n % 128 + 128 : Nat) : Int) :: uv (n / 128)
termination_by n
decreasing_by omega
theorem uv_lt {n : Nat} (h : n < 128) : uv n = [(n : Int)] := by rw [uv, if_pos h]
theorem uv_ge {n : Nat} (h : ¬ n < 128) : uv n = ((n % 128 + 128 : Nat) : Int) :: uv (n / 128) := by rw [uv, if_neg h]
theorem uv_length (d : Nat) : ∀ n, n < 128 ^ (d + 1) → 1 ≤ (uv n).length ∧ (uv n).length ≤ d + 1 := by
  induction d with
  | zero => intro n h; rw [uv_lt (by omega)]; simp
  | succ d ih =>
    intro n h
    by_cases e : n < 128
    · rw [uv_lt e]; simp
    · rw [uv_ge e, List.length_cons]
      have := ih (n / 128) (by rw [Nat.div_lt_iff_lt_mul (by omega)]; rw [Nat.pow_succ] at h; omega)
      omega
theorem uv_length6 {n : Nat} (h : n ≤ 1000000000000) : 1 ≤ (uv n).length ∧ (uv n).length ≤ 6 := uv_length 5 n (by omega)
theorem uv_bytes (n : Nat) : ∀ x ∈ uv n, 0 ≤ x ∧ x ≤ 255 := by
  induction n using Nat.strongRecOn with
  | ind n ih =>
    intro x hx
    by_cases e : n < 128
    · rw [uv_lt e] at hx; simp at hx; omega
    · rw [uv_ge e] at hx
      rcases List.mem_cons.1 hx with h | h
      · omega
      · exact ih (n / 128) (by omega) x h

theorem uv_loop {L : Nat → Int → List Int → Option (List Int)} (h : ∀ k (n : Nat) o, n ≤ 1000000000000 → o.length < 140737488355328 → L (k + 1) n o = if 128 ≤ n then L k ((n / 128 : Nat) : Int) (o ++ [((n % 128 + 128 : Nat) : Int)]) else some (o ++ [(n : Int)])) (d : Nat) :
    ∀ (n : Nat) (o : List Int), n ≤ 1000000000000 → n < 128 ^ (d + 1) → o.length + d < 140737488355328 → ∀ k, d < k → L k n o = some (o ++ uv n) := by
  induction d with
  | zero =>
    intro n o hn hd ho k hk
    obtain ⟨k, rfl⟩ : ∃ m, k = m + 1 := ⟨k - 1, by omega⟩
    rw [h k n o hn (by omega), if_neg (by omega), uv_lt (by omega)]
  | succ d ih =>
    intro n o hn hd ho k hk
    obtain ⟨k, rfl⟩ : ∃ m, k = m + 1 := ⟨k - 1, by omega⟩
    rw [h k n o hn (by omega)]
    by_cases e : n < 128
    · rw [if_neg (by omega), uv_lt e]
    · rw [if_pos (by omega), uv_ge e]
      rw [ih (n / 128) _ (by omega) (by rw [Nat.div_lt_iff_lt_mul (by omega)]; rw [Nat.pow_succ] at hd; omega) (by simp; omega) k (by omega)]
      simp

def appU (b : List Int) (n : Int) : List Int := if 0 ≤ n ∧ n ≤ 1000000000000 then b ++ uv n.toNat else b
theorem take_fold' {α : Type} (f : α → Int → α) (a : α) (l : List Int) (i : Nat) (h : i < l.length) : (l.take (i + 1)).foldl f a = f ((l.take i).foldl f a) (rd l i) := by
  rw [List.take_succ_eq_append_getElem h, List.foldl_append, rd_nat l i h]; rfl
theorem appU_length (b : List Int) (n : Int) : b.length ≤ (appU b n).length ∧ (appU b n).length ≤ b.length + 6 := by
  unfold appU; split
  · have := uv_length6 (n := n.toNat) (by omega); rw [List.length_append]; omega
  · omega

/-- What is read from bytes: the number and how many bytes it takes; none where no number stands there. z: behind another byte. -/
def dec : Nat → Bool → List Int → Option (Int × Int)
  | 0, _, _ => none
  | _ + 1, _, [] => none
  | f + 1, z, c :: cs => if c < 128 then (if z = true ∧ c = 0 then none else some (c, 1)) else (dec f true cs).map fun r => (c % 128 + 128 * r.1, r.2 + 1)
def ended (r : Option (Int × Int)) (n p at0 : Int) : Int × Int × Bool := match r with
  | none => (0, 0, false)
  | some (v, m) => if n + p * v > 1000000000000 then (0, 0, false) else (n + p * v, at0 + m, true)
def readU (l : List Int) (a : Int) : Int × Int × Bool := if 0 ≤ a ∧ a < (l.length : Int) then ended (dec 6 false (l.drop a.toNat)) 0 1 a else (0, 0, false)

theorem shl7 (i : Nat) (hi : i < 6) (x : Int) (h0 : 0 ≤ x) (h1 : x < 128) : shl .i64 x (7 * (i : Int)) = x * 128 ^ i := by
  have e : min (7 * (i : Int)).toNat 64 = 7 * i := by omega
  unfold shl
  show IntKind.i64.wrap (x * 2 ^ min (7 * (i : Int)).toNat 64) = _
  rw [e, Int.pow_mul]
  have : i = 0 ∨ i = 1 ∨ i = 2 ∨ i = 3 ∨ i = 4 ∨ i = 5 := by omega
  rcases this with rfl | rfl | rfl | rfl | rfl | rfl <;> exact wraps62 _ (by omega) (by omega)
theorem join7 (i : Nat) (hi : i < 6) (n x : Int) (hn0 : 0 ≤ n) (hn : n < 128 ^ i) (h0 : 0 ≤ x) (h1 : x < 128) : bits .or .i64 n (shl .i64 x (7 * (i : Int))) = n + x * 128 ^ i ∧ n + x * 128 ^ i < 128 ^ (i + 1) := by
  rw [shl7 i hi x h0 h1]
  have : i = 0 ∨ i = 1 ∨ i = 2 ∨ i = 3 ∨ i = 4 ∨ i = 5 := by omega
  rcases this with rfl | rfl | rfl | rfl | rfl | rfl
  · exact ⟨or_lo_hi 0 _ _ (by omega) (by omega) (by omega) hn0 (by omega) (by omega), by omega⟩
  · exact ⟨or_lo_hi 7 _ _ (by omega) (by omega) (by omega) hn0 (by omega) (by omega), by omega⟩
  · exact ⟨or_lo_hi 14 _ _ (by omega) (by omega) (by omega) hn0 (by omega) (by omega), by omega⟩
  · exact ⟨or_lo_hi 21 _ _ (by omega) (by omega) (by omega) hn0 (by omega) (by omega), by omega⟩
  · exact ⟨or_lo_hi 28 _ _ (by omega) (by omega) (by omega) hn0 (by omega) (by omega), by omega⟩
  · exact ⟨or_lo_hi 35 _ _ (by omega) (by omega) (by omega) hn0 (by omega) (by omega), by omega⟩
theorem ended_more (r : Option (Int × Int)) (n p a c : Int) (q : Int) (hq : q = p * 128) : ended (r.map fun r => (c % 128 + 128 * r.1, r.2 + 1)) n p a = ended r (n + c % 128 * p) q (a + 1) := by
  cases r with
  | none => rfl
  | some r =>
    obtain ⟨v, m⟩ := r
    have e : n + p * (c % 128 + 128 * v) = n + c % 128 * p + q * v := by
      rw [hq, Int.mul_add, Int.mul_comm p (c % 128), ← Int.mul_assoc, Int.add_assoc]
    simp only [ended, Option.map_some]
    rw [e, show a + (m + 1) = a + 1 + m by omega]

theorem dec_bounds (f : Nat) : ∀ (z : Bool) (cs : List Int) (v m : Int), (∀ x ∈ cs, 0 ≤ x) → dec f z cs = some (v, m) → 0 ≤ v ∧ 1 ≤ m ∧ m ≤ (cs.length : Int) := by
  induction f with
  | zero => intro z cs v m _ h; simp [dec] at h
  | succ f ih =>
    intro z cs v m hb h
    cases cs with
    | nil => simp [dec] at h
    | cons c cs =>
      have hc := hb c (List.mem_cons_self ..)
      simp only [dec] at h
      by_cases g : c < 128
      · rw [if_pos g] at h
        split at h
        · cases h
        · simp only [Option.some.injEq, Prod.mk.injEq] at h
          obtain ⟨rfl, rfl⟩ := h
          simp only [List.length_cons]; omega
      · rw [if_neg g] at h
        cases hd : dec f true cs with
        | none => rw [hd] at h; cases h
        | some r =>
          obtain ⟨v', m'⟩ := r
          rw [hd] at h
          simp only [Option.map_some, Option.some.injEq, Prod.mk.injEq] at h
          have := ih true cs v' m' (fun x hx => hb x (List.mem_cons_of_mem _ hx)) hd
          obtain ⟨rfl, rfl⟩ := h
          simp only [List.length_cons]; omega
theorem readU_ok {l : List Int} {a n p : Int} (hb : ∀ x ∈ l, (Lit.int .u8 x).wf = true) (h : readU l a = (n, p, true)) : 0 ≤ a ∧ 0 ≤ n ∧ n ≤ 1000000000000 ∧ a < p ∧ p ≤ (l.length : Int) := by
  unfold readU at h
  by_cases g : 0 ≤ a ∧ a < (l.length : Int)
  · rw [if_pos g] at h
    cases hd : dec 6 false (l.drop a.toNat) with
    | none => rw [hd] at h; simp [ended] at h
    | some r =>
      obtain ⟨v, m⟩ := r
      rw [hd] at h
      have := dec_bounds 6 false _ v m (fun x hx => (bounds_u8 (hb x (List.mem_of_mem_drop hx))).1) hd
      rw [List.length_drop] at this
      simp only [ended] at h
      split at h
      · simp at h
      · simp only [Prod.mk.injEq, and_true] at h
        omega
  · rw [if_neg g] at h; simp at h
theorem readU_no {l : List Int} {a n p : Int} (h : readU l a = (n, p, false)) : n = 0 ∧ p = 0 := by
  unfold readU at h
  split at h
  · unfold ended at h
    split at h
    · simp at h; omega
    · split at h <;> simp at h
      omega
  · simp at h; omega
def readB (l : List Int) (a m : Int) : List Int × Int × Bool := if (readU l a).2.2 = true ∧ (readU l a).1 ≤ m ∧ (readU l a).1 ≤ (l.length : Int) - (readU l a).2.1 then ((l.take ((readU l a).2.1 + (readU l a).1).toNat).drop ((readU l a).2.1).toNat, (readU l a).2.1 + (readU l a).1, true) else ([], 0, false)
theorem readB_length (l : List Int) (a m : Int) : (readB l a m).1.length ≤ l.length := by
  unfold readB; split
  · simp only [List.length_drop, List.length_take]; omega
  · simp

theorem dec_uv (f : Nat) : ∀ (z : Bool) (n : Nat) (rest : List Int), n < 128 ^ f → (z = true → 0 < n) → (z = true ∨ 0 < f) → dec f z (uv n ++ rest) = some ((n : Int), ((uv n).length : Int)) := by
  induction f with
  | zero =>
    intro z n rest h hz hf
    rcases hf with e | e
    · have := hz e; omega
    · omega
  | succ f ih =>
    intro z n rest h hz _
    by_cases g : n < 128
    · rw [uv_lt g]
      simp only [List.cons_append, List.nil_append, dec]
      rw [if_pos (by omega), if_neg (fun e => by have := hz e.1; omega)]; rfl
    · rw [uv_ge g]
      simp only [List.cons_append, dec]
      rw [if_neg (by omega), ih true (n / 128) rest (by rw [Nat.div_lt_iff_lt_mul (by omega)]; rw [Nat.pow_succ] at h; omega) (fun _ => by omega) (Or.inl rfl)]
      simp only [Option.map_some, List.length_cons, Option.some.injEq, Prod.mk.injEq]
      omega
theorem uv_dec (f : Nat) : ∀ (z : Bool) (cs : List Int) (v m : Int), (∀ x ∈ cs, 0 ≤ x ∧ x ≤ 255) → dec f z cs = some (v, m) → cs.take m.toNat = uv v.toNat ∧ (z = true → 0 < v) := by
  induction f with
  | zero => intro z cs v m _ h; simp [dec] at h
  | succ f ih =>
    intro z cs v m hb h
    cases cs with
    | nil => simp [dec] at h
    | cons c cs =>
      have hc := hb c (List.mem_cons_self ..)
      simp only [dec] at h
      by_cases g : c < 128
      · rw [if_pos g] at h
        by_cases g2 : z = true ∧ c = 0
        · rw [if_pos g2] at h; cases h
        · rw [if_neg g2] at h
          simp only [Option.some.injEq, Prod.mk.injEq] at h
          obtain ⟨rfl, rfl⟩ := h
          refine ⟨?_, fun hz => ?_⟩
          · rw [uv_lt (by omega), Int.toNat_of_nonneg hc.1]; rfl
          · have : c ≠ 0 := fun e => g2 ⟨hz, e⟩
            omega
      · rw [if_neg g] at h
        cases hd : dec f true cs with
        | none => rw [hd] at h; cases h
        | some r =>
          obtain ⟨v', m'⟩ := r
          rw [hd] at h
          simp only [Option.map_some, Option.some.injEq, Prod.mk.injEq] at h
          have hb' : ∀ x ∈ cs, 0 ≤ x ∧ x ≤ 255 := fun x hx => hb x (List.mem_cons_of_mem _ hx)
          have hi := ih true cs v' m' hb' hd
          have hm := dec_bounds f true cs v' m' (fun x hx => (hb' x hx).1) hd
          have hp := hi.2 rfl
          obtain ⟨rfl, rfl⟩ := h
          refine ⟨?_, fun _ => by omega⟩
          rw [uv_ge (by omega), show (m' + 1).toNat = m'.toNat + 1 by omega, List.take_succ_cons, hi.1]
          congr 1
          · omega
          · congr 1; omega
theorem readU_put (b : List Int) (n : Int) (h0 : 0 ≤ n) (h1 : n ≤ 1000000000000) (rest : List Int) : readU (b ++ uv n.toNat ++ rest) (b.length : Int) = (n, ((b ++ uv n.toNat).length : Int), true) := by
  have hl := uv_length6 (n := n.toNat) (by omega)
  unfold readU
  rw [if_pos (by simp only [List.length_append]; omega), Int.toNat_natCast, List.append_assoc, List.drop_left, dec_uv 6 false n.toNat rest (by omega) (fun e => by cases e) (Or.inr (by omega))]
  simp only [ended, List.length_append]
  rw [Int.toNat_of_nonneg h0, Int.one_mul, Int.zero_add, if_neg (by omega)]
  simp only [Prod.mk.injEq, and_true, true_and]; omega
theorem readU_take {l : List Int} {a n p : Int} (hb : ∀ x ∈ l, (Lit.int .u8 x).wf = true) (h : readU l a = (n, p, true)) : (l.take p.toNat).drop a.toNat = uv n.toNat := by
  have hk := readU_ok hb h
  unfold readU at h
  rw [if_pos (by omega)] at h
  cases hd : dec 6 false (l.drop a.toNat) with
  | none => rw [hd] at h; simp [ended] at h
  | some r =>
    obtain ⟨v, m⟩ := r
    rw [hd] at h
    have hu := (uv_dec 6 false _ v m (fun x hx => bounds_u8 (hb x (List.mem_of_mem_drop hx))) hd).1
    simp only [ended] at h
    split at h
    · simp at h
    · simp only [Prod.mk.injEq, and_true] at h
      rw [List.drop_take, show p.toNat - a.toNat = m.toNat by omega, hu]
      congr 1; omega
theorem wf8 {x : Int} (h : 0 ≤ x ∧ x ≤ 255) : (Lit.int .u8 x).wf = true := by
  simp only [Lit.wf, IntKind.min, IntKind.max, IntKind.signed, IntKind.bits, Bool.and_eq_true]
  simp; omega
theorem uv_wf (n : Nat) : ∀ x ∈ uv n, (Lit.int .u8 x).wf = true := fun x hx => wf8 (uv_bytes n x hx)
theorem appU_wf {b : List Int} (hb : ∀ x ∈ b, (Lit.int .u8 x).wf = true) (n : Int) : ∀ x ∈ appU b n, (Lit.int .u8 x).wf = true := by
  unfold appU; split
  · intro x hx
    rcases List.mem_append.1 hx with h | h
    · exact hb x h
    · exact uv_wf _ x h
  · exact hb

end Go.Proofs.YtinfglcccomilaaDoor.Var
