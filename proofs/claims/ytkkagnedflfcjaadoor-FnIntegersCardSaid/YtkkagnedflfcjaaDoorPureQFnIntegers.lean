/- The law FnIntegers returns true for each input of bytes. Conditions: each number is a byte; the reach of memory. -/
import Derived.Test.YtkkagnedflfcjaaDoorQFnIntegersx3
import Derived.Test.YtkkagnedflfcjaaDoorLib
import Derived.Test.YtkkagnedflfcjaaDoorDraw
namespace Go.Proofs.YtkkagnedflfcjaaDoor.Pure
open Go.RowKit Go.Proofs.YtkkagnedflfcjaaDoor.QFnIntegers Go.Proofs.YtkkagnedflfcjaaDoorW.PrintWords Go.Proofs.YtkkagnedflfcjaaDoorW.PrintLast Go.Proofs.YtkkagnedflfcjaaDoorW.PrintMore Go.Proofs.YtkkagnedflfcjaaDoor.Lib Go.Proofs.YtkkagnedflfcjaaDoor.Var Go.Proofs.YtkkagnedflfcjaaDoor.Draw

set_option linter.unusedSimpArgs false
def sg (n : Int) : List UInt8 := if n < 0 then [45] else []
theorem ba_ext {a b : ByteArray} (h : a.data.toList = b.data.toList) : a = b := by
  cases a; cases b; simp only [ByteArray.mk.injEq]; exact Array.toList_inj.1 h
theorem fmt_step (n x : Int) (s : ByteArray) (k : Nat) (hx : x ≠ 0) (h0 : -9223372036854775808 ≤ x) (h1 : x ≤ 9223372036854775807) (hs : s.size ≤ 1000) :
    spec_FormatInt.l0 (k + 1) n s x = spec_FormatInt.l0 k n (strOfNums [((48 + x.natAbs % 10 : Nat) : Int)] ++ s) (Int.tdiv x 10) := by
  have hz : ∀ z : Int, (strOfNums [z]).size = 1 := fun z => rfl
  have hd : wrap64 (Int.tdiv x 10) = Int.tdiv x 10 := by
    have : -9223372036854775808 ≤ Int.tdiv x 10 ∧ Int.tdiv x 10 ≤ 9223372036854775807 := by
      rcases Int.le_total 0 x with g | g
      · rw [Int.tdiv_eq_ediv_of_nonneg g]; omega
      · obtain ⟨y, rfl⟩ : ∃ y, x = -y := ⟨-x, by omega⟩
        rw [Int.neg_tdiv, Int.tdiv_eq_ediv_of_nonneg (by omega)]; omega
    exact w64 this.1 this.2
  have hm : Int.tmod x 10 = if x < 0 then -((x.natAbs % 10 : Nat) : Int) else ((x.natAbs % 10 : Nat) : Int) := by
    split
    · rename_i g
      obtain ⟨y, rfl⟩ : ∃ y, x = -y := ⟨-x, by omega⟩
      rw [Int.neg_tmod, Int.tmod_eq_emod_of_nonneg (by omega)]; omega
    · rename_i g
      rw [Int.tmod_eq_emod_of_nonneg (by omega)]; omega
  simp only [spec_FormatInt.l0]
  rw [if_neg hx, hd]
  by_cases c : Int.tmod x 10 < 0
  · rw [if_pos c]
    have g : x < 0 := by
      rw [hm] at c; split at c
      · assumption
      · omega
    rw [hm, if_pos g]
    have e : (wrap64 (48 + wrap64 (- -((x.natAbs % 10 : Nat) : Int)))) % 256 = ((48 + x.natAbs % 10 : Nat) : Int) := by
      rw [Int.neg_neg, w64 (n := ((x.natAbs % 10 : Nat) : Int)) (by omega) (by omega), w64 (by omega) (by omega)]; omega
    simp only [e, Option.bind_some]
    rw [if_pos (by rw [hz]; omega)]
  · rw [if_neg c]
    have e2 : Int.tmod x 10 = ((x.natAbs % 10 : Nat) : Int) := by
      rw [hm] at c ⊢; split
      · rename_i g; rw [if_pos g] at c; omega
      · rfl
    rw [e2]
    have e : (wrap64 (48 + ((x.natAbs % 10 : Nat) : Int))) % 256 = ((48 + x.natAbs % 10 : Nat) : Int) := by
      rw [w64 (by omega) (by omega)]; omega
    simp only [e, Option.bind_some]
    rw [if_pos (by rw [hz]; omega)]
theorem fmt_end (n : Int) (s : ByteArray) (k : Nat) (hs : s.size ≤ 1000) : spec_FormatInt.l0 (k + 1) n s 0 = some ⟨(sg n ++ s.data.toList).toArray⟩ := by
  simp only [spec_FormatInt.l0]
  rw [if_pos trivial]
  unfold sg
  by_cases c : n < 0
  · rw [if_pos c, if_pos (by omega), if_pos c]
    exact congrArg some (ba_ext (by simp [ByteArray.data_append]))
  · rw [if_neg c, if_neg c]
    exact congrArg some (ba_ext (by simp))
theorem fmt_loop (n : Int) : ∀ (j : Nat) (x : Int) (s : ByteArray), x ≠ 0 → x.natAbs < 10 ^ j → -9223372036854775808 ≤ x → x ≤ 9223372036854775807 → s.size + j ≤ 1000 → ∀ k, j < k → spec_FormatInt.l0 k n s x = some ⟨(sg n ++ Lib.decDigits x.natAbs ++ s.data.toList).toArray⟩ := by
  intro j
  induction j with
  | zero => intro x s hx hb; exfalso; simp at hb; omega
  | succ j ih =>
    intro x s hx hb h0 h1 hs k hk
    obtain ⟨k, rfl⟩ : ∃ m, k = m + 1 := ⟨k - 1, by omega⟩
    rw [fmt_step n x s k hx h0 h1 (by omega)]
    have hd : (Int.tdiv x 10).natAbs = x.natAbs / 10 := by
      rw [Int.natAbs_tdiv]; rfl
    have hsz : (strOfNums [((48 + x.natAbs % 10 : Nat) : Int)] ++ s).size = 1 + s.size := by rw [ByteArray.size_append]; rfl
    have hdata : (strOfNums [((48 + x.natAbs % 10 : Nat) : Int)] ++ s).data.toList = UInt8.ofNat (48 + x.natAbs % 10) :: s.data.toList := by
      rw [ByteArray.data_append, Array.toList_append, strOfNums_data]; rfl
    by_cases c : x.natAbs < 10
    · have e0 : Int.tdiv x 10 = 0 := by
        have : (Int.tdiv x 10).natAbs = 0 := by rw [hd]; omega
        omega
      obtain ⟨k, rfl⟩ : ∃ m, k = m + 1 := ⟨k - 1, by omega⟩
      rw [e0, fmt_end n _ k (by rw [hsz]; omega), hdata, Lib.decDigits_one c]
      have : x.natAbs % 10 = x.natAbs := Nat.mod_eq_of_lt c
      rw [this]
      simp
    · have hne : Int.tdiv x 10 ≠ 0 := fun e => by
        have : (Int.tdiv x 10).natAbs = 0 := by rw [e]; rfl
        rw [hd] at this; omega
      have hb2 : (Int.tdiv x 10).natAbs < 10 ^ j := by
        rw [hd]; rw [Nat.pow_succ] at hb; omega
      have hr : -9223372036854775808 ≤ Int.tdiv x 10 ∧ Int.tdiv x 10 ≤ 9223372036854775807 := by omega
      rw [ih (Int.tdiv x 10) _ hne hb2 hr.1 hr.2 (by rw [hsz]; omega) k (by omega), hdata, hd]
      have hD : Lib.decDigits x.natAbs = Lib.decDigits (x.natAbs / 10) ++ [UInt8.ofNat (48 + x.natAbs % 10)] := by
        rw [Lib.decDigits, dif_neg c]
      rw [hD]
      simp
/-- The spec's text of a number is Go's own. -/
theorem s_fmt (n : Int) (h0 : -9223372036854775808 ≤ n) (h1 : n ≤ 9223372036854775807) (k : Nat) (hk : 20 < k) : spec_FormatInt.f k n = some ⟨(Lib.itoa n).toArray⟩ := by
  unfold spec_FormatInt.f Lib.itoa
  by_cases c : n = 0
  · subst c
    rw [if_pos rfl]
    have : Lib.decDigits 0 = [48] := Lib.decDigits_one (by decide)
    simp [this]
  · rw [if_neg c, fmt_loop n 20 n _ c (by omega) h0 h1 (by decide) k hk]
    unfold sg
    by_cases g : n < 0
    · rw [if_pos g, if_pos g]; simp
    · rw [if_neg g, if_neg g]
      have : n.natAbs = n.toNat := by omega
      rw [this]; simp
theorem i_fmt (n : Int) (h0 : -9223372036854775808 ≤ n) (h1 : n ≤ 9223372036854775807) : impl_FormatInt.f n = some ⟨(Lib.itoa n).toArray⟩ := by
  show Option.bind (if _ then some _ else none) _ = _
  rw [if_pos ⟨h0, h1⟩]; rfl
theorem tl_inj {a b : ByteArray} (h : a.toList = b.toList) : a = b := ba_ext (by rw [ByteArray.toList_eq, ByteArray.toList_eq] at h; exact h)
theorem dec_app (l : List UInt8) (b : UInt8) : ∀ acc, Lib.decFrom acc (l ++ [b]) = (Lib.decFrom acc l).bind fun n => (Lib.digitVal b).map fun d => n * 10 + d := by
  induction l with
  | nil => intro acc; simp only [List.nil_append, Lib.decFrom]; cases Lib.digitVal b <;> rfl
  | cons c r ih =>
    intro acc
    simp only [List.cons_append, Lib.decFrom]
    cases Lib.digitVal c with
    | none => rfl
    | some d => exact ih _
theorem dig (d : Nat) (h : d < 10) : Lib.digitVal (UInt8.ofNat (48 + d)) = some d := by
  have : ∀ i : Fin 10, Lib.digitVal (UInt8.ofNat (48 + i.1)) = some i.1 := by decide
  exact this ⟨d, h⟩
theorem dec_dec (u : Nat) : Lib.decFrom 0 (Lib.decDigits u) = some u := by
  induction u using Nat.strongRecOn with
  | _ u ih =>
    by_cases c : u < 10
    · rw [Lib.decDigits_one c]; simp only [Lib.decFrom, dig u c]; simp
    · rw [Lib.decDigits, dif_neg c, dec_app, ih (u / 10) (by omega), dig (u % 10) (by omega)]
      simp only [Option.bind_some, Option.map_some, Option.some.injEq]; omega
theorem dec_len (j : Nat) : ∀ u, u < 10 ^ (j + 1) → (Lib.decDigits u).length ≤ j + 1 ∧ 1 ≤ (Lib.decDigits u).length := by
  induction j with
  | zero => intro u h; rw [Lib.decDigits_one (by simpa using h)]; simp
  | succ j ih =>
    intro u h
    by_cases c : u < 10
    · rw [Lib.decDigits_one c]; simp
    · have := ih (u / 10) (by rw [Nat.pow_succ] at h; omega)
      rw [Lib.decDigits, dif_neg c]
      simp only [List.length_append, List.length_cons, List.length_nil]; omega
/-- The number that a text is the numeral of. -/
def Num (s : ByteArray) (v : Int) : Prop := 0 ≤ v ∧ v ≤ 1000000000000 ∧ s = ⟨(Lib.itoa v).toArray⟩
theorem itoa_nat {v : Int} (h : 0 ≤ v) : Lib.itoa v = Lib.decDigits v.toNat := by unfold Lib.itoa; rw [if_neg (by omega)]
theorem num_size {s : ByteArray} {v : Int} (h : Num s v) : 1 ≤ s.size ∧ s.size ≤ 13 := by
  obtain ⟨h0, h1, rfl⟩ := h
  have := dec_len 12 v.toNat (by omega)
  rw [itoa_nat h0]
  show 1 ≤ (Lib.decDigits v.toNat).toArray.size ∧ (Lib.decDigits v.toNat).toArray.size ≤ 13
  simp only [List.size_toArray]; omega
theorem i_pint (s : ByteArray) (hs : s.size ≤ 1048576) : ∃ R : Int × Bool, impl_ParseInt.f s = some R ∧ ((R.2 = true ∧ Num s R.1) ∨ (R = (0, false) ∧ ∀ v, ¬ Num s v)) := by
  have hnum : ∀ v, Num s v → Lib.atoiAll s.data.toList = .ok v := by
    intro v hv
    have hz := num_size hv
    obtain ⟨h0, h1, rfl⟩ := hv
    show Lib.atoiAll ((Lib.itoa v).toArray.toList) = _
    have hl : (Lib.itoa v).length ≤ 13 := by have := hz.2; simpa [ByteArray.size] using this
    have hl1 : 1 ≤ (Lib.itoa v).length := by have := hz.1; simpa [ByteArray.size] using this
    rw [List.toList_toArray, Lib.atoiAll_short _ (by omega), itoa_nat h0] at *
    have hd := dec_dec v.toNat
    cases hL : Lib.decDigits v.toNat with
    | nil => rw [hL] at hl1; simp at hl1
    | cons b r =>
      rw [hL] at hd
      have hb : 48 ≤ b.toNat ∧ b.toNat ≤ 57 := by
        simp only [Lib.decFrom, Lib.digitVal] at hd
        by_cases g : 48 ≤ b.toNat ∧ b.toNat ≤ 57
        · exact g
        · rw [if_neg g] at hd; cases hd
      have n1 : (b == 45) = false := beq_eq_false_iff_ne.mpr (fun e => by subst e; revert hb; decide)
      have n2 : (b == 43) = false := beq_eq_false_iff_ne.mpr (fun e => by subst e; revert hb; decide)
      simp only [Lib.atoi, n1, n2, Bool.false_eq_true, if_false, Lib.decNat, List.isEmpty_cons, hd, Option.map_some, Lib.NumEnd.ofOption]
      congr 1; omega
  unfold impl_ParseInt.f
  rw [if_pos (by omega)]
  rcases hA : Lib.atoiAll s.data.toList with v | _ | _
  rotate_left
  iterate 2 exact ⟨_, rfl, .inr ⟨rfl, fun u hu => by have := hnum u hu; rw [hA] at this; cases this⟩⟩
  · skip
    have hb := Lib.atoiAll_bounds hA
    simp only [i_fmt v hb.1 hb.2, Option.bind_some]
    have huniq : ∀ u, Num s u → u = v := fun u hu => by have := hnum u hu; rw [hA] at this; injection this with this; exact this.symm
    by_cases c : (⟨(Lib.itoa v).toArray⟩ : ByteArray).toList = s.toList
    · rw [if_pos c]
      by_cases c1 : 0 ≤ v
      · rw [if_pos c1]
        by_cases c2 : v ≤ 1000000000000
        · rw [if_pos c2]; exact ⟨_, rfl, .inl ⟨rfl, c1, c2, (tl_inj c).symm⟩⟩
        · rw [if_neg c2]; exact ⟨_, rfl, .inr ⟨rfl, fun u hu => c2 (huniq u hu ▸ hu.2.1)⟩⟩
      · rw [if_neg c1]; exact ⟨_, rfl, .inr ⟨rfl, fun u hu => c1 (huniq u hu ▸ hu.1)⟩⟩
    · rw [if_neg c]; exact ⟨_, rfl, .inr ⟨rfl, fun u hu => c (by rw [← huniq u hu]; exact congrArg ByteArray.toList hu.2.2.symm)⟩⟩
theorem fmt_size {m : Int} (h0 : -9223372036854775808 ≤ m) (h1 : m ≤ 9223372036854775807) : (⟨(Lib.itoa m).toArray⟩ : ByteArray).size ≤ 21 := by
  show (Lib.itoa m).toArray.size ≤ 21
  rw [List.size_toArray]
  unfold Lib.itoa
  split
  · have := (dec_len 19 m.natAbs (by omega)).1
    simp only [List.length_cons]; omega
  · have := (dec_len 19 m.toNat (by omega)).1
    omega
theorem num_of {m v : Int} (h : Num ⟨(Lib.itoa m).toArray⟩ v) : v = m := by
  obtain ⟨h0, h1, h2⟩ := h
  have e : Lib.itoa m = Lib.itoa v := by
    have := congrArg (fun b : ByteArray => b.data.toList) h2
    simpa using this
  rw [itoa_nat h0] at e
  have hv := dec_dec v.toNat
  rw [← e] at hv
  by_cases c : m < 0
  · unfold Lib.itoa at hv
    rw [if_pos c] at hv
    have hn : Lib.digitVal 45 = none := by decide
    simp only [Lib.decFrom, hn] at hv
    cases hv
  · rw [itoa_nat (by omega), dec_dec] at hv
    have := Option.some.inj hv
    omega
/-- A number's text is parsed as the number, where it is in range. -/
theorem pint_fmt {m : Int} (h0 : -9223372036854775808 ≤ m) (h1 : m ≤ 9223372036854775807) : impl_ParseInt.f ⟨(Lib.itoa m).toArray⟩ = some (if 0 ≤ m ∧ m ≤ 1000000000000 then (m, true) else (0, false)) := by
  obtain ⟨⟨q1, q2⟩, h, g⟩ := i_pint ⟨(Lib.itoa m).toArray⟩ (by have := fmt_size h0 h1; omega)
  rw [h]
  rcases g with ⟨a, b⟩ | ⟨a, b⟩
  · have e := num_of b
    have p0 := b.1
    have p1 := b.2.1
    dsimp only at a e p0 p1
    subst a; subst e
    rw [if_pos ⟨p0, p1⟩]
  · rw [a]
    rw [if_neg (fun c => b m ⟨c.1, c.2, rfl⟩)]
theorem big_le (l : List Int) : laws_big.f l = some (decide ((l.length : Int) > 1048576)) := rfl
theorem d_New (l : List Int) (hl : l.length ≤ 1048576) : ∃ h, Ev (fun k => spec_l1New.f k l) (l, 0, h) := by
  unfold spec_l1New.f
  exact new_loop (L := fun k h i => spec_l1New.l0 k l h i) (M := fun h i => Go.bits .and .i64 (wrap64 ((wrap64 ((wrap64 (h * 137)) + (wrap64 (rd l i)))) + 11)) 1073741823) l (by omega) (fun k h i => by simp only [spec_l1New.l0]) l.length 0 _ (by omega)
theorem d_Byte (b : List Int) (hl : b.length ≤ 1048576) (i h : Int) (h0 : 0 ≤ i) (h1 : i ≤ (b.length : Int)) : Ok (spec_l1Byte.f b i h) b.length fun v => 0 ≤ v ∧ v ≤ 255 := by
  unfold spec_l1Byte.f
  refine Ok.ite (fun g => ?_) (fun g => ?_)
  · rw [if_pos h0, w64 (n := i + 1) (by omega) (by omega)]
    exact Ok.now (by omega) (by omega) (and255 _)
  · exact Ok.now h0 h1 (and255 _)
theorem d_Below (b : List Int) (hl : b.length ≤ 1048576) (n i h : Int) (h0 : 0 ≤ i) (h1 : i ≤ (b.length : Int)) : Ok (spec_l1Below.f b i h n) b.length fun v => 0 ≤ v ∧ (0 < n → v < n) ∧ (n ≤ 0 → v = 0) := by
  unfold spec_l1Below.f
  refine Ok.ite (fun g => Ok.now h0 h1 (by omega)) (fun g => Ok.ite (fun g2 => ?_) (fun g2 => ?_))
  · refine Ok.bind (d_Byte b hl i h h0 h1) (fun v i h h0 h1 hv => ?_)
    dsimp only
    rw [if_neg (by omega)]
    have := tmod_bd (x := v) (n := n) (by omega) (by omega)
    exact Ok.now h0 h1 (by omega)
  · refine Ok.bind (d_Byte b hl i h h0 h1) (fun x i h h0 h1 hx => ?_)
    refine Ok.bind (d_Byte b hl i h h0 h1) (fun y i h h0 h1 hy => ?_)
    refine Ok.bind (d_Byte b hl i h h0 h1) (fun z i h h0 h1 hz => ?_)
    dsimp only
    rw [if_neg (by omega), w64 (n := x * 65536) (by omega) (by omega), w64 (n := y * 256) (by omega) (by omega), w64 (n := x * 65536 + y * 256) (by omega) (by omega), w64 (n := x * 65536 + y * 256 + z) (by omega) (by omega)]
    have := tmod_bd (x := x * 65536 + y * 256 + z) (n := n) (by omega) (by omega)
    exact Ok.now h0 h1 (by omega)
theorem d_Int (b : List Int) (hl : b.length ≤ 1048576) (l : List Int) (hn : 0 < l.length) (i h : Int) (h0 : 0 ≤ i) (h1 : i ≤ (b.length : Int)) : Ok (spec_l1Int.f b i h l) b.length fun v => v ∈ l := by
  unfold spec_l1Int.f
  refine Ok.bind (d_Below b hl _ i h h0 h1) (fun v i h h0 h1 hv => ?_)
  dsimp only
  rw [if_pos (by omega), if_pos (by omega)]
  exact Ok.now h0 h1 (rd_mem (by omega) (by omega))
theorem d_Num (b : List Int) (hl : b.length ≤ 1048576) (i h : Int) (h0 : 0 ≤ i) (h1 : i ≤ (b.length : Int)) : Ok (spec_l1Num.f b i h) b.length fun v => 0 ≤ v ∧ v ≤ 1000000000000 := by
  unfold spec_l1Num.f
  refine Ok.bind (d_Below b hl _ i h h0 h1) (fun v i h h0 h1 hv => ?_)
  refine Ok.ite (fun _ => ?_) (fun _ => Ok.ite (fun _ => ?_) (fun _ => Ok.ite (fun _ => ?_) (fun _ => ?_)))
  · exact Ok.bind (d_Below b hl _ i h h0 h1) (fun v i h h0 h1 hv => Ok.now h0 h1 (by omega))
  · refine Ok.bind (d_Int b hl _ (by decide) i h h0 h1) (fun v i h h0 h1 hv => Ok.now h0 h1 ?_)
    simp only [List.mem_cons, List.not_mem_nil, or_false] at hv
    dsimp only at hv ⊢; omega
  · refine Ok.bind (d_Below b hl _ i h h0 h1) (fun v i h h0 h1 hv => ?_)
    refine Ok.bind (d_Below b hl _ i h h0 h1) (fun w i h h0 h1 hw => Ok.now h0 h1 ?_)
    have : 0 ≤ v * w := Int.mul_nonneg (by omega) (by omega)
    have : v * w ≤ 1000000 * 1000000 := Int.mul_le_mul (by omega) (by omega) (by omega) (by omega)
    dsimp only
    rw [w64 (by omega) (by omega)]; omega
  · exact Ok.bind (d_Below b hl _ i h h0 h1) (fun v i h h0 h1 hv => Ok.now h0 h1 (by omega))
theorem d_Once (b : List Int) (hl : b.length ≤ 1048576) (n i h : Int) (h0 : 0 ≤ i) (h1 : i ≤ (b.length : Int)) : Ok (spec_l1Once.f b i h n) b.length fun _ => True := by
  unfold spec_l1Once.f
  exact Ok.bind (d_Below b hl n i h h0 h1) (fun v i h h0 h1 _ => Ok.now h0 h1 trivial)
theorem d_Odd (b : List Int) (hl : b.length ≤ 1048576) (i h : Int) (h0 : 0 ≤ i) (h1 : i ≤ (b.length : Int)) : Ok (spec_l1Odd.f b i h) b.length fun v => -9223372036854775808 ≤ v ∧ v ≤ 9223372036854775807 := by
  unfold spec_l1Odd.f
  refine Ok.bind (d_Int b hl _ (by decide) i h h0 h1) (fun v i h h0 h1 hv => Ok.now h0 h1 ?_)
  simp only [List.mem_cons, List.not_mem_nil, or_false] at hv
  dsimp only at hv ⊢; omega
theorem d_Raw (b : List Int) (hl : b.length ≤ 1048576) (i h : Int) (h0 : 0 ≤ i) (h1 : i ≤ (b.length : Int)) : Ok (spec_l1Raw.f b i h) b.length fun v => -9223372036854775808 ≤ v ∧ v ≤ 9223372036854775807 := by
  unfold spec_l1Raw.f
  refine Ok.bind (d_Once b hl _ i h h0 h1) (fun v i h h0 h1 _ => ?_)
  refine Ok.ite (fun _ => ?_) (fun _ => ?_)
  · exact Ok.bind (d_Odd b hl i h h0 h1) (fun v i h h0 h1 hv => Ok.now h0 h1 hv)
  · refine Ok.bind (d_Int b hl _ (by decide) i h h0 h1) (fun v i h h0 h1 hv => Ok.now h0 h1 ?_)
    simp only [List.mem_cons, List.not_mem_nil, or_false] at hv
    dsimp only at hv ⊢; omega
theorem d_One (b : List Int) (hl : b.length ≤ 1048576) (i h : Int) (h0 : 0 ≤ i) (h1 : i ≤ (b.length : Int)) : Ok (spec_l1One.f b i h) b.length fun v => -9223372036854775808 ≤ v ∧ v ≤ 9223372036854775807 := by
  unfold spec_l1One.f
  refine Ok.bind (d_Once b hl _ i h h0 h1) (fun v i h h0 h1 _ => ?_)
  refine Ok.ite (fun _ => ?_) (fun _ => ?_)
  · exact Ok.bind (d_Raw b hl i h h0 h1) (fun v i h h0 h1 hv => Ok.now h0 h1 hv)
  · exact Ok.bind (d_Num b hl i h h0 h1) (fun v i h h0 h1 hv => Ok.now h0 h1 (by dsimp only at hv ⊢; omega))
theorem d_Str (b : List Int) (hl : b.length ≤ 1048576) (l : List ByteArray) (hn : 0 < l.length) (i h : Int) (h0 : 0 ≤ i) (h1 : i ≤ (b.length : Int)) : Ok (spec_l1Str.f b i h l) b.length fun v => v ∈ l := by
  unfold spec_l1Str.f
  refine Ok.bind (d_Below b hl _ i h h0 h1) (fun v i h h0 h1 hv => ?_)
  dsimp only
  rw [if_pos (by omega), if_pos (by omega)]
  refine Ok.now h0 h1 ?_
  unfold rdOf
  have hk : v.toNat < l.length := by omega
  rw [List.getD_eq_getElem?_getD, List.getElem?_eq_getElem hk]
  exact List.getElem_mem hk
theorem i_In (a l h : Int) : impl_InRange.f a l h = some (decide (l ≤ a ∧ a ≤ h)) := by
  unfold impl_InRange.f; by_cases e : l ≤ a <;> simp [e]
def modv (a m : Int) : Int := if 1 ≤ m ∧ m ≤ 1000000000000 then a % m else 0
theorem mod_core {a m : Int} (h1 : 1 ≤ m) (h2 : m ≤ 1000000000000) : Int.tmod (wrap64 (Int.tmod a m + m)) m = a % m := by
  have l1 : -m < Int.tmod a m := by have := Int.lt_tmod_of_pos a (show 0 < m by omega); omega
  have l2 : Int.tmod a m < m := Int.tmod_lt_of_pos a (by omega)
  rw [w64 (by omega) (by omega)]
  rw [Int.tmod_eq_emod_of_nonneg (by omega), Int.add_emod_right]
  rw [Int.tmod_eq_emod]
  split
  · simp
  · rw [Int.sub_emod]
    simp [Int.natAbs_of_nonneg (show 0 ≤ m by omega)]
theorem i_Mod (a m : Int) : impl_Mod.f a m = some (modv a m) := by
  unfold impl_Mod.f modv; rw [i_In]; simp only [Option.bind_some, decide_eq_true_eq]
  split
  · rename_i h; rw [if_neg (by omega), mod_core h.1 h.2]
  · rfl
def cdv (a b : Int) : Int := if (0 ≤ a ∧ a ≤ 1000000000000) ∧ (1 ≤ b ∧ b ≤ 1000000000000) then (a + b - 1) / b else 0
theorem cdv_in {a b : Int} (h : 0 ≤ a ∧ a ≤ 1000000000000) (g : 1 ≤ b ∧ b ≤ 1000000000000) : cdv a b = (a + b - 1) / b := if_pos ⟨h, g⟩
theorem cdv_out {a b : Int} (h : ¬ ((0 ≤ a ∧ a ≤ 1000000000000) ∧ (1 ≤ b ∧ b ≤ 1000000000000))) : cdv a b = 0 := if_neg h
theorem cd_def (a b : Int) : impl_CeilDiv.f a b = some (cdv a b) := by
  unfold impl_CeilDiv.f cdv
  simp only [i_In, Option.bind_some, decide_eq_true_eq]
  by_cases h : 0 ≤ a ∧ a ≤ 1000000000000
  · by_cases g : 1 ≤ b ∧ b ≤ 1000000000000
    · have e : (a + b - 1).tdiv b = (a + b - 1) / b := Int.tdiv_eq_ediv_of_nonneg (by omega)
      have p0 : 0 ≤ (a + b - 1) / b := Int.ediv_nonneg (by omega) (by omega)
      have p1 : (a + b - 1) / b ≤ a + b - 1 := Int.ediv_le_self _ (by omega)
      rw [if_pos h, if_pos g, if_neg (by omega), if_pos ⟨h, g⟩, w64 (n := a + b) (by omega) (by omega), w64 (n := a + b - 1) (by omega) (by omega), e, w64 (by omega) (by omega)]
    · rw [if_pos h, if_neg g, if_neg (fun c => g c.2)]
  · rw [if_neg h, if_neg (fun c => h c.1)]
theorem cd_law {a b : Int} (g : 1 ≤ b ∧ b ≤ 1000000000000) : (a + b - 1) / b * b ≥ a ∧ (a + b - 1) / b * b - a < b ∧ (a + b - 1) / b * b ≤ a + b - 1 := by
  have e := Int.mul_ediv_add_emod (a + b - 1) b
  have b0 := Int.emod_nonneg (a + b - 1) (show b ≠ 0 by omega)
  have b1 := Int.emod_lt_of_pos (a + b - 1) (show 0 < b by omega)
  rw [Int.mul_comm] at e
  generalize (a + b - 1) / b * b = q at *
  omega
theorem mod_law {a b : Int} (g : 1 ≤ b ∧ b ≤ 1000000000000) : 0 ≤ a % b ∧ a % b < b ∧ Int.tmod (wrap64 (Int.tmod a b - a % b)) b = 0 := by
  have b0 := Int.emod_nonneg a (show b ≠ 0 by omega)
  have b1 := Int.emod_lt_of_pos a (show 0 < b by omega)
  refine ⟨b0, b1, ?_⟩
  have l1 : -b < Int.tmod a b := by have := Int.lt_tmod_of_pos a (show 0 < b by omega); omega
  have l2 : Int.tmod a b < b := Int.tmod_lt_of_pos a (by omega)
  rw [w64 (by omega) (by omega)]
  apply Int.tmod_eq_zero_of_dvd
  rw [Int.tmod_eq_emod]
  split
  · rw [show a % b - ((0 : Nat) : Int) - a % b = 0 by omega]; exact Int.dvd_zero b
  · have e : (b.natAbs : Int) = b := Int.natAbs_of_nonneg (by omega)
    rw [e, show a % b - b - a % b = -b by omega]
    exact Int.dvd_neg.2 (Int.dvd_refl b)
theorem d_DrawParseInt (l : List Int) (hl : l.length ≤ 1048576) : ∃ s, Ev (fun k => spec_DrawParseInt.f k l) s ∧ s.size ≤ 1000 := by
  obtain ⟨h, e⟩ := d_New l hl
  obtain ⟨o, i1, h1, e1, a1, b1, _⟩ := d_Once l hl 2 0 h (by omega) (by omega)
  obtain ⟨n, i2, h2, e2, a2, b2, p2⟩ := d_Num l hl i1 h1 a1 b1
  obtain ⟨K1, e⟩ := evo e
  have hs := fmt_size (m := n) (by omega) (by omega)
  have main : ∃ r : ByteArray, r.size ≤ 1000 ∧ ∀ k, K1 + 21 ≤ k → spec_DrawParseInt.f k l = some r := by
    by_cases c : o = true
    · obtain ⟨v, i3, h3, e3, _, _, p3⟩ := d_Str l hl ([(⟨#[]⟩ : ByteArray), (⟨#[48]⟩ : ByteArray), (⟨#[48, 48]⟩ : ByteArray), (⟨#[45, 49]⟩ : ByteArray), (⟨#[48, 49]⟩ : ByteArray), (⟨#[55]⟩ : ByteArray), (⟨#[49, 48, 48, 48, 48, 48, 48, 48, 48, 48, 48, 48, 48]⟩ : ByteArray), (⟨#[49, 48, 48, 48, 48, 48, 48, 48, 48, 48, 48, 48, 49]⟩ : ByteArray), (⟨#[57, 57, 57, 57, 57, 57, 57, 57, 57, 57, 57, 57, 57, 57]⟩ : ByteArray), (⟨#[49, 120]⟩ : ByteArray), (⟨#[32, 49]⟩ : ByteArray)] : List ByteArray) (by simp) i1 h1 a1 b1
      refine ⟨v, ?_, fun k hk => ?_⟩
      · have hall : ∀ x ∈ ([(⟨#[]⟩ : ByteArray), (⟨#[48]⟩ : ByteArray), (⟨#[48, 48]⟩ : ByteArray), (⟨#[45, 49]⟩ : ByteArray), (⟨#[48, 49]⟩ : ByteArray), (⟨#[55]⟩ : ByteArray), (⟨#[49, 48, 48, 48, 48, 48, 48, 48, 48, 48, 48, 48, 48]⟩ : ByteArray), (⟨#[49, 48, 48, 48, 48, 48, 48, 48, 48, 48, 48, 48, 49]⟩ : ByteArray), (⟨#[57, 57, 57, 57, 57, 57, 57, 57, 57, 57, 57, 57, 57, 57]⟩ : ByteArray), (⟨#[49, 120]⟩ : ByteArray), (⟨#[32, 49]⟩ : ByteArray)] : List ByteArray), x.size ≤ 1000 := by decide
        exact hall v p3
      · unfold spec_DrawParseInt.f
        simp only [e k (by omega), e1, Option.bind_some]
        rw [if_pos c, e3]
        rfl
    · refine ⟨⟨(Lib.itoa n).toArray⟩, by omega, fun k hk => ?_⟩
      unfold spec_DrawParseInt.f
      simp only [e k (by omega), e1, Option.bind_some]
      rw [if_neg c, e2]
      simp only [Option.bind_some, s_fmt n (by omega) (by omega) k (by omega)]
  obtain ⟨r, hr, hk⟩ := main
  exact ⟨r, ⟨K1 + 21, hk⟩, hr⟩
theorem d_DrawFormatInt (l : List Int) (hl : l.length ≤ 1048576) : ∃ m, Ev (fun k => spec_DrawFormatInt.f k l) m ∧ -9223372036854775808 ≤ m ∧ m ≤ 9223372036854775807 := by
  obtain ⟨h, e⟩ := d_New l hl
  obtain ⟨o, i1, h1, e1, a1, b1, p1⟩ := d_One l hl 0 h (by omega) (by omega)
  obtain ⟨K1, e⟩ := evo e
  refine ⟨o, ⟨K1, fun k hk => ?_⟩, p1⟩
  show spec_DrawFormatInt.f k l = _
  unfold spec_DrawFormatInt.f
  simp only [e k (by omega), e1, Option.bind_some]
theorem d_DrawCeilDiv (l : List Int) (hl : l.length ≤ 1048576) : ∃ a b, Ev (fun k => spec_DrawCeilDiv.f k l) (a, b) := by
  obtain ⟨h, e⟩ := d_New l hl
  obtain ⟨a, i1, h1, e1, a1, b1, _⟩ := d_One l hl 0 h (by omega) (by omega)
  obtain ⟨b, i2, h2, e2, a2, b2, _⟩ := d_One l hl i1 h1 a1 b1
  obtain ⟨K1, e⟩ := evo e
  refine ⟨a, b, K1, fun k hk => ?_⟩
  show spec_DrawCeilDiv.f k l = _
  unfold spec_DrawCeilDiv.f
  simp only [e k (by omega), e1, e2, Option.bind_some]
/-- What the law asks of a division and a remainder. -/
theorem tail (a b : Int) (k : Nat) : laws_FnIntegers.j0 (k + 3) a b (cdv a b) (modv a b) false = some true := by
  simp only [laws_FnIntegers.j0, Bool.false_eq_true, if_false]
  by_cases g : 1 ≤ b ∧ b ≤ 1000000000000
  · have g1 : ¬ b < 1 := by omega
    have g2 : ¬ b > 1000000000000 := by omega
    obtain ⟨m0, m1, m2⟩ := mod_law (a := a) g
    have m0' : ¬ a % b < 0 := by omega
    have m1' : ¬ a % b ≥ b := by omega
    have hb : ¬ b = 0 := by omega
    rw [show modv a b = a % b from if_pos g, if_neg g1]
    simp only [g2, decide_false, laws_FnIntegers.j1, Bool.false_eq_true, if_false, m0', m1', hb, m2, bne_self_eq_false, laws_FnIntegers.j2]
    by_cases h : 0 ≤ a ∧ a ≤ 1000000000000
    · obtain ⟨c0, c1, c2⟩ := cd_law (a := a) g
      have h1 : ¬ a < 0 := by omega
      have h2 : ¬ a > 1000000000000 := by omega
      rw [cdv_in h g, if_neg h1, if_neg h2, w64 (n := (a + b - 1) / b * b) (by omega) (by omega), if_pos c0, w64 (n := (a + b - 1) / b * b - a) (by omega) (by omega)]
      simp [c1]
    · rw [cdv_out (fun c => h c.1)]
      by_cases h1 : a < 0
      · rw [if_pos h1]; rfl
      · rw [if_neg h1, if_pos (by omega)]; rfl
  · rw [cdv_out (fun c => g c.2), show modv a b = 0 from if_neg g]
    by_cases g1 : b < 1
    · rw [if_pos g1]
      simp [laws_FnIntegers.j1]
    · rw [if_neg g1]
      have g2 : b > 1000000000000 := by omega
      simp [laws_FnIntegers.j1, g2]
theorem FnIntegers : laws_FnIntegers.Pure := by
  intro l _ _ _
  unfold laws_FnIntegers.f
  rw [big_le]
  simp only [Option.bind_some]
  by_cases h1 : (l.length : Int) > 1048576
  · exact ⟨0, by simp [h1]⟩
  simp only [h1, decide_false, Bool.false_eq_true, if_false]
  have hl : l.length ≤ 1048576 := by omega
  obtain ⟨s, E1, hs⟩ := d_DrawParseInt l hl
  obtain ⟨m, E2, m0, m1⟩ := d_DrawFormatInt l hl
  obtain ⟨a, b, E3⟩ := d_DrawCeilDiv l hl
  obtain ⟨⟨n, ok⟩, hn, g⟩ := i_pint s (by omega)
  obtain ⟨K1, E1⟩ := evo E1
  obtain ⟨K2, E2⟩ := evo E2
  obtain ⟨K3, E3⟩ := evo E3
  refine ⟨K1 + K2 + K3 + 3, ?_⟩
  have T := tail a b (K1 + K2 + K3)
  simp only [E1 (K1 + K2 + K3 + 3) (by omega), E2 (K1 + K2 + K3 + 3) (by omega), E3 (K1 + K2 + K3 + 3) (by omega), hn, i_fmt m m0 m1, pint_fmt m0 m1, cd_def, i_Mod, Option.bind_some]
  generalize laws_FnIntegers.j0 (K1 + K2 + K3 + 3) a b (cdv a b) (modv a b) = J at *
  have two : (if m ≥ 0 then (if ((if 0 ≤ m ∧ m ≤ 1000000000000 then (m, true) else (0, false)).2 != decide (m ≤ 1000000000000)) = true then J true else if (if 0 ≤ m ∧ m ≤ 1000000000000 then (m, true) else ((0 : Int), false)).2 = true then J ((if 0 ≤ m ∧ m ≤ 1000000000000 then (m, true) else (0, false)).1 != m) else J false) else (if ((if 0 ≤ m ∧ m ≤ 1000000000000 then (m, true) else ((0 : Int), false)).2 != false) = true then J true else if (if 0 ≤ m ∧ m ≤ 1000000000000 then (m, true) else ((0 : Int), false)).2 = true then J ((if 0 ≤ m ∧ m ≤ 1000000000000 then (m, true) else (0, false)).1 != m) else J false)) = some true := by
    by_cases c0 : 0 ≤ m
    · by_cases c1 : m ≤ 1000000000000
      · simp [c0, c1, T]
      · simp [c0, c1, T]
    · simp [c0, T]
  rcases g with ⟨g1, g2⟩ | ⟨g1, _⟩
  · dsimp only at g1 g2
    subst g1
    have ht : (⟨(Lib.itoa n).toArray⟩ : ByteArray).toList = s.toList := by rw [g2.2.2]
    have q0 := g2.1
    have q1 := g2.2.1
    simp only [if_true, i_fmt n (by omega) (by omega), Option.bind_some, ht]
    exact two
  · simp only [Prod.mk.injEq] at g1
    obtain ⟨rfl, rfl⟩ := g1
    simp only [Bool.false_eq_true, if_false]
    exact two

end Go.Proofs.YtkkagnedflfcjaaDoor.Pure
