/- The law FnExactParseInt returns true for each text. Conditions: the reach of memory. -/
import Derived.Test.YtkkagnedflfcjaaDoorQFnExactParseIntx1
import Derived.Test.YtkkagnedflfcjaaDoorLib
namespace Go.Proofs.YtkkagnedflfcjaaDoor.Pure
open Go.RowKit Go.Proofs.YtkkagnedflfcjaaDoor.QFnExactParseInt Go.Proofs.YtkkagnedflfcjaaDoorW.PrintWords Go.Proofs.YtkkagnedflfcjaaDoorW.PrintLast Go.Proofs.YtkkagnedflfcjaaDoorW.PrintMore Go.Proofs.YtkkagnedflfcjaaDoor.Lib 

theorem xIn (a l h : Int) : spec_l1In.f a l h = some (decide (l ≤ a ∧ a ≤ h)) := by
  unfold spec_l1In.f; by_cases e : l ≤ a <;> simp [e]
def sg (n : Int) : List UInt8 := if n < 0 then [45] else []
theorem ba_ext {a b : ByteArray} (h : a.data.toList = b.data.toList) : a = b := by
  cases a; cases b; simp only [ByteArray.mk.injEq]; exact Array.toList_inj.1 h
theorem fmt_step (n x : Int) (s : ByteArray) (k : Nat) (hx : x ≠ 0) (h0 : -9223372036854775808 ≤ x) (h1 : x ≤ 9223372036854775807) (hs : s.size ≤ 1000) :
    spec_FormatInt.l0 (k + 1) n s x = spec_FormatInt.l0 k n (strOfNums [((48 + x.natAbs % 10 : Nat) : Int)] ++ s) (Int.tdiv x 10) := by
  have hz : ∀ z : Int, (strOfNums [z]).size = 1 := fun z => rfl
  have hd : wrap64 (Int.tdiv x 10) = Int.tdiv x 10 := by
    have : -9223372036854775808 ≤ Int.tdiv x 10 ∧ Int.tdiv x 10 ≤ 9223372036854775807 := by
      rcases Int.le_total 0 x with g | g
      · rw [Int.tdiv_eq_ediv_of_nonneg g]; omega
      · obtain ⟨y, rfl⟩ : ∃ y, x = -y := ⟨-x, by omega⟩
        rw [Int.neg_tdiv, Int.tdiv_eq_ediv_of_nonneg (by omega)]; omega
    exact w64 this.1 this.2
  have hm : Int.tmod x 10 = if x < 0 then -((x.natAbs % 10 : Nat) : Int) else ((x.natAbs % 10 : Nat) : Int) := by
    split
    · rename_i g
      obtain ⟨y, rfl⟩ : ∃ y, x = -y := ⟨-x, by omega⟩
      rw [Int.neg_tmod, Int.tmod_eq_emod_of_nonneg (by omega)]; omega
    · rename_i g
      rw [Int.tmod_eq_emod_of_nonneg (by omega)]; omega
  simp only [spec_FormatInt.l0]
  rw [if_neg hx, hd]
  by_cases c : Int.tmod x 10 < 0
  · rw [if_pos c]
    have g : x < 0 := by
      rw [hm] at c; split at c
      · assumption
      · omega
    rw [hm, if_pos g]
    have e : (wrap64 (48 + wrap64 (- -((x.natAbs % 10 : Nat) : Int)))) % 256 = ((48 + x.natAbs % 10 : Nat) : Int) := by
      rw [Int.neg_neg, w64 (n := ((x.natAbs % 10 : Nat) : Int)) (by omega) (by omega), w64 (by omega) (by omega)]; omega
    simp only [e, Option.bind_some]
    rw [if_pos (by rw [hz]; omega)]
  · rw [if_neg c]
    have e2 : Int.tmod x 10 = ((x.natAbs % 10 : Nat) : Int) := by
      rw [hm] at c ⊢; split
      · rename_i g; rw [if_pos g] at c; omega
      · rfl
    rw [e2]
    have e : (wrap64 (48 + ((x.natAbs % 10 : Nat) : Int))) % 256 = ((48 + x.natAbs % 10 : Nat) : Int) := by
      rw [w64 (by omega) (by omega)]; omega
    simp only [e, Option.bind_some]
    rw [if_pos (by rw [hz]; omega)]
theorem fmt_end (n : Int) (s : ByteArray) (k : Nat) (hs : s.size ≤ 1000) : spec_FormatInt.l0 (k + 1) n s 0 = some ⟨(sg n ++ s.data.toList).toArray⟩ := by
  simp only [spec_FormatInt.l0]
  rw [if_pos trivial]
  unfold sg
  by_cases c : n < 0
  · rw [if_pos c, if_pos (by omega), if_pos c]
    exact congrArg some (ba_ext (by simp [ByteArray.data_append]))
  · rw [if_neg c, if_neg c]
    exact congrArg some (ba_ext (by simp))
theorem fmt_loop (n : Int) : ∀ (j : Nat) (x : Int) (s : ByteArray), x ≠ 0 → x.natAbs < 10 ^ j → -9223372036854775808 ≤ x → x ≤ 9223372036854775807 → s.size + j ≤ 1000 → ∀ k, j < k → spec_FormatInt.l0 k n s x = some ⟨(sg n ++ Lib.decDigits x.natAbs ++ s.data.toList).toArray⟩ := by
  intro j
  induction j with
  | zero => intro x s hx hb; exfalso; simp at hb; omega
  | succ j ih =>
    intro x s hx hb h0 h1 hs k hk
    obtain ⟨k, rfl⟩ : ∃ m, k = m + 1 := ⟨k - 1, by omega⟩
    rw [fmt_step n x s k hx h0 h1 (by omega)]
    have hd : (Int.tdiv x 10).natAbs = x.natAbs / 10 := by
      rw [Int.natAbs_tdiv]; rfl
    have hsz : (strOfNums [((48 + x.natAbs % 10 : Nat) : Int)] ++ s).size = 1 + s.size := by rw [ByteArray.size_append]; rfl
    have hdata : (strOfNums [((48 + x.natAbs % 10 : Nat) : Int)] ++ s).data.toList = UInt8.ofNat (48 + x.natAbs % 10) :: s.data.toList := by
      rw [ByteArray.data_append, Array.toList_append, strOfNums_data]; rfl
    by_cases c : x.natAbs < 10
    · have e0 : Int.tdiv x 10 = 0 := by
        have : (Int.tdiv x 10).natAbs = 0 := by rw [hd]; omega
        omega
      obtain ⟨k, rfl⟩ : ∃ m, k = m + 1 := ⟨k - 1, by omega⟩
      rw [e0, fmt_end n _ k (by rw [hsz]; omega), hdata, Lib.decDigits_one c]
      have : x.natAbs % 10 = x.natAbs := Nat.mod_eq_of_lt c
      rw [this]
      simp
    · have hne : Int.tdiv x 10 ≠ 0 := fun e => by
        have : (Int.tdiv x 10).natAbs = 0 := by rw [e]; rfl
        rw [hd] at this; omega
      have hb2 : (Int.tdiv x 10).natAbs < 10 ^ j := by
        rw [hd]; rw [Nat.pow_succ] at hb; omega
      have hr : -9223372036854775808 ≤ Int.tdiv x 10 ∧ Int.tdiv x 10 ≤ 9223372036854775807 := by omega
      rw [ih (Int.tdiv x 10) _ hne hb2 hr.1 hr.2 (by rw [hsz]; omega) k (by omega), hdata, hd]
      have hD : Lib.decDigits x.natAbs = Lib.decDigits (x.natAbs / 10) ++ [UInt8.ofNat (48 + x.natAbs % 10)] := by
        rw [Lib.decDigits, dif_neg c]
      rw [hD]
      simp
/-- The spec's text of a number is Go's own. -/
theorem s_fmt (n : Int) (h0 : -9223372036854775808 ≤ n) (h1 : n ≤ 9223372036854775807) (k : Nat) (hk : 20 < k) : spec_FormatInt.f k n = some ⟨(Lib.itoa n).toArray⟩ := by
  unfold spec_FormatInt.f Lib.itoa
  by_cases c : n = 0
  · subst c
    rw [if_pos rfl]
    have : Lib.decDigits 0 = [48] := Lib.decDigits_one (by decide)
    simp [this]
  · rw [if_neg c, fmt_loop n 20 n _ c (by omega) h0 h1 (by decide) k hk]
    unfold sg
    by_cases g : n < 0
    · rw [if_pos g, if_pos g]; simp
    · rw [if_neg g, if_neg g]
      have : n.natAbs = n.toNat := by omega
      rw [this]; simp
theorem i_fmt (n : Int) (h0 : -9223372036854775808 ≤ n) (h1 : n ≤ 9223372036854775807) : impl_FormatInt.f n = some ⟨(Lib.itoa n).toArray⟩ := by
  show Option.bind (if _ then some _ else none) _ = _
  rw [if_pos ⟨h0, h1⟩]; rfl
theorem tl_inj {a b : ByteArray} (h : a.toList = b.toList) : a = b := ba_ext (by rw [ByteArray.toList_eq, ByteArray.toList_eq] at h; exact h)
theorem bt_list (s : ByteArray) (i : Nat) (h : i < s.size) : ∃ c, s.data.toList[i]? = some c ∧ bt s (i : Int) = (c.toNat : Int) := by
  have hl : i < s.data.toList.length := by simpa using h
  refine ⟨s.data.toList[i], List.getElem?_eq_getElem hl, ?_⟩
  have e := bt_at s (i : Int) (by simpa using h)
  rw [← e]
  rfl
/-- What stands behind the loop. -/
def fin (s : ByteArray) (m : Int) : Int × Bool := if m > 1000000000000 then (0, false) else if (⟨(Lib.itoa m).toArray⟩ : ByteArray).toList = s.toList then (m, true) else (0, false)
theorem sp_run (s : ByteArray) (hs : s.size ≤ 13) : ∀ (d i acc : Nat), i + d = s.size → acc < 10 ^ i → ∀ k, d + 21 < k →
    spec_ParseInt.l0 k s (acc : Int) (i : Int) = some (match Lib.decFrom acc (s.data.toList.drop i) with | some m => fin s (m : Int) | none => (0, false)) := by
  intro d
  induction d with
  | zero =>
    intro i acc hi ha k hk
    obtain ⟨k, rfl⟩ : ∃ m, k = m + 1 := ⟨k - 1, by omega⟩
    have hp : 10 ^ i ≤ 10 ^ 13 := Nat.pow_le_pow_right (by decide) (by omega)
    have hnil : s.data.toList.drop i = [] := by
      apply List.drop_eq_nil_of_le; have : s.data.toList.length = s.size := Array.length_toList
      omega
    rw [hnil]
    simp only [spec_ParseInt.l0, Lib.decFrom]
    rw [if_neg (by omega)]
    unfold fin
    by_cases c : (acc : Int) > 1000000000000
    · rw [if_pos c, if_pos c]
    · rw [if_neg c, if_neg c, s_fmt (acc : Int) (by omega) (by omega) k (by omega)]
      simp only [Option.bind_some]
      by_cases c2 : (⟨(Lib.itoa (acc : Int)).toArray⟩ : ByteArray).toList = s.toList
      · rw [if_pos c2, if_pos c2]
      · rw [if_neg c2, if_neg c2]
  | succ d ih =>
    intro i acc hi ha k hk
    obtain ⟨k, rfl⟩ : ∃ m, k = m + 1 := ⟨k - 1, by omega⟩
    have hp : 10 ^ i ≤ 10 ^ 12 := Nat.pow_le_pow_right (by decide) (by omega)
    obtain ⟨c, hc, hb⟩ := bt_list s i (by omega)
    have hdrop : s.data.toList.drop i = c :: s.data.toList.drop (i + 1) := by
      have hl : i < s.data.toList.length := (List.getElem?_eq_some_iff.1 hc).1
      rw [List.drop_eq_getElem_cons hl]
      rw [List.getElem?_eq_getElem hl] at hc
      rw [Option.some.inj hc]
    have h8 : c.toNat ≤ 255 := by have := c.toNat_lt; omega
    rw [hdrop]
    simp only [spec_ParseInt.l0, Lib.decFrom, Lib.digitVal]
    rw [if_pos (by omega), if_pos (by omega), hb, w64 (n := (c.toNat : Int)) (by omega) (by omega), xIn]
    simp only [Option.bind_some]
    by_cases g : 48 ≤ c.toNat ∧ c.toNat ≤ 57
    · have g2 : (48 : Int) ≤ (c.toNat : Int) ∧ (c.toNat : Int) ≤ 57 := by omega
      simp only [g2, and_self, decide_true, if_true]
      rw [if_pos g]
      have e1 : wrap64 (wrap64 (10 * (acc : Int)) + ((c.toNat : Int) - 48) % 256) = ((acc * 10 + (c.toNat - 48) : Nat) : Int) := by
        rw [w64 (n := 10 * (acc : Int)) (by omega) (by omega), w64 (by omega) (by omega)]; omega
      have e2 : wrap64 ((i : Int) + 1) = ((i + 1 : Nat) : Int) := by rw [w64 (by omega) (by omega)]; omega
      rw [e1, e2]
      exact ih (i + 1) (acc * 10 + (c.toNat - 48)) (by omega) (by rw [Nat.pow_succ]; omega) k (by omega)
    · have g2 : ¬ ((48 : Int) ≤ (c.toNat : Int) ∧ (c.toNat : Int) ≤ 57) := by omega
      simp only [g2, decide_false, Bool.false_eq_true, if_false]
      rw [if_neg g]
theorem dec_app (l : List UInt8) (b : UInt8) : ∀ acc, Lib.decFrom acc (l ++ [b]) = (Lib.decFrom acc l).bind fun n => (Lib.digitVal b).map fun d => n * 10 + d := by
  induction l with
  | nil => intro acc; simp only [List.nil_append, Lib.decFrom]; cases Lib.digitVal b <;> rfl
  | cons c r ih =>
    intro acc
    simp only [List.cons_append, Lib.decFrom]
    cases Lib.digitVal c with
    | none => rfl
    | some d => exact ih _
theorem dig (d : Nat) (h : d < 10) : Lib.digitVal (UInt8.ofNat (48 + d)) = some d := by
  have : ∀ i : Fin 10, Lib.digitVal (UInt8.ofNat (48 + i.1)) = some i.1 := by decide
  exact this ⟨d, h⟩
theorem dec_dec (u : Nat) : Lib.decFrom 0 (Lib.decDigits u) = some u := by
  induction u using Nat.strongRecOn with
  | _ u ih =>
    by_cases c : u < 10
    · rw [Lib.decDigits_one c]; simp only [Lib.decFrom, dig u c]; simp
    · rw [Lib.decDigits, dif_neg c, dec_app, ih (u / 10) (by omega), dig (u % 10) (by omega)]
      simp only [Option.bind_some, Option.map_some, Option.some.injEq]; omega
theorem dec_len (j : Nat) : ∀ u, u < 10 ^ (j + 1) → (Lib.decDigits u).length ≤ j + 1 ∧ 1 ≤ (Lib.decDigits u).length := by
  induction j with
  | zero => intro u h; rw [Lib.decDigits_one (by simpa using h)]; simp
  | succ j ih =>
    intro u h
    by_cases c : u < 10
    · rw [Lib.decDigits_one c]; simp
    · have := ih (u / 10) (by rw [Nat.pow_succ] at h; omega)
      rw [Lib.decDigits, dif_neg c]
      simp only [List.length_append, List.length_cons, List.length_nil]; omega
/-- The number that a text is the numeral of. -/
def Num (s : ByteArray) (v : Int) : Prop := 0 ≤ v ∧ v ≤ 1000000000000 ∧ s = ⟨(Lib.itoa v).toArray⟩
theorem itoa_nat {v : Int} (h : 0 ≤ v) : Lib.itoa v = Lib.decDigits v.toNat := by unfold Lib.itoa; rw [if_neg (by omega)]
theorem num_size {s : ByteArray} {v : Int} (h : Num s v) : 1 ≤ s.size ∧ s.size ≤ 13 := by
  obtain ⟨h0, h1, rfl⟩ := h
  have := dec_len 12 v.toNat (by omega)
  rw [itoa_nat h0]
  show 1 ≤ (Lib.decDigits v.toNat).toArray.size ∧ (Lib.decDigits v.toNat).toArray.size ≤ 13
  simp only [List.size_toArray]; omega
theorem s_pint (s : ByteArray) (k : Nat) (hk : 40 < k) : ∃ R : Int × Bool, spec_ParseInt.f k s = some R ∧ ((R.2 = true ∧ Num s R.1) ∨ (R = (0, false) ∧ ∀ v, ¬ Num s v)) := by
  unfold spec_ParseInt.f
  rw [xIn]
  simp only [Option.bind_some]
  by_cases c : (1 : Int) ≤ (s.size : Int) ∧ (s.size : Int) ≤ 13
  · simp only [c, and_self, decide_true, if_true]
    have e := sp_run s (by omega) s.size 0 0 (by omega) (by decide) k (by omega)
    rw [List.drop_zero] at e
    refine ⟨_, e, ?_⟩
    have hnum : ∀ v, Num s v → Lib.decFrom 0 s.data.toList = some v.toNat := by
      rintro v ⟨h0, h1, rfl⟩
      show Lib.decFrom 0 ((Lib.itoa v).toArray.toList) = _
      rw [List.toList_toArray, itoa_nat h0]; exact dec_dec _
    cases hd : Lib.decFrom 0 s.data.toList with
    | none => exact .inr ⟨rfl, fun v hv => by rw [hnum v hv] at hd; cases hd⟩
    | some m =>
      simp only
      unfold fin
      by_cases c1 : (m : Int) > 1000000000000
      · rw [if_pos c1]
        refine .inr ⟨rfl, fun v hv => ?_⟩
        have := hnum v hv
        rw [hd] at this
        have e2 := Option.some.inj this
        have := hv.2.1; have := hv.1; omega
      · rw [if_neg c1]
        by_cases c2 : (⟨(Lib.itoa (m : Int)).toArray⟩ : ByteArray).toList = s.toList
        · rw [if_pos c2]; exact .inl ⟨rfl, by omega, by omega, (tl_inj c2).symm⟩
        · rw [if_neg c2]
          refine .inr ⟨rfl, fun v hv => c2 ?_⟩
          have h2 := hnum v hv
          rw [hd] at h2
          have e2 : v = (m : Int) := by have := Option.some.inj h2; have := hv.1; omega
          rw [← e2]; exact congrArg ByteArray.toList hv.2.2.symm
  · simp only [c, decide_false, Bool.false_eq_true, if_false]
    exact ⟨_, rfl, .inr ⟨rfl, fun v hv => c (by have := num_size hv; omega)⟩⟩
theorem i_pint (s : ByteArray) (hs : s.size ≤ 1048576) : ∃ R : Int × Bool, impl_ParseInt.f s = some R ∧ ((R.2 = true ∧ Num s R.1) ∨ (R = (0, false) ∧ ∀ v, ¬ Num s v)) := by
  have hnum : ∀ v, Num s v → Lib.atoiAll s.data.toList = .ok v := by
    intro v hv
    have hz := num_size hv
    obtain ⟨h0, h1, rfl⟩ := hv
    show Lib.atoiAll ((Lib.itoa v).toArray.toList) = _
    have hl : (Lib.itoa v).length ≤ 13 := by have := hz.2; simpa [ByteArray.size] using this
    have hl1 : 1 ≤ (Lib.itoa v).length := by have := hz.1; simpa [ByteArray.size] using this
    rw [List.toList_toArray, Lib.atoiAll_short _ (by omega), itoa_nat h0] at *
    have hd := dec_dec v.toNat
    cases hL : Lib.decDigits v.toNat with
    | nil => rw [hL] at hl1; simp at hl1
    | cons b r =>
      rw [hL] at hd
      have hb : 48 ≤ b.toNat ∧ b.toNat ≤ 57 := by
        simp only [Lib.decFrom, Lib.digitVal] at hd
        by_cases g : 48 ≤ b.toNat ∧ b.toNat ≤ 57
        · exact g
        · rw [if_neg g] at hd; cases hd
      have n1 : (b == 45) = false := beq_eq_false_iff_ne.mpr (fun e => by subst e; revert hb; decide)
      have n2 : (b == 43) = false := beq_eq_false_iff_ne.mpr (fun e => by subst e; revert hb; decide)
      simp only [Lib.atoi, n1, n2, Bool.false_eq_true, if_false, Lib.decNat, List.isEmpty_cons, hd, Option.map_some, Lib.NumEnd.ofOption]
      congr 1; omega
  unfold impl_ParseInt.f
  rw [if_pos (by omega)]
  rcases hA : Lib.atoiAll s.data.toList with v | _ | _
  rotate_left
  iterate 2 exact ⟨_, rfl, .inr ⟨rfl, fun u hu => by have := hnum u hu; rw [hA] at this; cases this⟩⟩
  · skip
    have hb := Lib.atoiAll_bounds hA
    simp only [i_fmt v hb.1 hb.2, Option.bind_some]
    have huniq : ∀ u, Num s u → u = v := fun u hu => by have := hnum u hu; rw [hA] at this; injection this with this; exact this.symm
    by_cases c : (⟨(Lib.itoa v).toArray⟩ : ByteArray).toList = s.toList
    · rw [if_pos c]
      by_cases c1 : 0 ≤ v
      · rw [if_pos c1]
        by_cases c2 : v ≤ 1000000000000
        · rw [if_pos c2]; exact ⟨_, rfl, .inl ⟨rfl, c1, c2, (tl_inj c).symm⟩⟩
        · rw [if_neg c2]; exact ⟨_, rfl, .inr ⟨rfl, fun u hu => c2 (huniq u hu ▸ hu.2.1)⟩⟩
      · rw [if_neg c1]; exact ⟨_, rfl, .inr ⟨rfl, fun u hu => c1 (huniq u hu ▸ hu.1)⟩⟩
    · rw [if_neg c]; exact ⟨_, rfl, .inr ⟨rfl, fun u hu => c (by rw [← huniq u hu]; exact congrArg ByteArray.toList hu.2.2.symm)⟩⟩
theorem num_one {s : ByteArray} {u v : Int} (hu : Num s u) (hv : Num s v) : u = v := by
  have e : (⟨(Lib.itoa u).toArray⟩ : ByteArray) = ⟨(Lib.itoa v).toArray⟩ := hu.2.2.symm.trans hv.2.2
  have e2 : Lib.itoa u = Lib.itoa v := by
    have := congrArg (fun b : ByteArray => b.data.toList) e
    simpa using this
  rw [itoa_nat hu.1, itoa_nat hv.1] at e2
  have a := dec_dec u.toNat
  rw [e2, dec_dec] at a
  have := Option.some.inj a; have := hu.1; have := hv.1; omega
theorem FnExactParseInt : laws_FnExactParseInt.Pure := by
  intro s _
  refine ⟨41, ?_⟩
  unfold laws_FnExactParseInt.f
  by_cases c : (s.size : Int) > 1048576
  · rw [if_pos c]
  · rw [if_neg c]
    obtain ⟨⟨r1, r2⟩, h1, g1⟩ := s_pint s 41 (by decide)
    obtain ⟨⟨q1, q2⟩, h2, g2⟩ := i_pint s (by omega)
    simp only [h1, h2, Option.bind_some]
    have e : q1 = r1 ∧ q2 = r2 := by
      rcases g1 with ⟨a, b⟩ | ⟨a, b⟩
      · rcases g2 with ⟨a2, b2⟩ | ⟨a2, b2⟩
        · exact ⟨num_one b2 b, (show q2 = true from a2).trans (show r2 = true from a).symm⟩
        · exact absurd b (b2 _)
      · rcases g2 with ⟨a2, b2⟩ | ⟨a2, b2⟩
        · exact absurd b2 (b _)
        · simp only [Prod.mk.injEq] at a a2; exact ⟨a2.1.trans a.1.symm, a2.2.trans a.2.symm⟩
    obtain ⟨rfl, rfl⟩ := e
    simp

end Go.Proofs.YtkkagnedflfcjaaDoor.Pure
