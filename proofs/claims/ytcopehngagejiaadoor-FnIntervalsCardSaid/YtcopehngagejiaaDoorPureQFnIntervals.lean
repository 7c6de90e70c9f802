/- The law FnIntervals returns true for each input of bytes. Conditions: each number is a byte; the reach of memory. -/
import Derived.Test.YtcopehngagejiaaDoorQFnIntervalsx9
import Derived.Test.YtcopehngagejiaaDoorLib
import Derived.Test.YtcopehngagejiaaDoorDraw
namespace Go.Proofs.YtcopehngagejiaaDoor.Pure
open Go.RowKit Go.Proofs.YtcopehngagejiaaDoor.QFnIntervals Go.Proofs.YtcopehngagejiaaDoorW.PrintWords Go.Proofs.YtcopehngagejiaaDoorW.PrintLast Go.Proofs.YtcopehngagejiaaDoorW.PrintMore Go.Proofs.YtcopehngagejiaaDoor.Lib Go.Proofs.YtcopehngagejiaaDoor.Var Go.Proofs.YtcopehngagejiaaDoor.Draw

set_option linter.unusedSimpArgs false
theorem i_In (a l h : Int) : impl_InRange.f a l h = some (decide (l ≤ a ∧ a ≤ h)) := by
  unfold impl_InRange.f; by_cases e : l ≤ a <;> simp [e]
def hv (s : Int) : Int := rd [0, 2, 4, 5, 7, 9, 11] s
theorem hv_bd {s : Int} (h0 : 0 ≤ s) (h1 : s ≤ 6) : 0 ≤ hv s ∧ hv s ≤ 11 := by
  have : s = 0 ∨ s = 1 ∨ s = 2 ∨ s = 3 ∨ s = 4 ∨ s = 5 ∨ s = 6 := by omega
  rcases this with rfl | rfl | rfl | rfl | rfl | rfl | rfl <;> decide
def pv (s a o : Int) : Int := 12 * (o + 1) + hv s + a
def isN (s a o : Int) : Bool := decide ((0 ≤ s ∧ s ≤ 6) ∧ (-2 ≤ a ∧ a ≤ 2) ∧ (0 ≤ o ∧ o ≤ 8) ∧ (12 ≤ pv s a o ∧ pv s a o ≤ 120))
theorem isN_pos {s a o : Int} (h : isN s a o = true) : (0 ≤ s ∧ s ≤ 6) ∧ (-2 ≤ a ∧ a ≤ 2) ∧ (0 ≤ o ∧ o ≤ 8) ∧ (12 ≤ pv s a o ∧ pv s a o ≤ 120) := by unfold isN at h; exact of_decide_eq_true h
theorem i_pitch {s a o : Int} (h0 : 0 ≤ s) (h1 : s ≤ 6) (a0 : -1000000 ≤ a) (a1 : a ≤ 1000000) (o0 : -1000000 ≤ o) (o1 : o ≤ 1000000) : impl_Note_pitch.f s a o = some (pv s a o) := by
  have hb := hv_bd h0 h1
  unfold impl_Note_pitch.f impl_halves.f
  rw [if_pos h0, if_pos (by omega)]
  simp only [Option.bind_some]
  rw [show rd [0, 2, 4, 5, 7, 9, 11] s = hv s from rfl, w64 (n := o + 1) (by omega) (by omega), w64 (n := 12 * (o + 1)) (by omega) (by omega), w64 (n := 12 * (o + 1) + a) (by omega) (by omega), w64 (by omega) (by omega)]
  unfold pv; congr 1; omega
theorem i_isN (s a o : Int) : impl_IsNote.f s a o = some (isN s a o) := by
  unfold impl_IsNote.f isN
  by_cases h1 : 0 ≤ s ∧ s ≤ 6
  · by_cases h2 : -2 ≤ a ∧ a ≤ 2
    · by_cases h3 : 0 ≤ o ∧ o ≤ 8
      · simp only [i_In, h1, h2, h3, Option.bind_some, if_true, and_self, decide_true, true_and]
        rw [i_pitch h1.1 h1.2 (by omega) (by omega) (by omega) (by omega)]
        rfl
      · simp only [i_In, h1, h2, h3, Option.bind_some, if_true, and_self, decide_true, decide_false, false_and, and_false, Bool.false_eq_true, if_false]
    · simp only [i_In, h1, h2, Option.bind_some, if_true, and_self, decide_true, decide_false, false_and, and_false, Bool.false_eq_true, if_false]
  · simp only [i_In, h1, Option.bind_some, decide_false, false_and, Bool.false_eq_true, if_false]
def mvn (a b c st h : Int) : Int × Int × Int × Bool := if isN a b c = true ∧ ((-1000 ≤ st ∧ st ≤ 1000) ∧ (-1000 ≤ h ∧ h ≤ 1000)) ∧ 0 ≤ 7 * c + a + st then (if isN ((7 * c + a + st) % 7) (pv a b c + h - pv ((7 * c + a + st) % 7) 0 ((7 * c + a + st) / 7)) ((7 * c + a + st) / 7) = true then ((7 * c + a + st) % 7, pv a b c + h - pv ((7 * c + a + st) % 7) 0 ((7 * c + a + st) / 7), (7 * c + a + st) / 7, true) else (0, 0, 0, false)) else (0, 0, 0, false)
theorem i_mvn (a b c st h : Int) : Ev (fun k => impl_MoveNote.f k a b c st h) (mvn a b c st h) := by
  refine rounds_of (d := 0) (fun k hk => ?_)
  obtain ⟨k, rfl⟩ : ∃ m, k = m + 1 := ⟨k - 1, by omega⟩
  unfold impl_MoveNote.f impl_isSmall.f mvn
  simp only [Option.bind_some, i_isN, i_In]
  by_cases h0 : isN a b c = true
  · by_cases h1 : -1000 ≤ st ∧ st ≤ 1000
    · by_cases h2 : -1000 ≤ h ∧ h ≤ 1000
      · have p := isN_pos h0
        simp only [h0, h1, h2, if_true, and_self, decide_true, Option.bind_some, Bool.not_true, impl_MoveNote.j0, Bool.false_eq_true, if_false, true_and]
        rw [w64 (n := 7 * c) (by omega) (by omega), w64 (n := 7 * c + a) (by omega) (by omega), w64 (n := 7 * c + a + st) (by omega) (by omega)]
        by_cases h3 : 7 * c + a + st < 0
        · rw [if_pos h3, if_neg (by omega)]
        · rw [if_neg h3, if_pos (by omega)]
          have hm0 : 0 ≤ (7 * c + a + st) % 7 := by omega
          have hm1 : (7 * c + a + st) % 7 ≤ 6 := by omega
          have hd0 : 0 ≤ (7 * c + a + st) / 7 := by omega
          have hd1 : (7 * c + a + st) / 7 ≤ 1000 := by omega
          have hq := hv_bd hm0 hm1
          rw [Int.tmod_eq_emod_of_nonneg (by omega), Int.tdiv_eq_ediv_of_nonneg (by omega), w64 (n := (7 * c + a + st) / 7) (by omega) (by omega)]
          generalize (7 * c + a + st) % 7 = m at *
          generalize (7 * c + a + st) / 7 = q at *
          have hpv : pv m 0 q = 12 * (q + 1) + hv m + 0 := rfl
          simp only [i_pitch p.1.1 p.1.2 (show -1000000 ≤ b by omega) (by omega) (show -1000000 ≤ c by omega) (by omega), i_pitch hm0 hm1 (show -1000000 ≤ (0 : Int) by omega) (by omega) (show -1000000 ≤ q by omega) (by omega), Option.bind_some]
          rw [w64 (n := pv a b c + h) (by omega) (by omega), w64 (by omega) (by omega)]
          rw [i_isN, Option.bind_some]; split <;> rfl
      · simp only [h0, h1, h2, if_true, and_self, decide_true, decide_false, Option.bind_some, Bool.not_false, impl_MoveNote.j0, Bool.false_eq_true, if_false, and_false, false_and]
    · simp only [h0, h1, if_true, and_self, decide_true, decide_false, Option.bind_some, Bool.not_false, impl_MoveNote.j0, Bool.false_eq_true, if_false, and_false, false_and]
  · simp only [h0, Bool.false_eq_true, if_false, impl_MoveNote.j0, if_true, false_and]
def btw (a b c d e f : Int) : Int × Int × Bool := if isN a b c = true ∧ isN d e f = true then (7 * f + d - 7 * c - a, pv d e f - pv a b c, true) else (0, 0, false)
theorem i_btw (a b c d e f : Int) : Ev (fun k => impl_Between.f k a b c d e f) (btw a b c d e f) := by
  refine rounds_of (d := 0) (fun k hk => ?_)
  obtain ⟨k, rfl⟩ : ∃ m, k = m + 1 := ⟨k - 1, by omega⟩
  unfold impl_Between.f btw
  simp only [Option.bind_some, i_isN]
  cases h : isN a b c
  · simp [impl_Between.j0]
  · cases h2 : isN d e f
    · simp [impl_Between.j0]
    · have p := isN_pos h
      have q := isN_pos h2
      simp only [if_true, Bool.not_true, impl_Between.j0, Bool.false_eq_true, if_false, i_pitch p.1.1 p.1.2 (show -1000000 ≤ b by omega) (by omega) (show -1000000 ≤ c by omega) (by omega), i_pitch q.1.1 q.1.2 (show -1000000 ≤ e by omega) (by omega) (show -1000000 ≤ f by omega) (by omega), Option.bind_some, and_self]
      rw [w64 (n := 7 * f) (by omega) (by omega), w64 (n := 7 * c) (by omega) (by omega), w64 (n := 7 * f + d) (by omega) (by omega), w64 (n := 7 * f + d - 7 * c) (by omega) (by omega), w64 (n := 7 * f + d - 7 * c - a) (by omega) (by omega), w64 (by omega) (by omega)]
theorem s_In (a l h : Int) : spec_l1In.f a l h = some (decide (l ≤ a ∧ a ≤ h)) := by
  unfold spec_l1In.f; by_cases e : l ≤ a <;> simp [e]
theorem s_pitch {s a o : Int} (h0 : 0 ≤ s) (h1 : s ≤ 6) (a0 : -1000000 ≤ a) (a1 : a ≤ 1000000) (o0 : -1000000 ≤ o) (o1 : o ≤ 1000000) : spec_l5Pitch.f s a o = some (pv s a o) := by
  have hb := hv_bd h0 h1
  unfold spec_l5Pitch.f spec_l5Base.f
  simp only [Option.bind_some]
  rw [if_pos h0, if_pos (by simp; omega)]
  rw [show rd [0, 2, 4, 5, 7, 9, 11] s = hv s from rfl, w64 (n := o + 1) (by omega) (by omega), w64 (n := 12 * (o + 1)) (by omega) (by omega), w64 (n := 12 * (o + 1) + hv s) (by omega) (by omega), w64 (by omega) (by omega)]
  rfl
theorem s_isN (s a o : Int) : spec_IsNote.f s a o = some (isN s a o) := by
  unfold spec_IsNote.f isN
  by_cases h1 : 0 ≤ s ∧ s ≤ 6
  · by_cases h2 : -2 ≤ a ∧ a ≤ 2
    · by_cases h3 : 0 ≤ o ∧ o ≤ 8
      · simp only [s_In, h1, h2, h3, Option.bind_some, if_true, and_self, decide_true, true_and]
        rw [s_pitch h1.1 h1.2 (by omega) (by omega) (by omega) (by omega)]
        rfl
      · simp only [s_In, h1, h2, h3, Option.bind_some, if_true, and_self, decide_true, decide_false, false_and, and_false, Bool.false_eq_true, if_false]
    · simp only [s_In, h1, h2, Option.bind_some, if_true, and_self, decide_true, decide_false, false_and, and_false, Bool.false_eq_true, if_false]
  · simp only [s_In, h1, Option.bind_some, decide_false, false_and, Bool.false_eq_true, if_false]
theorem s_btw (a b c d e f : Int) : Ev (fun k => spec_Between.f k a b c d e f) (btw a b c d e f) := by
  refine rounds_of (d := 0) (fun k hk => ?_)
  obtain ⟨k, rfl⟩ : ∃ m, k = m + 1 := ⟨k - 1, by omega⟩
  unfold spec_Between.f btw
  simp only [Option.bind_some, s_isN]
  cases h : isN a b c
  · simp [spec_Between.j0]
  · cases h2 : isN d e f
    · simp [spec_Between.j0]
    · have p := isN_pos h
      have q := isN_pos h2
      simp only [if_true, Bool.not_true, spec_Between.j0, Bool.false_eq_true, if_false, s_pitch p.1.1 p.1.2 (show -1000000 ≤ b by omega) (by omega) (show -1000000 ≤ c by omega) (by omega), s_pitch q.1.1 q.1.2 (show -1000000 ≤ e by omega) (by omega) (show -1000000 ≤ f by omega) (by omega), Option.bind_some, and_self]
      rw [w64 (n := 7 * f) (by omega) (by omega), w64 (n := 7 * c) (by omega) (by omega), w64 (n := 7 * f + d) (by omega) (by omega), w64 (n := 7 * f + d - 7 * c) (by omega) (by omega), w64 (n := 7 * f + d - 7 * c - a) (by omega) (by omega), w64 (by omega) (by omega)]
theorem big_le (l : List Int) : laws_big.f l = some (decide ((l.length : Int) > 1048576)) := rfl
theorem d_New (l : List Int) (hl : l.length ≤ 1048576) : ∃ h, Ev (fun k => spec_l1New.f k l) (l, 0, h) := by
  unfold spec_l1New.f
  exact new_loop (L := fun k h i => spec_l1New.l0 k l h i) (M := fun h i => Go.bits .and .i64 (wrap64 ((wrap64 ((wrap64 (h * 137)) + (wrap64 (rd l i)))) + 11)) 1073741823) l (by omega) (fun k h i => by simp only [spec_l1New.l0]) l.length 0 _ (by omega)
theorem d_Byte (b : List Int) (hl : b.length ≤ 1048576) (i h : Int) (h0 : 0 ≤ i) (h1 : i ≤ (b.length : Int)) : Ok (spec_l1Byte.f b i h) b.length fun v => 0 ≤ v ∧ v ≤ 255 := by
  unfold spec_l1Byte.f
  refine Ok.ite (fun g => ?_) (fun g => ?_)
  · rw [if_pos h0, w64 (n := i + 1) (by omega) (by omega)]
    exact Ok.now (by omega) (by omega) (and255 _)
  · exact Ok.now h0 h1 (and255 _)
theorem d_Below (b : List Int) (hl : b.length ≤ 1048576) (n i h : Int) (h0 : 0 ≤ i) (h1 : i ≤ (b.length : Int)) : Ok (spec_l1Below.f b i h n) b.length fun v => 0 ≤ v ∧ (0 < n → v < n) ∧ (n ≤ 0 → v = 0) := by
  unfold spec_l1Below.f
  refine Ok.ite (fun g => Ok.now h0 h1 (by omega)) (fun g => Ok.ite (fun g2 => ?_) (fun g2 => ?_))
  · refine Ok.bind (d_Byte b hl i h h0 h1) (fun v i h h0 h1 hv => ?_)
    dsimp only
    rw [if_neg (by omega)]
    have := tmod_bd (x := v) (n := n) (by omega) (by omega)
    exact Ok.now h0 h1 (by omega)
  · refine Ok.bind (d_Byte b hl i h h0 h1) (fun x i h h0 h1 hx => ?_)
    refine Ok.bind (d_Byte b hl i h h0 h1) (fun y i h h0 h1 hy => ?_)
    refine Ok.bind (d_Byte b hl i h h0 h1) (fun z i h h0 h1 hz => ?_)
    dsimp only
    rw [if_neg (by omega), w64 (n := x * 65536) (by omega) (by omega), w64 (n := y * 256) (by omega) (by omega), w64 (n := x * 65536 + y * 256) (by omega) (by omega), w64 (n := x * 65536 + y * 256 + z) (by omega) (by omega)]
    have := tmod_bd (x := x * 65536 + y * 256 + z) (n := n) (by omega) (by omega)
    exact Ok.now h0 h1 (by omega)
theorem d_Int (b : List Int) (hl : b.length ≤ 1048576) (l : List Int) (hn : 0 < l.length) (i h : Int) (h0 : 0 ≤ i) (h1 : i ≤ (b.length : Int)) : Ok (spec_l1Int.f b i h l) b.length fun v => v ∈ l := by
  unfold spec_l1Int.f
  refine Ok.bind (d_Below b hl _ i h h0 h1) (fun v i h h0 h1 hv => ?_)
  dsimp only
  rw [if_pos (by omega), if_pos (by omega)]
  exact Ok.now h0 h1 (rd_mem (by omega) (by omega))
theorem d_5Draw (b : List Int) (hl : b.length ≤ 1048576) (i h : Int) (h0 : 0 ≤ i) (h1 : i ≤ (b.length : Int)) : ∃ x y z i' h', spec_l5Draw.f b i h = some (x, y, z, i', h') ∧ 0 ≤ i' ∧ i' ≤ (b.length : Int) := by
  obtain ⟨v1, i1, g1, e1, a1, b1, _⟩ := d_Below b hl 7 i h h0 h1
  obtain ⟨v2, i2, g2, e2, a2, b2, _⟩ := d_Below b hl 3 i1 g1 a1 b1
  obtain ⟨v3, i3, g3, e3, a3, b3, _⟩ := d_Below b hl 3 i2 g2 a2 b2
  refine ⟨v1, wrap64 (v2 - 1), wrap64 (3 + v3), i3, g3, ?_, a3, b3⟩
  unfold spec_l5Draw.f
  simp only [e1, e2, e3, Option.bind_some]
theorem d_5Any (b : List Int) (hl : b.length ≤ 1048576) (i h : Int) (h0 : 0 ≤ i) (h1 : i ≤ (b.length : Int)) : ∃ x y z i' h', spec_l5Any.f b i h = some (x, y, z, i', h') ∧ 0 ≤ i' ∧ i' ≤ (b.length : Int) := by
  obtain ⟨x, y, z, i1, g1, e1, a1, b1⟩ := d_5Draw b hl i h h0 h1
  obtain ⟨v2, i2, g2, e2, a2, b2, _⟩ := d_Below b hl 9 i1 g1 a1 b1
  unfold spec_l5Any.f
  simp only [e1, e2, Option.bind_some]
  by_cases c0 : v2 = 0
  · obtain ⟨v3, i3, g3, e3, a3, b3, _⟩ := d_Int b hl [(-1), 6, 7] (by decide) i2 g2 a2 b2
    rw [if_pos c0, e3]; exact ⟨_, _, _, i3, g3, rfl, a3, b3⟩
  · rw [if_neg c0]
    by_cases c1 : v2 = 1
    · obtain ⟨v3, i3, g3, e3, a3, b3, _⟩ := d_Int b hl [(-3), (-2), 2, 3] (by decide) i2 g2 a2 b2
      rw [if_pos c1, e3]; exact ⟨_, _, _, i3, g3, rfl, a3, b3⟩
    · rw [if_neg c1]
      by_cases c2 : v2 = 2
      · obtain ⟨v3, i3, g3, e3, a3, b3, _⟩ := d_Int b hl [(-1), 0, 8, 9] (by decide) i2 g2 a2 b2
        rw [if_pos c2, e3]; exact ⟨_, _, _, i3, g3, rfl, a3, b3⟩
      · rw [if_neg c2]; exact ⟨_, _, _, i2, g2, rfl, a2, b2⟩
theorem d_Once (b : List Int) (hl : b.length ≤ 1048576) (n i h : Int) (h0 : 0 ≤ i) (h1 : i ≤ (b.length : Int)) : Ok (spec_l1Once.f b i h n) b.length fun _ => True := by
  unfold spec_l1Once.f
  exact Ok.bind (d_Below b hl n i h h0 h1) (fun v i h h0 h1 _ => Ok.now h0 h1 trivial)
theorem d_6Draw (b : List Int) (hl : b.length ≤ 1048576) (i h : Int) (h0 : 0 ≤ i) (h1 : i ≤ (b.length : Int)) : ∃ x y i' h', spec_l6Draw.f b i h = some (x, y, i', h') ∧ 0 ≤ i' ∧ i' ≤ (b.length : Int) := by
  obtain ⟨v1, i1, g1, e1, a1, b1, _⟩ := d_Below b hl 15 i h h0 h1
  obtain ⟨v2, i2, g2, e2, a2, b2, _⟩ := d_Below b hl 25 i1 g1 a1 b1
  unfold spec_l6Draw.f
  simp only [e1, e2, Option.bind_some]
  generalize hL : ([_, _, _, _] : List Int) = L
  obtain ⟨v3, i3, g3, e3, a3, b3, _⟩ := d_Int b hl L (by rw [← hL]; simp) i2 g2 a2 b2
  rw [e3]; exact ⟨_, _, i3, g3, rfl, a3, b3⟩
theorem d_4Raw (b : List Int) (hl : b.length ≤ 1048576) (i h : Int) (h0 : 0 ≤ i) (h1 : i ≤ (b.length : Int)) : Ok (spec_l4Raw.f b i h) b.length fun v => -9223372036854775808 ≤ v ∧ v ≤ 9223372036854775807 := by
  unfold spec_l4Raw.f
  refine Ok.bind (d_Int b hl _ (by decide) i h h0 h1) (fun v i h h0 h1 hv => Ok.now h0 h1 ?_)
  simp only [List.mem_cons, List.not_mem_nil, or_false] at hv
  dsimp only at hv ⊢; omega
theorem d_6Any (b : List Int) (hl : b.length ≤ 1048576) (i h : Int) (h0 : 0 ≤ i) (h1 : i ≤ (b.length : Int)) : ∃ x y i' h', spec_l6Any.f b i h = some (x, y, i', h') ∧ 0 ≤ i' ∧ i' ≤ (b.length : Int) := by
  obtain ⟨x, y, i1, g1, e1, a1, b1⟩ := d_6Draw b hl i h h0 h1
  obtain ⟨v2, i2, g2, e2, a2, b2, _⟩ := d_Below b hl 9 i1 g1 a1 b1
  obtain ⟨v3, i3, g3, e3, a3, b3, _⟩ := d_4Raw b hl i2 g2 a2 b2
  unfold spec_l6Any.f
  simp only [e1, e2, e3, Option.bind_some]
  by_cases c0 : v2 = 0
  · rw [if_pos c0]; exact ⟨_, _, i3, g3, rfl, a3, b3⟩
  · rw [if_neg c0]
    by_cases c1 : v2 = 1
    · rw [if_pos c1]; exact ⟨_, _, i3, g3, rfl, a3, b3⟩
    · rw [if_neg c1]; exact ⟨_, _, i2, g2, rfl, a2, b2⟩
theorem d_DrawBetween (l : List Int) (hl : l.length ≤ 1048576) : ∃ a b c d e f, Ev (fun k => spec_DrawBetween.f k l) (a, b, c, d, e, f) := by
  obtain ⟨h, e⟩ := d_New l hl
  obtain ⟨x, y, z, i1, h1, e1, a1, b1⟩ := d_5Any l hl 0 h (by omega) (by omega)
  obtain ⟨x2, y2, z2, i2, h2, e2, a2, b2⟩ := d_5Any l hl i1 h1 a1 b1
  obtain ⟨K1, e⟩ := evo e
  refine ⟨x, y, z, x2, y2, z2, K1, fun k hk => ?_⟩
  show spec_DrawBetween.f k l = _
  unfold spec_DrawBetween.f
  simp only [e k (by omega), e1, e2, Option.bind_some]
theorem d_DrawMoveNote (l : List Int) (hl : l.length ≤ 1048576) : ∃ a b c d e, Ev (fun k => spec_DrawMoveNote.f k l) (a, b, c, d, e) := by
  obtain ⟨h, e⟩ := d_New l hl
  obtain ⟨x, y, z, i1, h1, e1, a1, b1⟩ := d_5Any l hl 0 h (by omega) (by omega)
  obtain ⟨x2, y2, z2, i2, h2, e2, a2, b2⟩ := d_5Draw l hl i1 h1 a1 b1
  obtain ⟨K1, e⟩ := evo e
  obtain ⟨K2, e3⟩ := evo (s_btw x y z x2 y2 z2)
  obtain ⟨o, i4, h4, e4, a4, b4, _⟩ := d_Once l hl 2 i2 h2 a2 b2
  obtain ⟨p, q, i5, h5, e5, a5, b5⟩ := d_6Any l hl i4 h4 a4 b4
  obtain ⟨p2, q2, i6, h6, e6, a6, b6⟩ := d_6Any l hl i2 h2 a2 b2
  have main : ∃ r, ∀ k, K1 + K2 ≤ k → spec_DrawMoveNote.f k l = some r := by
    by_cases c : (btw x y z x2 y2 z2).2.2 = true
    · by_cases c2 : o = true
      · refine ⟨(x, y, z, (btw x y z x2 y2 z2).1, (btw x y z x2 y2 z2).2.1), fun k hk => ?_⟩
        unfold spec_DrawMoveNote.f
        simp only [e k (by omega), e1, e2, e3 k (by omega), e4, Option.bind_some]
        rw [if_pos c, if_pos c2]
      · refine ⟨(x, y, z, p, q), fun k hk => ?_⟩
        unfold spec_DrawMoveNote.f
        simp only [e k (by omega), e1, e2, e3 k (by omega), e4, e5, Option.bind_some]
        rw [if_pos c, if_neg c2]
    · refine ⟨(x, y, z, p2, q2), fun k hk => ?_⟩
      unfold spec_DrawMoveNote.f
      simp only [e k (by omega), e1, e2, e3 k (by omega), e6, Option.bind_some]
      rw [if_neg c]
  obtain ⟨⟨r1, r2, r3, r4, r5⟩, hr⟩ := main
  exact ⟨r1, r2, r3, r4, r5, K1 + K2, hr⟩
theorem d_DrawIntervalText (l : List Int) (hl : l.length ≤ 1048576) : ∃ a b, Ev (fun k => spec_DrawIntervalText.f k l) (a, b) := by
  obtain ⟨h, e⟩ := d_New l hl
  obtain ⟨o, i1, h1, e1, a1, b1, _⟩ := d_Once l hl 2 0 h (by omega) (by omega)
  obtain ⟨v, i2, h2, e2, a2, b2, p2⟩ := d_Below l hl 9 i1 h1 a1 b1
  obtain ⟨u, i3, h3, e3, a3, b3, _⟩ := d_Below l hl 6 i2 h2 a2 b2
  obtain ⟨p, q, i5, h5, e5, a5, b5⟩ := d_6Any l hl i1 h1 a1 b1
  obtain ⟨K1, e⟩ := evo e
  have main : ∃ r, ∀ k, K1 ≤ k → spec_DrawIntervalText.f k l = some r := by
    by_cases c : o = true
    · refine ⟨(v, wrap64 ((wrap64 ((rd [0, 2, 4, 5, 7, 9, 11, 12, 14] v) + u)) - 3)), fun k hk => ?_⟩
      unfold spec_DrawIntervalText.f
      simp only [e k (by omega), e1, Option.bind_some]
      rw [if_pos c]
      simp only [e2, Option.bind_some]
      rw [if_pos (by omega), if_pos (by simp; omega)]
      simp only [e3, Option.bind_some]
    · refine ⟨(p, q), fun k hk => ?_⟩
      unfold spec_DrawIntervalText.f
      simp only [e k (by omega), e1, Option.bind_some]
      rw [if_neg c]
      simp only [e5, Option.bind_some]
  obtain ⟨⟨r1, r2⟩, hr⟩ := main
  exact ⟨r1, r2, K1, hr⟩
theorem mvn_to {a b c d e f : Int} (h1 : isN a b c = true) (h2 : isN d e f = true) : mvn a b c (7 * f + d - 7 * c - a) (pv d e f - pv a b c) = (d, e, f, true) := by
  have p := isN_pos h1
  have q := isN_pos h2
  unfold mvn
  have e1 : 7 * c + a + (7 * f + d - 7 * c - a) = 7 * f + d := by omega
  have e2 : (7 * f + d) % 7 = d := by omega
  have e3 : (7 * f + d) / 7 = f := by omega
  have e4 : pv a b c + (pv d e f - pv a b c) - pv d 0 f = e := by unfold pv; omega
  rw [e1, e2, e3, e4, if_pos ⟨h1, by omega, by omega⟩, if_pos h2]
theorem mvn_back {a b c st h d e f : Int} (hm : mvn a b c st h = (d, e, f, true)) : btw a b c d e f = (st, h, true) := by
  unfold mvn at hm
  split at hm
  · rename_i g
    split at hm
    · rename_i g2
      simp only [Prod.mk.injEq, and_true] at hm
      obtain ⟨rfl, rfl, rfl⟩ := hm
      unfold btw
      rw [if_pos ⟨g.1, g2⟩]
      simp only [Prod.mk.injEq, and_true]
      refine ⟨by omega, ?_⟩
      unfold pv; omega
    · simp at hm
  · simp at hm
theorem i_inv {s h : Int} (hs : -1000 ≤ s ∧ s ≤ 1000) (hh : -1000 ≤ h ∧ h ≤ 1000) : impl_Inverse.f s h = some (-s, -h) := by
  unfold impl_Inverse.f impl_isSmall.f
  simp only [i_In, hs, hh, Option.bind_some, and_self, decide_true, if_true]
  rw [w64 (n := -s) (by omega) (by omega), w64 (n := -h) (by omega) (by omega)]
theorem it_some (a b : Int) : ∃ t, impl_IntervalText.f a b = some t := by
  unfold impl_IntervalText.f
  split
  · split <;> exact ⟨_, rfl⟩
  · exact ⟨_, rfl⟩
/-- What the law asks last of all. -/
theorem last (t : ByteArray) (a b : Int) (ht : impl_IntervalText.f a b = some t) : ((impl_IsPerfect.f a b).bind fun t376 => (if t.toList = ([] : List UInt8) then (some (t376 == false)) else (if 0 < (t.size : Int) then (some (t376 == ((bt t 0) == 80))) else (none)))) = some true := by
  unfold impl_IsPerfect.f
  simp only [ht, Option.bind_some]
  by_cases h : t.toList = ([] : List UInt8)
  · simp [h]
  · have hp : 0 < (t.size : Int) := by
      have h2 : t.size ≠ 0 := fun e => h (by rw [ByteArray.toList_eq]; exact Array.toList_eq_nil_iff.2 (Array.eq_empty_of_size_eq_zero e))
      omega
    rw [if_neg h, if_pos hp]
    simp only [Option.bind_some]
    rw [if_neg h, if_pos hp]
    simp
theorem FnIntervals : laws_FnIntervals.Pure := by
  intro l _ _ _
  unfold laws_FnIntervals.f
  rw [big_le]
  simp only [Option.bind_some]
  by_cases h1 : (l.length : Int) > 1048576
  · exact ⟨0, by simp [h1]⟩
  simp only [h1, decide_false, Bool.false_eq_true, if_false]
  have hl : l.length ≤ 1048576 := by omega
  obtain ⟨a, b, c, d, e, f, E1⟩ := d_DrawBetween l hl
  obtain ⟨x, y, z, s, t, E2⟩ := d_DrawMoveNote l hl
  obtain ⟨p, q, E3⟩ := d_DrawIntervalText l hl
  obtain ⟨tx, htx⟩ := it_some p q
  obtain ⟨K1, E1⟩ := evo E1
  obtain ⟨K2, E2⟩ := evo E2
  obtain ⟨K3, E3⟩ := evo E3
  obtain ⟨K4, B1⟩ := evo (i_btw a b c d e f)
  obtain ⟨K5, B2⟩ := evo (s_btw a b c d e f)
  obtain ⟨K6, M1⟩ := evo (i_mvn x y z s t)
  obtain ⟨K7, B3⟩ := evo (i_btw x y z (mvn x y z s t).1 (mvn x y z s t).2.1 (mvn x y z s t).2.2.1)
  -- what follows the first test
  have rest : ∀ k, K1 + K2 + K3 + K4 + K5 + K6 + K7 + 2 ≤ k → laws_FnIntervals.j0 k l = some true := by
    intro k hk
    obtain ⟨k, rfl⟩ : ∃ m, k = m + 2 := ⟨k - 2, by omega⟩
    simp only [laws_FnIntervals.j0, E2 (k + 1) (by omega), M1 (k + 1) (by omega), Option.bind_some]
    by_cases c1 : (mvn x y z s t).2.2.2 = true
    · rw [if_pos c1]
      simp only [B3 (k + 1) (by omega), Option.bind_some]
      have hb : btw x y z (mvn x y z s t).1 (mvn x y z s t).2.1 (mvn x y z s t).2.2.1 = (s, t, true) := mvn_back (by rw [← c1])
      rw [hb]
      simp only [beq_self_eq_true, Bool.not_true, Bool.or_self, if_true]
      simp only [laws_FnIntervals.j1, Bool.false_eq_true, if_false, E3 k (by omega), htx, Option.bind_some]
      exact last tx p q htx
    · rw [if_neg c1]
      simp only [E3 (k + 1) (by omega), htx, Option.bind_some]
      exact last tx p q htx
  by_cases hn : isN a b c = true ∧ isN d e f = true
  · have n1 := isN_pos hn.1
    have n2 := isN_pos hn.2
    have hb : btw a b c d e f = (7 * f + d - 7 * c - a, pv d e f - pv a b c, true) := by unfold btw; rw [if_pos hn]
    have hi := i_inv (s := 7 * f + d - 7 * c - a) (h := pv d e f - pv a b c) (by omega) (by omega)
    obtain ⟨K8, M2⟩ := evo (i_mvn a b c (7 * f + d - 7 * c - a) (pv d e f - pv a b c))
    obtain ⟨K9, M3⟩ := evo (i_mvn d e f (-(7 * f + d - 7 * c - a)) (-(pv d e f - pv a b c)))
    rw [mvn_to hn.1 hn.2] at M2
    rw [show -(7 * f + d - 7 * c - a) = 7 * c + a - 7 * f - d by omega, show -(pv d e f - pv a b c) = pv a b c - pv d e f by omega] at M3 hi
    rw [mvn_to hn.2 hn.1] at M3
    refine ⟨K1 + K2 + K3 + K4 + K5 + K6 + K7 + 2 + K8 + K9, ?_⟩
    generalize hK : K1 + K2 + K3 + K4 + K5 + K6 + K7 + 2 + K8 + K9 = K
    simp only [E1 K (by omega), B1 K (by omega), B2 K (by omega), hb, Option.bind_some, M2 K (by omega), hi, M3 K (by omega)]
    simp [rest K (by omega)]
  · have hb : btw a b c d e f = (0, 0, false) := by unfold btw; rw [if_neg hn]
    refine ⟨K1 + K2 + K3 + K4 + K5 + K6 + K7 + 2, ?_⟩
    generalize hK : K1 + K2 + K3 + K4 + K5 + K6 + K7 + 2 = K
    simp only [E1 K (by omega), B1 K (by omega), B2 K (by omega), hb, Option.bind_some]
    simp [rest K (by omega)]

end Go.Proofs.YtcopehngagejiaaDoor.Pure
