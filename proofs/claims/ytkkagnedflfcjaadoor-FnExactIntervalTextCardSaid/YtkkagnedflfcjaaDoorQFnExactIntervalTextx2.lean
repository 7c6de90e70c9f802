/- The Go functions that the law FnExactIntervalText reaches, as Lean functions, and that each call comes to just that (written by a program of this session out of the print's text). Conditions: those each lemma states. -/
import Derived.Test.YtkkagnedflfcjaaDoorQFnExactIntervalTextx0
import Derived.Test.YtkkagnedflfcjaaDoorQFnExactIntervalTextx1
namespace Go.Proofs.YtkkagnedflfcjaaDoor.QFnExactIntervalText
open Go.RowKit Go.Proofs.YtkkagnedflfcjaaDoorW.PrintWords Go.Proofs.YtkkagnedflfcjaaDoorW.PrintLast Go.Proofs.YtkkagnedflfcjaaDoorW.PrintMore
attribute [local go_sem] max2_int min2_int max_two min_two max_three min_three max_four min_four   -- for this text's walks alone
set_option linter.unusedVariables false
set_option linter.unusedSimpArgs false

/-! ### spec_IntervalText: function 22 -/
mutual
def spec_IntervalText.j0 : Nat → Bool → Int → Int → Option (ByteArray)
  | 0, _, _, _ => none
  | k + 1, x15, x108000, x108001 => if x15 = true then (some (⟨#[]⟩ : ByteArray)) else ((some (([0, 2, 4, 5, 7, 9, 11, 12] : List Int) : List Int)).bind fun y110 => (if 0 ≤ x108000 then (if x108000 < (y110.length : Int) then (if x108000 = 0 then (spec_IntervalText.j1 k (wrap64 (x108001 - (rd y110 x108000))) true x108000 x108001) else (if x108000 = 3 then (spec_IntervalText.j1 k (wrap64 (x108001 - (rd y110 x108000))) true x108000 x108001) else (if x108000 = 4 then (spec_IntervalText.j1 k (wrap64 (x108001 - (rd y110 x108000))) true x108000 x108001) else (spec_IntervalText.j1 k (wrap64 (x108001 - (rd y110 x108000))) (x108000 == 7) x108000 x108001)))) else (none)) else (none)))
def spec_IntervalText.j1 : Nat → Int → Bool → Int → Int → Option (ByteArray)
  | 0, _, _, _, _ => none
  | k + 1, x3, x4, x108000, x108001 => if x3 = 0 then (spec_IntervalText.j2 k x3 x4 (⟨#[]⟩ : ByteArray) x4 x108000 x108001) else (spec_IntervalText.j2 k x3 x4 (⟨#[]⟩ : ByteArray) false x108000 x108001)
def spec_IntervalText.j2 : Nat → Int → Bool → ByteArray → Bool → Int → Int → Option (ByteArray)
  | 0, _, _, _, _, _, _ => none
  | k + 1, x3, x4, x5, x42, x108000, x108001 => if x42 = true then (if ([80] : List UInt8) = ([] : List UInt8) then (some (⟨#[]⟩ : ByteArray)) else ((spec_FormatInt.f k (wrap64 (x108000 + 1))).bind fun t114 => (if 1 + t114.size ≤ 9223372036854775807 then (some ((⟨#[80]⟩ : ByteArray) ++ t114)) else (none)))) else (if x3 = 0 then (if ([77] : List UInt8) = ([] : List UInt8) then (some (⟨#[]⟩ : ByteArray)) else ((spec_FormatInt.f k (wrap64 (x108000 + 1))).bind fun t115 => (if 1 + t115.size ≤ 9223372036854775807 then (some ((⟨#[77]⟩ : ByteArray) ++ t115)) else (none)))) else (if x3 = 1 then (if ([65] : List UInt8) = ([] : List UInt8) then (some (⟨#[]⟩ : ByteArray)) else ((spec_FormatInt.f k (wrap64 (x108000 + 1))).bind fun t116 => (if 1 + t116.size ≤ 9223372036854775807 then (some ((⟨#[65]⟩ : ByteArray) ++ t116)) else (none)))) else (if x3 = (-1) then (spec_IntervalText.j3 k x3 x4 x5 (!x4) x108000 x108001) else (spec_IntervalText.j3 k x3 x4 x5 false x108000 x108001))))
def spec_IntervalText.j3 : Nat → Int → Bool → ByteArray → Bool → Int → Int → Option (ByteArray)
  | 0, _, _, _, _, _, _ => none
  | k + 1, x3, x4, x5, x54, x108000, x108001 => if x54 = true then (if ([109] : List UInt8) = ([] : List UInt8) then (some (⟨#[]⟩ : ByteArray)) else ((spec_FormatInt.f k (wrap64 (x108000 + 1))).bind fun t117 => (if 1 + t117.size ≤ 9223372036854775807 then (some ((⟨#[109]⟩ : ByteArray) ++ t117)) else (none)))) else (if x3 = (-1) then (spec_IntervalText.j4 k x5 true x108000 x108001) else (if x3 = (-2) then (spec_IntervalText.j4 k x5 (!x4) x108000 x108001) else (spec_IntervalText.j4 k x5 false x108000 x108001)))
def spec_IntervalText.j4 : Nat → ByteArray → Bool → Int → Int → Option (ByteArray)
  | 0, _, _, _, _ => none
  | k + 1, x5, x61, x108000, x108001 => if x61 = true then (if ([100] : List UInt8) = ([] : List UInt8) then (some (⟨#[]⟩ : ByteArray)) else ((spec_FormatInt.f k (wrap64 (x108000 + 1))).bind fun t118 => (if 1 + t118.size ≤ 9223372036854775807 then (some ((⟨#[100]⟩ : ByteArray) ++ t118)) else (none)))) else (if x5.toList = ([] : List UInt8) then (some (⟨#[]⟩ : ByteArray)) else ((spec_FormatInt.f k (wrap64 (x108000 + 1))).bind fun t119 => (if x5.size + t119.size ≤ 9223372036854775807 then (some (x5 ++ t119)) else (none))))
end
def spec_IntervalText.f (k : Nat) (a0_0 : Int) (a0_1 : Int) : Option (ByteArray) := (spec_l1In.f a0_0 0 7).bind fun t108 => (if t108 = true then ((spec_l1In.f a0_1 (-5) 20).bind fun t109 => (spec_IntervalText.j0 k (!t109) a0_0 a0_1)) else (spec_IntervalText.j0 k true a0_0 a0_1))
theorem spec_IntervalText.mono_l : ∀ k, (∀ y0 y1 y2, LeO (spec_IntervalText.j0 k y0 y1 y2) (spec_IntervalText.j0 (k + 1) y0 y1 y2)) ∧ (∀ y0 y1 y2 y3, LeO (spec_IntervalText.j1 k y0 y1 y2 y3) (spec_IntervalText.j1 (k + 1) y0 y1 y2 y3)) ∧ (∀ y0 y1 y2 y3 y4 y5, LeO (spec_IntervalText.j2 k y0 y1 y2 y3 y4 y5) (spec_IntervalText.j2 (k + 1) y0 y1 y2 y3 y4 y5)) ∧ (∀ y0 y1 y2 y3 y4 y5, LeO (spec_IntervalText.j3 k y0 y1 y2 y3 y4 y5) (spec_IntervalText.j3 (k + 1) y0 y1 y2 y3 y4 y5)) ∧ (∀ y0 y1 y2 y3, LeO (spec_IntervalText.j4 k y0 y1 y2 y3) (spec_IntervalText.j4 (k + 1) y0 y1 y2 y3))
  | 0 => ⟨fun _ _ _ r h => by simp [spec_IntervalText.j0] at h, fun _ _ _ _ r h => by simp [spec_IntervalText.j1] at h, fun _ _ _ _ _ _ r h => by simp [spec_IntervalText.j2] at h, fun _ _ _ _ _ _ r h => by simp [spec_IntervalText.j3] at h, fun _ _ _ _ r h => by simp [spec_IntervalText.j4] at h⟩
  | k + 1 => by
    obtain ⟨ih0, ih1, ih2, ih3, ih4⟩ := spec_IntervalText.mono_l k
    refine ⟨?_, ?_, ?_, ?_, ?_⟩
    · intro y0 y1 y2
      unfold spec_IntervalText.j0
      repeat' first
      | (with_reducible exact ih0 _ _ _)
      | (with_reducible exact ih1 _ _ _ _)
      | (with_reducible exact ih2 _ _ _ _ _ _)
      | (with_reducible exact ih3 _ _ _ _ _ _)
      | (with_reducible exact ih4 _ _ _ _)
      | (with_reducible exact spec_FormatInt.mono _ _)
      | (with_reducible exact LeO.refl _)
      | (with_reducible exact LeO.none _)
      | (with_reducible refine LeO.ite ?_ ?_)
      | (with_reducible refine LeO.bind ?_ (fun _ => ?_))
      | exact ih0 _ _ _
      | exact ih1 _ _ _ _
      | exact ih2 _ _ _ _ _ _
      | exact ih3 _ _ _ _ _ _
      | exact ih4 _ _ _ _
      | exact spec_FormatInt.mono _ _
      | exact LeO.none _
      | refine LeO.ite ?_ ?_
      | refine LeO.bind ?_ (fun _ => ?_)
    · intro y0 y1 y2 y3
      unfold spec_IntervalText.j1
      repeat' first
      | (with_reducible exact ih0 _ _ _)
      | (with_reducible exact ih1 _ _ _ _)
      | (with_reducible exact ih2 _ _ _ _ _ _)
      | (with_reducible exact ih3 _ _ _ _ _ _)
      | (with_reducible exact ih4 _ _ _ _)
      | (with_reducible exact spec_FormatInt.mono _ _)
      | (with_reducible exact LeO.refl _)
      | (with_reducible exact LeO.none _)
      | (with_reducible refine LeO.ite ?_ ?_)
      | (with_reducible refine LeO.bind ?_ (fun _ => ?_))
      | exact ih0 _ _ _
      | exact ih1 _ _ _ _
      | exact ih2 _ _ _ _ _ _
      | exact ih3 _ _ _ _ _ _
      | exact ih4 _ _ _ _
      | exact spec_FormatInt.mono _ _
      | exact LeO.none _
      | refine LeO.ite ?_ ?_
      | refine LeO.bind ?_ (fun _ => ?_)
    · intro y0 y1 y2 y3 y4 y5
      unfold spec_IntervalText.j2
      repeat' first
      | (with_reducible exact ih0 _ _ _)
      | (with_reducible exact ih1 _ _ _ _)
      | (with_reducible exact ih2 _ _ _ _ _ _)
      | (with_reducible exact ih3 _ _ _ _ _ _)
      | (with_reducible exact ih4 _ _ _ _)
      | (with_reducible exact spec_FormatInt.mono _ _)
      | (with_reducible exact LeO.refl _)
      | (with_reducible exact LeO.none _)
      | (with_reducible refine LeO.ite ?_ ?_)
      | (with_reducible refine LeO.bind ?_ (fun _ => ?_))
      | exact ih0 _ _ _
      | exact ih1 _ _ _ _
      | exact ih2 _ _ _ _ _ _
      | exact ih3 _ _ _ _ _ _
      | exact ih4 _ _ _ _
      | exact spec_FormatInt.mono _ _
      | exact LeO.none _
      | refine LeO.ite ?_ ?_
      | refine LeO.bind ?_ (fun _ => ?_)
    · intro y0 y1 y2 y3 y4 y5
      unfold spec_IntervalText.j3
      repeat' first
      | (with_reducible exact ih0 _ _ _)
      | (with_reducible exact ih1 _ _ _ _)
      | (with_reducible exact ih2 _ _ _ _ _ _)
      | (with_reducible exact ih3 _ _ _ _ _ _)
      | (with_reducible exact ih4 _ _ _ _)
      | (with_reducible exact spec_FormatInt.mono _ _)
      | (with_reducible exact LeO.refl _)
      | (with_reducible exact LeO.none _)
      | (with_reducible refine LeO.ite ?_ ?_)
      | (with_reducible refine LeO.bind ?_ (fun _ => ?_))
      | exact ih0 _ _ _
      | exact ih1 _ _ _ _
      | exact ih2 _ _ _ _ _ _
      | exact ih3 _ _ _ _ _ _
      | exact ih4 _ _ _ _
      | exact spec_FormatInt.mono _ _
      | exact LeO.none _
      | refine LeO.ite ?_ ?_
      | refine LeO.bind ?_ (fun _ => ?_)
    · intro y0 y1 y2 y3
      unfold spec_IntervalText.j4
      repeat' first
      | (with_reducible exact ih0 _ _ _)
      | (with_reducible exact ih1 _ _ _ _)
      | (with_reducible exact ih2 _ _ _ _ _ _)
      | (with_reducible exact ih3 _ _ _ _ _ _)
      | (with_reducible exact ih4 _ _ _ _)
      | (with_reducible exact spec_FormatInt.mono _ _)
      | (with_reducible exact LeO.refl _)
      | (with_reducible exact LeO.none _)
      | (with_reducible refine LeO.ite ?_ ?_)
      | (with_reducible refine LeO.bind ?_ (fun _ => ?_))
      | exact ih0 _ _ _
      | exact ih1 _ _ _ _
      | exact ih2 _ _ _ _ _ _
      | exact ih3 _ _ _ _ _ _
      | exact ih4 _ _ _ _
      | exact spec_FormatInt.mono _ _
      | exact LeO.none _
      | refine LeO.ite ?_ ?_
      | refine LeO.bind ?_ (fun _ => ?_)
theorem spec_IntervalText.mono : ∀ a0 a1 k, LeO (spec_IntervalText.f k a0 a1) (spec_IntervalText.f (k + 1) a0 a1) := by
  intro a0 a1 k
  obtain ⟨ih0, ih1, ih2, ih3, ih4⟩ := spec_IntervalText.mono_l k
  unfold spec_IntervalText.f
  repeat' first
      | (with_reducible exact ih0 _ _ _)
      | (with_reducible exact ih1 _ _ _ _)
      | (with_reducible exact ih2 _ _ _ _ _ _)
      | (with_reducible exact ih3 _ _ _ _ _ _)
      | (with_reducible exact ih4 _ _ _ _)
      | (with_reducible exact spec_FormatInt.mono _ _)
      | (with_reducible exact LeO.refl _)
      | (with_reducible exact LeO.none _)
      | (with_reducible refine LeO.ite ?_ ?_)
      | (with_reducible refine LeO.bind ?_ (fun _ => ?_))
      | exact ih0 _ _ _
      | exact ih1 _ _ _ _
      | exact ih2 _ _ _ _ _ _
      | exact ih3 _ _ _ _ _ _
      | exact ih4 _ _ _ _
      | exact spec_FormatInt.mono _ _
      | exact LeO.none _
      | refine LeO.ite ?_ ?_
      | refine LeO.bind ?_ (fun _ => ?_)
def spec_IntervalText.T3 : Bool × List (List Nat × List Nat) := (true, [([], []), ([0], [0]), ([], []), ([], []), ([3], [3]), ([2, 4], [2, 4]), ([5], [5]), ([1, 6], [1, 6]), ([7, 0, 1, 2, 3, 4, 5, 6, 7], [7])])
def spec_IntervalText.B3 : List Nat := [0, 1, 0, 0, 8, 28, 60, 127, 255]
theorem spec_IntervalText.tab3 : rtab .any (opsOf Tryd.f22 3) = spec_IntervalText.T3 := by kernel_rfl
theorem spec_IntervalText.bits3 : waitsOk spec_IntervalText.T3.2 spec_IntervalText.B3 = true := by kernel_rfl
set_option maxHeartbeats 8000000 in
set_option maxRecDepth 100000 in
theorem spec_IntervalText.calls (k : Nat) (a0_0 : Int) (a0_1 : Int) (r : ByteArray) (w : World) (h : spec_IntervalText.f k a0_0 a0_1 = some r) :
    Calls Tryd.prog 22 #[.agg #[.int .i64 a0_0, .int .i64 a0_1]] w fun e w' => e = .returned (.string r) ∧ Below w.heap.size w w' := by
  have hu43 := Tryd.underlying43
  have HB := Aside0.mk (Below.refl w.heap.size w)
  have H : ((spec_l1In.f a0_0 0 7).bind fun t108 => (if t108 = true then ((spec_l1In.f a0_1 (-5) 20).bind fun t109 => (spec_IntervalText.j0 k (!t109) a0_0 a0_1)) else (spec_IntervalText.j0 k true a0_0 a0_1))) = some r := h
  clear h
  have HC2 := Aside0.mk H
  clear H
  go_enter Tryd.func22, Tryd.ntmps22
  go_upto_region 1 with (first | ((with_reducible refine gate_dst (N := 1) rfl ?_); refine box_event ?hg (N := 1) ?hd (cs := #[.int .i64 a0_0, .int .i64 a0_1]) (t := 43) ?hr ?_; (case hd => rfl); (case hg => rfl); (case hr => first | (go_simp; done) | (go_simp; rfl)); intro gb107 hg w3 hbox hb; have n0_ := Aside0.mk (below_step (by repeat (first | (with_reducible first | exact HB.out | apply below_alloc | apply pw_below_drewN | apply below_drew1) | exact HB.out)) hb); have n1_ := Aside0.mk (hbox); have n2_ := Aside0.mk ((by rw [hg]; exact (below_size (by repeat (first | (with_reducible first | exact HB.out | apply below_alloc | apply pw_below_drewN | apply below_drew1) | exact HB.out))) : w.heap.size ≤ gb107)); have n3_ := Aside0.mk ((by rw [hg]; exact (below_size (by repeat (first | (with_reducible first | exact HB.out | apply below_alloc | apply pw_below_drewN | apply below_drew1) | exact HB.out))) : w.heap.size ≤ gb107)); clear HB; have HB := n0_; have BK107 := n1_; have GW107 := n2_; have GE107 := n3_; clear n0_ n1_ n2_ n3_; clear hb hbox hg))
  (try simp only [Act.put, List.setIfInBounds_toArray, List.set_cons_zero, List.set_cons_succ])
  go_cut [15] (fun v15 wc => ∃ (kq : Nat) (x15_1 : Bool), v15 = .bool x15_1 ∧ Aside0 (spec_IntervalText.j0 kq x15_1 a0_0 a0_1 = some r) ∧ Aside0 (kq ≤ k) ∧ Aside0 (wc.heap[gb107]? = some (.cells #[.int .i64 a0_0, .int .i64 a0_1] 43 (0, 0))) ∧ Aside0 (Below w.heap.size w wc))
  case first =>
    have H := HC2.out
    clear HC2
    replace H := Option.bind_eq_some_iff.mp H
    obtain ⟨t108, A40, H⟩ := H
    replace H : (if t108 = true then ((spec_l1In.f a0_1 (-5) 20).bind fun t109 => (spec_IntervalText.j0 k (!t109) a0_0 a0_1)) else (spec_IntervalText.j0 k true a0_0 a0_1)) = some r := H
    have A4 := Aside0.mk A40
    clear A40
    by_cases c5 : t108 = true
    · subst c5
      have H1 : ((spec_l1In.f a0_1 (-5) 20).bind fun t109 => (spec_IntervalText.j0 k (!t109) a0_0 a0_1)) = some r := by rw [if_pos rfl] at H; exact H
      clear H
      have H := H1
      clear H1
      replace H := Option.bind_eq_some_iff.mp H
      obtain ⟨t109, A60, H⟩ := H
      replace H : (spec_IntervalText.j0 k (!t109) a0_0 a0_1) = some r := H
      have A6 := Aside0.mk A60
      clear A60
      have H' := Aside0.mk H
      clear H
      have hcz7_0 : w3.cell? ⟨gb107, 0, none⟩ = some (.int .i64 a0_0) := (blk_cell BK107.out 0).trans rfl
      have hcz7_1 : w3.cell? ⟨gb107, 1, none⟩ = some (.int .i64 a0_1) := (blk_cell BK107.out 1).trans rfl
      have hfz7_0 := blk_frozen BK107.out 0
      have hfz7_1 := blk_frozen BK107.out 1
      go_wp2_with (first | ((with_reducible refine gate_callee (f := 28) rfl ?_); refine goesL_ (some 8) rfl rfl Tryd.func28 (by kernel_rfl) rfl #[.int .i64 a0_0, .int .i64 0, .int .i64 7] rfl (by (try simp only [List.map_toArray, List.map_cons, List.map_nil]); first | done | rfl | (simp only [List.length_drop, List.length_take]; rfl)) ?_; (with_reducible refine (spec_l1In.calls a0_0 0 7 true _ A4.out).mono ?_); rintro e w' ⟨rfl, ⟨nd, rfl⟩⟩; refine ⟨_, rfl, ?_⟩) | (go_at_call 28; (with_reducible refine (spec_l1In.calls a0_1 (-5) 20 t109 _ A6.out).mono ?_); rintro e w' ⟨rfl, ⟨nd, rfl⟩⟩))
      go_meet
      case rel => exact ⟨_, (!t109), (by first | rfl | (simp; done) | (simp [*]; done)), H', ⟨by first | omega | exact Nat.le_refl _⟩, ⟨by (with_reducible repeat (first | refine blk_drewN ?_ _ | refine blk_drew ?_ | refine blk_alloc ?_ _)); exact BK107.out⟩, ⟨by repeat (first | (with_reducible first | exact HB.out | apply below_alloc | apply pw_below_drewN | apply below_drew1 | refine below_set ?_ GE107.out) | exact HB.out)⟩⟩
    · replace c5 := Bool.eq_false_iff.mpr c5
      subst c5
      have H1 : (spec_IntervalText.j0 k true a0_0 a0_1) = some r := by rw [if_neg (show ¬ (false = true) by decide)] at H; exact H
      clear H
      have H := H1
      clear H1
      have H' := Aside0.mk H
      clear H
      have hcz8_0 : w3.cell? ⟨gb107, 0, none⟩ = some (.int .i64 a0_0) := (blk_cell BK107.out 0).trans rfl
      have hcz8_1 : w3.cell? ⟨gb107, 1, none⟩ = some (.int .i64 a0_1) := (blk_cell BK107.out 1).trans rfl
      have hfz8_0 := blk_frozen BK107.out 0
      have hfz8_1 := blk_frozen BK107.out 1
      go_wp2_with (first | ((with_reducible refine gate_callee (f := 28) rfl ?_); refine goesL_ (some 8) rfl rfl Tryd.func28 (by kernel_rfl) rfl #[.int .i64 a0_0, .int .i64 0, .int .i64 7] rfl (by (try simp only [List.map_toArray, List.map_cons, List.map_nil]); first | done | rfl | (simp only [List.length_drop, List.length_take]; rfl)) ?_; (with_reducible refine (spec_l1In.calls a0_0 0 7 false _ A4.out).mono ?_); rintro e w' ⟨rfl, ⟨nd, rfl⟩⟩; refine ⟨_, rfl, ?_⟩))
      go_meet
      case rel => exact ⟨_, (true), (by first | rfl | (simp; done) | (simp [*]; done)), H', ⟨by first | omega | exact Nat.le_refl _⟩, ⟨by (with_reducible repeat (first | refine blk_drewN ?_ _ | refine blk_drew ?_ | refine blk_alloc ?_ _)); exact BK107.out⟩, ⟨by repeat (first | (with_reducible first | exact HB.out | apply below_alloc | apply pw_below_drewN | apply below_drew1 | refine below_set ?_ GE107.out) | exact HB.out)⟩⟩
  case rest =>
    clear HC2
    try clear c2
    try clear p2
    try clear c5
    try clear hcz7_0
    try clear hcz7_1
    try clear hcz8_0
    try clear hcz8_1
    try clear hfz7_0
    try clear hfz7_1
    try clear hfz8_0
    try clear hfz8_1
    obtain ⟨kq, x15_1, rfl, HA, HJ1, BK107, HB⟩ := hcut
    cases kq with
    | zero => exact absurd HA.out (by simp [spec_IntervalText.j0])
    | succ kj1 =>
      have H := HA.out
      clear HA
      simp only [spec_IntervalText.j0] at H
      by_cases c9 : x15_1 = true
      · subst c9
        have H1 : (some (⟨#[]⟩ : ByteArray)) = some r := by rw [if_pos rfl] at H; exact H
        clear H
        have H := H1
        clear H1
        obtain rfl := Option.some.inj H
        go_wp2
        go_ret
        exact ⟨by first | rfl | (simp [errW_none, errW_some] <;> rfl) | (simp [*, errW_none, errW_some] <;> rfl), by repeat (first | (with_reducible first | exact HB.out | apply below_alloc | apply pw_below_drewN | apply below_drew1 | refine below_set ?_ GE107.out) | exact HB.out)⟩
      · replace c9 := Bool.eq_false_iff.mpr c9
        subst c9
        have H1 : ((some (([0, 2, 4, 5, 7, 9, 11, 12] : List Int) : List Int)).bind fun y110 => (if 0 ≤ a0_0 then (if a0_0 < (y110.length : Int) then (if a0_0 = 0 then (spec_IntervalText.j1 kj1 (wrap64 (a0_1 - (rd y110 a0_0))) true a0_0 a0_1) else (if a0_0 = 3 then (spec_IntervalText.j1 kj1 (wrap64 (a0_1 - (rd y110 a0_0))) true a0_0 a0_1) else (if a0_0 = 4 then (spec_IntervalText.j1 kj1 (wrap64 (a0_1 - (rd y110 a0_0))) true a0_0 a0_1) else (spec_IntervalText.j1 kj1 (wrap64 (a0_1 - (rd y110 a0_0))) (a0_0 == 7) a0_0 a0_1)))) else (none)) else (none))) = some r := by rw [if_neg (show ¬ (false = true) by decide)] at H; exact H
        clear H
        have H := H1
        clear H1
        obtain ⟨y110, hy110⟩ : ∃ y_ : List Int, y_ = (([0, 2, 4, 5, 7, 9, 11, 12] : List Int)) := ⟨_, rfl⟩
        replace H : (if 0 ≤ a0_0 then (if a0_0 < (y110.length : Int) then (if a0_0 = 0 then (spec_IntervalText.j1 kj1 (wrap64 (a0_1 - (rd y110 a0_0))) true a0_0 a0_1) else (if a0_0 = 3 then (spec_IntervalText.j1 kj1 (wrap64 (a0_1 - (rd y110 a0_0))) true a0_0 a0_1) else (if a0_0 = 4 then (spec_IntervalText.j1 kj1 (wrap64 (a0_1 - (rd y110 a0_0))) true a0_0 a0_1) else (spec_IntervalText.j1 kj1 (wrap64 (a0_1 - (rd y110 a0_0))) (a0_0 == 7) a0_0 a0_1)))) else (none)) else (none)) = some r := by first | (rw [hy110]; with_reducible exact H) | (have H2_ := (Option.bind_some _ _).symm.trans H; rw [hy110]; with_reducible exact H2_) | (have H2_ := (Option.bind_some _ _).symm.trans H; with_reducible exact H2_) | with_reducible exact H | (rw [hy110]; exact H) | exact H
        have Ny110 := Aside0.mk hy110
        clear hy110
        by_cases c10 : 0 ≤ a0_0
        · rw [if_pos c10] at H
          have c10b0 : decide (0 ≤ a0_0) = true := decide_eq_true c10
          clear c10
          by_cases c11 : a0_0 < (y110.length : Int)
          · rw [if_pos c11] at H
            have c11b0 : decide (a0_0 < (y110.length : Int)) = true := decide_eq_true c11
            clear c11
            have HC12 := Aside0.mk H
            clear H
            try go_wp2
            have pi113 : (0 ≤ (a0_0 : Int)) = True := eq_true (of_decide_eq_true (by first | (with_reducible assumption) | assumption))
            have qi113 : (a0_0 < (y110.length : Int)) = True := eq_true (of_decide_eq_true (by first | (with_reducible assumption) | assumption))
            have n0_ := Aside0.mk (blk_drew BK107.out)
            have n1_ := Aside0.mk (below_drew1 HB.out)
            clear BK107
            clear HB
            have BK107 := n0_
            have HB := n1_
            clear n0_ n1_
            refine start_ (n := 9) (S := fun w' => w'.cell? ⟨gb107, 0, none⟩ = some (.int .i64 a0_0) ∧ w'.cell? ⟨gb107, 1, none⟩ = some (.int .i64 a0_1)) (ds := []) #[false, false, false, false, false, false, false, false, false] (by kernel_rfl) rfl rfl ⟨(blk_cell BK107.out 0).trans rfl, (blk_cell BK107.out 1).trans rfl⟩ (fun hHeld => ?_); refine with_tabW spec_IntervalText.tab3 spec_IntervalText.bits3 (fun HT_ HW_ => ?_)
            generalize wc.drew = w13 at BK107 HB hHeld ⊢
            refine pure_ (i := 0) (N := some 16) (v := ?_) (a' := ?_) #[true, false, false, false, false, false, false, false, false] rfl rfl (any_of HT_.out (by kernel_rfl)) (fun _ _ _ h => h) (Or.inl ⟨by rfl, ?_⟩) ?_ ?_
            rotate_left
            · intro w'
              go_simp
              with_reducible rfl
            rotate_left
            · simp only [Act.put, List.setIfInBounds_toArray, List.set_cons_zero, List.set_cons_succ, i64_w, i32_w]
              rfl
            refine pure_ (i := 3) (N := some 19) (v := ?_) (a' := ?_) #[true, false, false, true, false, false, false, false, false] rfl rfl (any_of HT_.out (by kernel_rfl)) (fun _ _ _ h => h) (Or.inl ⟨by rfl, ?_⟩) ?_ ?_
            rotate_left
            · intro w'
              go_simp
              with_reducible rfl
            rotate_left
            · simp only [Act.put, List.setIfInBounds_toArray, List.set_cons_zero, List.set_cons_succ, i64_w, i32_w]
              rfl
            refine take_ (i := 1) (N := some 17) (v := ?_) (a' := ?_) #[true, true, false, true, false, false, false, false, false] rfl rfl (take_ofW HT_.out HW_.out (by kernel_rfl)) (fun _ _ _ h => h) (Or.inl ⟨by rfl, ?_⟩) hHeld ?_ ?_
            rotate_left
            · rintro w' ⟨s0, s1⟩
              go_simp
              with_reducible rfl
            rotate_left
            · simp only [Act.put, List.setIfInBounds_toArray, List.set_cons_zero, List.set_cons_succ, i64_w, i32_w]
              rfl
            refine take_ (i := 4) (N := some 20) (v := ?_) (a' := ?_) #[true, true, false, true, true, false, false, false, false] rfl rfl (take_ofW HT_.out HW_.out (by kernel_rfl)) (fun _ _ _ h => h) (Or.inl ⟨by rfl, ?_⟩) hHeld ?_ ?_
            rotate_left
            · rintro w' ⟨s0, s1⟩
              go_simp
              with_reducible rfl
            rotate_left
            · simp only [Act.put, List.setIfInBounds_toArray, List.set_cons_zero, List.set_cons_succ, i64_w, i32_w]
              rfl
            refine one_ (i := 2) (N := some 18) #[true, true, true, true, true, false, false, false, false] rfl rfl (one_of HT_.out (by kernel_rfl)) (by decide) (fun K hK => ?_)
            refine Kd.R_lit_step (Kd.int .i64) _ 3 ?hg (N := 18) ?hd (xs := ([0, 2, 4, 5, 7, 9, 11, 12] : List Int)) (inner := [.int .i64 0, .int .i64 2, .int .i64 4, .int .i64 5, .int .i64 7, .int .i64 9, .int .i64 11, .int .i64 12]) (ok := fun _ => True) (okp := fun _ => True) ?hr ?hp (fun _ hk => hk) trivial (Below.refl _ _) (Nat.le_refl _) (by simp) ?_; (case hd => rfl); (case hg => rfl); (case hr => first | (go_simp; done) | (go_simp; rfl)); (case hp => exact (Reps.one (show Kd.M (Kd.int .i64) _ _ _ 0 [.int .i64 0] from rfl) (Reps.one (show Kd.M (Kd.int .i64) _ _ _ 2 [.int .i64 2] from rfl) (Reps.one (show Kd.M (Kd.int .i64) _ _ _ 4 [.int .i64 4] from rfl) (Reps.one (show Kd.M (Kd.int .i64) _ _ _ 5 [.int .i64 5] from rfl) (Reps.one (show Kd.M (Kd.int .i64) _ _ _ 7 [.int .i64 7] from rfl) (Reps.one (show Kd.M (Kd.int .i64) _ _ _ 9 [.int .i64 9] from rfl) (Reps.one (show Kd.M (Kd.int .i64) _ _ _ 11 [.int .i64 11] from rfl) (Reps.one (show Kd.M (Kd.int .i64) _ _ _ 12 [.int .i64 12] from rfl) (Reps.none _ _))))))))))
            intro v111 w14 ho15 hb hg_ hnew_
            clear hg_ hnew_
            (first | rw [← Ny110.out] at ho15 | (simp only [Int.reduceToNat] at ho15; rw [← Ny110.out] at ho15))
            have n0_ := Aside0.mk (Kd.R_lower ho15 (below_size (by repeat (first | (with_reducible first | exact HB.out | apply below_alloc | apply pw_below_drewN | apply below_drew1 | refine below_set ?_ GE107.out) | exact HB.out))))
            have n1_ := Aside0.mk (blk_below (g := gb107) (o := .cells #[.int .i64 a0_0, .int .i64 a0_1] 43 (0, 0)) (by (with_reducible repeat (first | refine blk_drewN ?_ _ | refine blk_drew ?_ | refine blk_alloc ?_ _)); exact BK107.out) hb)
            have n2_ := Aside0.mk (below_step (by repeat (first | (with_reducible first | exact HB.out | apply below_alloc | apply pw_below_drewN | apply below_drew1 | refine below_set ?_ GE107.out) | exact HB.out)) hb)
            clear BK107
            clear HB
            have HO112 := n0_
            have BK107 := n1_
            have HB := n2_
            clear n0_ n1_ n2_
            clear hb ho15
            obtain ⟨Ao16, co16, eo16⟩ := Kd.R_slice HO112.out
            subst eo16
            obtain ⟨ado16, fo16, _⟩ := Kd.at_int (Kd.R_reads' HO112.out).2.2 0 (by decide) (by rw [Ny110.out]; simp)
            cases fo16
            refine hK.out _ _ ⟨(blk_cell BK107.out 0).trans rfl, (blk_cell BK107.out 1).trans rfl⟩ (fun hHeld => ?_)
            clear hK K
            refine norm_ (a' := ?_) ?_ ?_
            rotate_left
            · show Act.put _ (some 18) _ = _
              simp only [Act.put, List.setIfInBounds_toArray, List.set_cons_zero, List.set_cons_succ, i64_w, i32_w]
              rfl
            refine pure_ (i := 5) (N := some 21) (v := ?_) (a' := ?_) #[true, true, true, true, true, true, false, false, false] rfl rfl (any_of HT_.out (by kernel_rfl)) (fun _ _ _ h => h) (Or.inl ⟨by rfl, ?_⟩) ?_ ?_
            rotate_left
            · intro w'
              go_simp
              with_reducible rfl
            rotate_left
            · simp only [Act.put, List.setIfInBounds_toArray, List.set_cons_zero, List.set_cons_succ, i64_w, i32_w]
              rfl
            refine one_ (i := 6) (N := some 22) #[true, true, true, true, true, true, true, false, false] rfl rfl (one_of HT_.out (by kernel_rfl)) (by decide) (fun K hK => ?_)
            (have p113 : 0 ≤ (a0_0 : Int) := of_decide_eq_true (by first | (with_reducible assumption) | assumption); have q113 : a0_0 < (y110.length : Int) := of_decide_eq_true (by first | (with_reducible assumption) | assumption); obtain ⟨ad113, e113, hx113_0⟩ := Kd.at_int (Kd.R_reads' HO112.out).2.2 a0_0 p113 q113; obtain rfl : ado16 = ad113 := (by injection e113))
            refine value_ (w1 := ?_) (v := ?_) (by rfl) rfl ?_ ?_
            rotate_left 2
            · go_simp
              constructor
              · rfl
              · rfl
            clear hx113_0
            refine hK.out _ _ ⟨(blk_cell BK107.out 0).trans rfl, (blk_cell BK107.out 1).trans rfl⟩ (fun hHeld => ?_)
            clear hK K
            refine norm_ (a' := ?_) ?_ ?_
            rotate_left
            · show Act.put _ (some 22) _ = _
              simp only [Act.put, List.setIfInBounds_toArray, List.set_cons_zero, List.set_cons_succ, i64_w, i32_w]
              rfl
            refine pure_ (i := 7) (N := some 23) (v := ?_) (a' := ?_) #[true, true, true, true, true, true, true, true, false] rfl rfl (any_of HT_.out (by kernel_rfl)) (fun _ _ _ h => h) (Or.inl ⟨by rfl, ?_⟩) ?_ ?_
            rotate_left
            · intro w'
              go_simp
              with_reducible rfl
            rotate_left
            · simp only [Act.put, List.setIfInBounds_toArray, List.set_cons_zero, List.set_cons_succ, i64_w, i32_w]
              rfl
            refine pure_ (i := 8) (N := some 3) (v := ?_) (a' := ?_) #[true, true, true, true, true, true, true, true, true] rfl rfl (any_of HT_.out (by kernel_rfl)) (fun _ _ _ h => h) (Or.inl ⟨by rfl, ?_⟩) ?_ ?_
            rotate_left
            · intro w'
              go_simp
              with_reducible rfl
            rotate_left
            · simp only [Act.put, List.setIfInBounds_toArray, List.set_cons_zero, List.set_cons_succ, i64_w, i32_w]
              rfl
            refine done_ (done_of HT_.out (by kernel_rfl)) ?_
            go_upto_region 4 with (fail)
            go_cut [4] (fun v4 wc => ∃ (kq : Nat) (x4_11 : Bool), v4 = .bool x4_11 ∧ Aside0 (spec_IntervalText.j1 kq (wrap64 (a0_1 - (rd y110 a0_0))) x4_11 a0_0 a0_1 = some r) ∧ Aside0 (kq ≤ kj1) ∧ Aside0 (wc.heap[gb107]? = some (.cells #[.int .i64 a0_0, .int .i64 a0_1] 43 (0, 0))) ∧ Aside0 (Below w.heap.size w wc))
            case first =>
              have H := HC12.out
              clear HC12
              by_cases c17 : a0_0 = 0
              · rw [if_pos c17] at H
                have c17b0 : (a0_0 == 0) = true := beq_iff_eq.mpr c17
                have c17b1 : (a0_0 != 0) = false := bne_eq_false_iff_eq.mpr c17
                clear c17
                (first | rw [c17b0] | (simp only [i64_w, i32_w]; rw [c17b0]) | skip)
                have H' := Aside0.mk H
                clear H
                have hcz18_0 : w14.cell? ⟨gb107, 0, none⟩ = some (.int .i64 a0_0) := (blk_cell BK107.out 0).trans rfl
                have hcz18_1 : w14.cell? ⟨gb107, 1, none⟩ = some (.int .i64 a0_1) := (blk_cell BK107.out 1).trans rfl
                have hfz18_0 := blk_frozen BK107.out 0
                have hfz18_1 := blk_frozen BK107.out 1
                go_wp2
                go_meet
                case rel => exact ⟨_, (true), (by first | rfl | (simp; done) | (simp [*]; done)), H', ⟨by have := HJ1.out; first | omega | exact Nat.le_refl _⟩, ⟨by (with_reducible repeat (first | refine blk_drewN ?_ _ | refine blk_drew ?_ | refine blk_alloc ?_ _)); exact BK107.out⟩, ⟨by repeat (first | (with_reducible first | exact HB.out | apply below_alloc | apply pw_below_drewN | apply below_drew1 | refine below_set ?_ GE107.out) | exact HB.out)⟩⟩
              · rw [if_neg c17] at H
                have c17b0 : (a0_0 == 0) = false := beq_eq_false_iff_ne.mpr c17
                have c17b1 : (a0_0 != 0) = true := bne_iff_ne.mpr c17
                (first | rw [c17b0] | (simp only [i64_w, i32_w]; rw [c17b0]) | skip)
                by_cases c19 : a0_0 = 3
                · rw [if_pos c19] at H
                  have c19b0 : (a0_0 == 3) = true := beq_iff_eq.mpr c19
                  have c19b1 : (a0_0 != 3) = false := bne_eq_false_iff_eq.mpr c19
                  clear c19
                  have H' := Aside0.mk H
                  clear H
                  have hcz20_0 : w14.cell? ⟨gb107, 0, none⟩ = some (.int .i64 a0_0) := (blk_cell BK107.out 0).trans rfl
                  have hcz20_1 : w14.cell? ⟨gb107, 1, none⟩ = some (.int .i64 a0_1) := (blk_cell BK107.out 1).trans rfl
                  have hfz20_0 := blk_frozen BK107.out 0
                  have hfz20_1 := blk_frozen BK107.out 1
                  go_wp2
                  go_meet
                  case rel => exact ⟨_, (true), (by first | rfl | (simp; done) | (simp [*]; done)), H', ⟨by have := HJ1.out; first | omega | exact Nat.le_refl _⟩, ⟨by (with_reducible repeat (first | refine blk_drewN ?_ _ | refine blk_drew ?_ | refine blk_alloc ?_ _)); exact BK107.out⟩, ⟨by repeat (first | (with_reducible first | exact HB.out | apply below_alloc | apply pw_below_drewN | apply below_drew1 | refine below_set ?_ GE107.out) | exact HB.out)⟩⟩
                · rw [if_neg c19] at H
                  have c19b0 : (a0_0 == 3) = false := beq_eq_false_iff_ne.mpr c19
                  have c19b1 : (a0_0 != 3) = true := bne_iff_ne.mpr c19
                  by_cases c21 : a0_0 = 4
                  · rw [if_pos c21] at H
                    have c21b0 : (a0_0 == 4) = true := beq_iff_eq.mpr c21
                    have c21b1 : (a0_0 != 4) = false := bne_eq_false_iff_eq.mpr c21
                    clear c21
                    have H' := Aside0.mk H
                    clear H
                    have hcz22_0 : w14.cell? ⟨gb107, 0, none⟩ = some (.int .i64 a0_0) := (blk_cell BK107.out 0).trans rfl
                    have hcz22_1 : w14.cell? ⟨gb107, 1, none⟩ = some (.int .i64 a0_1) := (blk_cell BK107.out 1).trans rfl
                    have hfz22_0 := blk_frozen BK107.out 0
                    have hfz22_1 := blk_frozen BK107.out 1
                    go_wp2
                    go_meet
                    case rel => exact ⟨_, (true), (by first | rfl | (simp; done) | (simp [*]; done)), H', ⟨by have := HJ1.out; first | omega | exact Nat.le_refl _⟩, ⟨by (with_reducible repeat (first | refine blk_drewN ?_ _ | refine blk_drew ?_ | refine blk_alloc ?_ _)); exact BK107.out⟩, ⟨by repeat (first | (with_reducible first | exact HB.out | apply below_alloc | apply pw_below_drewN | apply below_drew1 | refine below_set ?_ GE107.out) | exact HB.out)⟩⟩
                  · rw [if_neg c21] at H
                    have c21b0 : (a0_0 == 4) = false := beq_eq_false_iff_ne.mpr c21
                    have c21b1 : (a0_0 != 4) = true := bne_iff_ne.mpr c21
                    have H' := Aside0.mk H
                    clear H
                    have hcz23_0 : w14.cell? ⟨gb107, 0, none⟩ = some (.int .i64 a0_0) := (blk_cell BK107.out 0).trans rfl
                    have hcz23_1 : w14.cell? ⟨gb107, 1, none⟩ = some (.int .i64 a0_1) := (blk_cell BK107.out 1).trans rfl
                    have hfz23_0 := blk_frozen BK107.out 0
                    have hfz23_1 := blk_frozen BK107.out 1
                    go_wp2
                    go_meet
                    case rel => exact ⟨_, ((a0_0 == 7)), (by first | rfl | (simp; done) | (simp [*]; done)), H', ⟨by have := HJ1.out; first | omega | exact Nat.le_refl _⟩, ⟨by (with_reducible repeat (first | refine blk_drewN ?_ _ | refine blk_drew ?_ | refine blk_alloc ?_ _)); exact BK107.out⟩, ⟨by repeat (first | (with_reducible first | exact HB.out | apply below_alloc | apply pw_below_drewN | apply below_drew1 | refine below_set ?_ GE107.out) | exact HB.out)⟩⟩
            case rest =>
              clear HC12
              try clear c1
              try clear p1
              try clear q1
              try clear hx1
              try clear qi1
              try clear c2
              try clear p2
              try clear c5
              try clear p6
              try clear c9
              try clear c10
              try clear c10b0
              try clear c10b0d
              try clear c11
              try clear c11b0
              try clear c11b0d
              try clear p11
              try clear q11
              try clear hx11
              try clear qi11
              try clear c17
              try clear c17b0
              try clear c17b0d
              try clear c17b1
              try clear c17b1d
              try clear c19
              try clear c19b0
              try clear c19b0d
              try clear c19b1
              try clear c19b1d
              try clear c21
              try clear c21b0
              try clear c21b0d
              try clear c21b1
              try clear c21b1d
              try clear c22
              try clear hcz18_0
              try clear hcz18_1
              try clear hcz20_0
              try clear hcz20_1
              try clear hcz22_0
              try clear hcz22_1
              try clear hcz23_0
              try clear hcz23_1
              try clear hcz7_0
              try clear hcz7_1
              try clear hcz8_0
              try clear hcz8_1
              try clear hfz18_0
              try clear hfz18_1
              try clear hfz20_0
              try clear hfz20_1
              try clear hfz22_0
              try clear hfz22_1
              try clear hfz23_0
              try clear hfz23_1
              try clear hfz7_0
              try clear hfz7_1
              try clear hfz8_0
              try clear hfz8_1
              try clear hx113_0
              try clear p113
              try clear p2
              try clear q113
              obtain ⟨kq, x4_11, rfl, HA, HJ11, BK107, HB⟩ := hcut
              cases kq with
              | zero => exact absurd HA.out (by simp [spec_IntervalText.j1])
              | succ kj11 =>
                have H := HA.out
                clear HA
                simp only [spec_IntervalText.j1] at H
                have HC24 := Aside0.mk H
                clear H
                go_upto_region 6 with (fail)
                go_cut [42] (fun v42 wc => ∃ (kq : Nat) (x42_23 : Bool), v42 = .bool x42_23 ∧ Aside0 (spec_IntervalText.j2 kq (wrap64 (a0_1 - (rd y110 a0_0))) x4_11 (⟨#[]⟩ : ByteArray) x42_23 a0_0 a0_1 = some r) ∧ Aside0 (kq ≤ kj11) ∧ Aside0 (wc.heap[gb107]? = some (.cells #[.int .i64 a0_0, .int .i64 a0_1] 43 (0, 0))) ∧ Aside0 (Below w.heap.size w wc))
                case first =>
                  have H := HC24.out
                  clear HC24
                  by_cases c25 : (wrap64 (a0_1 - (rd y110 a0_0))) = 0
                  · rw [if_pos c25] at H
                    have c25b0 : ((wrap64 (a0_1 - (rd y110 a0_0))) == 0) = true := beq_iff_eq.mpr c25
                    have c25b1 : ((wrap64 (a0_1 - (rd y110 a0_0))) != 0) = false := bne_eq_false_iff_eq.mpr c25
                    clear c25
                    (first | rw [c25b0] | (simp only [i64_w, i32_w]; rw [c25b0]) | skip)
                    have H' := Aside0.mk H
                    clear H
                    go_wp2
                    go_meet
                    case rel => exact ⟨_, (x4_11), (by first | rfl | (simp; done) | (simp [*]; done)), H', ⟨by have := HJ1.out; have := HJ11.out; first | omega | exact Nat.le_refl _⟩, ⟨by (with_reducible repeat (first | refine blk_drewN ?_ _ | refine blk_drew ?_ | refine blk_alloc ?_ _)); exact BK107.out⟩, ⟨by repeat (first | (with_reducible first | exact HB.out | apply below_alloc | apply pw_below_drewN | apply below_drew1 | refine below_set ?_ GE107.out) | exact HB.out)⟩⟩
                  · rw [if_neg c25] at H
                    have c25b0 : ((wrap64 (a0_1 - (rd y110 a0_0))) == 0) = false := beq_eq_false_iff_ne.mpr c25
                    have c25b1 : ((wrap64 (a0_1 - (rd y110 a0_0))) != 0) = true := bne_iff_ne.mpr c25
                    (first | rw [c25b0] | (simp only [i64_w, i32_w]; rw [c25b0]) | skip)
                    have H' := Aside0.mk H
                    clear H
                    go_wp2
                    go_meet
                    case rel => exact ⟨_, (false), (by first | rfl | (simp; done) | (simp [*]; done)), H', ⟨by have := HJ1.out; have := HJ11.out; first | omega | exact Nat.le_refl _⟩, ⟨by (with_reducible repeat (first | refine blk_drewN ?_ _ | refine blk_drew ?_ | refine blk_alloc ?_ _)); exact BK107.out⟩, ⟨by repeat (first | (with_reducible first | exact HB.out | apply below_alloc | apply pw_below_drewN | apply below_drew1 | refine below_set ?_ GE107.out) | exact HB.out)⟩⟩
                case rest =>
                  clear HC24
                  try clear c1
                  try clear p1
                  try clear q1
                  try clear hx1
                  try clear qi1
                  try clear c2
                  try clear p2
                  try clear c5
                  try clear p6
                  try clear c9
                  try clear c10
                  try clear c10b0
                  try clear c10b0d
                  try clear c11
                  try clear c11b0
                  try clear c11b0d
                  try clear p11
                  try clear q11
                  try clear hx11
                  try clear qi11
                  try clear c17
                  try clear c17b0
                  try clear c17b0d
                  try clear c17b1
                  try clear c17b1d
                  try clear c19
                  try clear c19b0
                  try clear c19b0d
                  try clear c19b1
                  try clear c19b1d
                  try clear c21
                  try clear c21b0
                  try clear c21b0d
                  try clear c21b1
                  try clear c21b1d
                  try clear c22
                  try clear c25
                  try clear c25b0
                  try clear c25b0d
                  try clear c25b1
                  try clear c25b1d
                  try clear hcz18_0
                  try clear hcz18_1
                  try clear hcz20_0
                  try clear hcz20_1
                  try clear hcz22_0
                  try clear hcz22_1
                  try clear hcz23_0
                  try clear hcz23_1
                  try clear hcz7_0
                  try clear hcz7_1
                  try clear hcz8_0
                  try clear hcz8_1
                  try clear hfz18_0
                  try clear hfz18_1
                  try clear hfz20_0
                  try clear hfz20_1
                  try clear hfz22_0
                  try clear hfz22_1
                  try clear hfz23_0
                  try clear hfz23_1
                  try clear hfz7_0
                  try clear hfz7_1
                  try clear hfz8_0
                  try clear hfz8_1
                  try clear hx113_0
                  try clear p1
                  try clear p11
                  try clear p113
                  try clear p2
                  try clear p6
                  try clear q1
                  try clear q11
                  try clear q113
                  obtain ⟨kq, x42_23, rfl, HA, HJ23, BK107, HB⟩ := hcut
                  cases kq with
                  | zero => exact absurd HA.out (by simp [spec_IntervalText.j2])
                  | succ kj23 =>
                    have H := HA.out
                    clear HA
                    simp only [spec_IntervalText.j2] at H
                    by_cases c26 : x42_23 = true
                    · subst c26
                      have H1 : (if ([80] : List UInt8) = ([] : List UInt8) then (some (⟨#[]⟩ : ByteArray)) else ((spec_FormatInt.f kj23 (wrap64 (a0_0 + 1))).bind fun t114 => (if 1 + t114.size ≤ 9223372036854775807 then (some ((⟨#[80]⟩ : ByteArray) ++ t114)) else (none)))) = some r := by rw [if_pos rfl] at H; exact H
                      clear H
                      have H := H1
                      clear H1
                      by_cases c27 : ([80] : List UInt8) = ([] : List UInt8)
                      · rw [if_pos c27] at H
                        have c27b0 : (([80] : List UInt8) == ([] : List UInt8)) = true := beq_iff_eq.mpr c27
                        have c27b1 : (([80] : List UInt8) != ([] : List UInt8)) = false := bne_eq_false_iff_eq.mpr c27
                        clear c27
                        obtain rfl := Option.some.inj H
                        go_wp2
                        go_ret
                        exact ⟨by first | rfl | (simp [errW_none, errW_some] <;> rfl) | (simp [*, errW_none, errW_some] <;> rfl), by repeat (first | (with_reducible first | exact HB.out | apply below_alloc | apply pw_below_drewN | apply below_drew1 | refine below_set ?_ GE107.out) | exact HB.out)⟩
                      · rw [if_neg c27] at H
                        have c27b0 : (([80] : List UInt8) == ([] : List UInt8)) = false := beq_eq_false_iff_ne.mpr c27
                        have c27b1 : (([80] : List UInt8) != ([] : List UInt8)) = true := bne_iff_ne.mpr c27
                        replace H := Option.bind_eq_some_iff.mp H
                        obtain ⟨t114, A280, H⟩ := H
                        replace H : (if 1 + t114.size ≤ 9223372036854775807 then (some ((⟨#[80]⟩ : ByteArray) ++ t114)) else (none)) = some r := H
                        have A28 := Aside0.mk A280
                        clear A280
                        by_cases c29 : 1 + t114.size ≤ 9223372036854775807
                        · rw [if_pos c29] at H
                          have c29b0 := eq_true c29
                          have c29b1 : decide (1 + t114.size ≤ 9223372036854775807) = true := decide_eq_true c29
                          try have c29b2 : (9223372036854775807 < 1 + t114.size) = False := eq_false (Nat.not_lt.2 c29)
                          obtain rfl := Option.some.inj H
                          have hcz30_0 : wc.cell? ⟨gb107, 0, none⟩ = some (.int .i64 a0_0) := (blk_cell BK107.out 0).trans rfl
                          have hcz30_1 : wc.cell? ⟨gb107, 1, none⟩ = some (.int .i64 a0_1) := (blk_cell BK107.out 1).trans rfl
                          have hfz30_0 := blk_frozen BK107.out 0
                          have hfz30_1 := blk_frozen BK107.out 1
                          go_wp2_with (first | ((with_reducible refine gate_callee (f := 9) rfl ?_); refine goesL_ (some 78) rfl rfl Tryd.func9 (by kernel_rfl) rfl #[.int .i64 (wrap64 (a0_0 + 1))] rfl (by (try simp only [List.map_toArray, List.map_cons, List.map_nil]); first | done | rfl | (simp only [List.length_drop, List.length_take]; rfl)) ?_; (with_reducible refine (spec_FormatInt.calls kj23 (wrap64 (a0_0 + 1)) t114 _ A28.out).mono ?_); rintro e w31 ⟨rfl, hb⟩; refine ⟨_, rfl, ?_⟩; have n0_ := Aside0.mk (blk_below (g := gb107) (o := .cells #[.int .i64 a0_0, .int .i64 a0_1] 43 (0, 0)) (by (with_reducible repeat (first | refine blk_drewN ?_ _ | refine blk_drew ?_ | refine blk_alloc ?_ _)); exact BK107.out) hb); have n1_ := Aside0.mk (below_step (by repeat (first | (with_reducible first | exact HB.out | apply below_alloc | apply pw_below_drewN | apply below_drew1 | refine below_set ?_ GE107.out) | exact HB.out)) hb); clear BK107; clear HB; have BK107 := n0_; have HB := n1_; clear n0_ n1_; (try clear hb); (try clear hb2); (try clear hk); (try clear hi)))
                          go_ret
                          exact ⟨by first | rfl | (simp [errW_none, errW_some] <;> rfl) | (simp [*, errW_none, errW_some] <;> rfl), by repeat (first | (with_reducible first | exact HB.out | apply below_alloc | apply pw_below_drewN | apply below_drew1 | refine below_set ?_ GE107.out) | exact HB.out)⟩
                        · rw [if_neg c29] at H
                          exact absurd H (by simp)
                    · replace c26 := Bool.eq_false_iff.mpr c26
                      subst c26
                      have H1 : (if (wrap64 (a0_1 - (rd y110 a0_0))) = 0 then (if ([77] : List UInt8) = ([] : List UInt8) then (some (⟨#[]⟩ : ByteArray)) else ((spec_FormatInt.f kj23 (wrap64 (a0_0 + 1))).bind fun t115 => (if 1 + t115.size ≤ 9223372036854775807 then (some ((⟨#[77]⟩ : ByteArray) ++ t115)) else (none)))) else (if (wrap64 (a0_1 - (rd y110 a0_0))) = 1 then (if ([65] : List UInt8) = ([] : List UInt8) then (some (⟨#[]⟩ : ByteArray)) else ((spec_FormatInt.f kj23 (wrap64 (a0_0 + 1))).bind fun t116 => (if 1 + t116.size ≤ 9223372036854775807 then (some ((⟨#[65]⟩ : ByteArray) ++ t116)) else (none)))) else (if (wrap64 (a0_1 - (rd y110 a0_0))) = (-1) then (spec_IntervalText.j3 kj23 (wrap64 (a0_1 - (rd y110 a0_0))) x4_11 (⟨#[]⟩ : ByteArray) (!x4_11) a0_0 a0_1) else (spec_IntervalText.j3 kj23 (wrap64 (a0_1 - (rd y110 a0_0))) x4_11 (⟨#[]⟩ : ByteArray) false a0_0 a0_1)))) = some r := by rw [if_neg (show ¬ (false = true) by decide)] at H; exact H
                      clear H
                      have H := H1
                      clear H1
                      by_cases c32 : (wrap64 (a0_1 - (rd y110 a0_0))) = 0
                      · rw [if_pos c32] at H
                        have c32b0 : ((wrap64 (a0_1 - (rd y110 a0_0))) == 0) = true := beq_iff_eq.mpr c32
                        have c32b1 : ((wrap64 (a0_1 - (rd y110 a0_0))) != 0) = false := bne_eq_false_iff_eq.mpr c32
                        clear c32
                        by_cases c33 : ([77] : List UInt8) = ([] : List UInt8)
                        · rw [if_pos c33] at H
                          have c33b0 : (([77] : List UInt8) == ([] : List UInt8)) = true := beq_iff_eq.mpr c33
                          have c33b1 : (([77] : List UInt8) != ([] : List UInt8)) = false := bne_eq_false_iff_eq.mpr c33
                          clear c33
                          obtain rfl := Option.some.inj H
                          go_wp2
                          go_ret
                          exact ⟨by first | rfl | (simp [errW_none, errW_some] <;> rfl) | (simp [*, errW_none, errW_some] <;> rfl), by repeat (first | (with_reducible first | exact HB.out | apply below_alloc | apply pw_below_drewN | apply below_drew1 | refine below_set ?_ GE107.out) | exact HB.out)⟩
                        · rw [if_neg c33] at H
                          have c33b0 : (([77] : List UInt8) == ([] : List UInt8)) = false := beq_eq_false_iff_ne.mpr c33
                          have c33b1 : (([77] : List UInt8) != ([] : List UInt8)) = true := bne_iff_ne.mpr c33
                          replace H := Option.bind_eq_some_iff.mp H
                          obtain ⟨t115, A340, H⟩ := H
                          replace H : (if 1 + t115.size ≤ 9223372036854775807 then (some ((⟨#[77]⟩ : ByteArray) ++ t115)) else (none)) = some r := H
                          have A34 := Aside0.mk A340
                          clear A340
                          by_cases c35 : 1 + t115.size ≤ 9223372036854775807
                          · rw [if_pos c35] at H
                            have c35b0 := eq_true c35
                            have c35b1 : decide (1 + t115.size ≤ 9223372036854775807) = true := decide_eq_true c35
                            try have c35b2 : (9223372036854775807 < 1 + t115.size) = False := eq_false (Nat.not_lt.2 c35)
                            obtain rfl := Option.some.inj H
                            have hcz36_0 : wc.cell? ⟨gb107, 0, none⟩ = some (.int .i64 a0_0) := (blk_cell BK107.out 0).trans rfl
                            have hcz36_1 : wc.cell? ⟨gb107, 1, none⟩ = some (.int .i64 a0_1) := (blk_cell BK107.out 1).trans rfl
                            have hfz36_0 := blk_frozen BK107.out 0
                            have hfz36_1 := blk_frozen BK107.out 1
                            go_wp2_with (first | ((with_reducible refine gate_callee (f := 9) rfl ?_); refine goesL_ (some 78) rfl rfl Tryd.func9 (by kernel_rfl) rfl #[.int .i64 (wrap64 (a0_0 + 1))] rfl (by (try simp only [List.map_toArray, List.map_cons, List.map_nil]); first | done | rfl | (simp only [List.length_drop, List.length_take]; rfl)) ?_; (with_reducible refine (spec_FormatInt.calls kj23 (wrap64 (a0_0 + 1)) t115 _ A34.out).mono ?_); rintro e w37 ⟨rfl, hb⟩; refine ⟨_, rfl, ?_⟩; have n0_ := Aside0.mk (blk_below (g := gb107) (o := .cells #[.int .i64 a0_0, .int .i64 a0_1] 43 (0, 0)) (by (with_reducible repeat (first | refine blk_drewN ?_ _ | refine blk_drew ?_ | refine blk_alloc ?_ _)); exact BK107.out) hb); have n1_ := Aside0.mk (below_step (by repeat (first | (with_reducible first | exact HB.out | apply below_alloc | apply pw_below_drewN | apply below_drew1 | refine below_set ?_ GE107.out) | exact HB.out)) hb); clear BK107; clear HB; have BK107 := n0_; have HB := n1_; clear n0_ n1_; (try clear hb); (try clear hb2); (try clear hk); (try clear hi)))
                            go_ret
                            exact ⟨by first | rfl | (simp [errW_none, errW_some] <;> rfl) | (simp [*, errW_none, errW_some] <;> rfl), by repeat (first | (with_reducible first | exact HB.out | apply below_alloc | apply pw_below_drewN | apply below_drew1 | refine below_set ?_ GE107.out) | exact HB.out)⟩
                          · rw [if_neg c35] at H
                            exact absurd H (by simp)
                      · rw [if_neg c32] at H
                        have c32b0 : ((wrap64 (a0_1 - (rd y110 a0_0))) == 0) = false := beq_eq_false_iff_ne.mpr c32
                        have c32b1 : ((wrap64 (a0_1 - (rd y110 a0_0))) != 0) = true := bne_iff_ne.mpr c32
                        by_cases c38 : (wrap64 (a0_1 - (rd y110 a0_0))) = 1
                        · rw [if_pos c38] at H
                          have c38b0 : ((wrap64 (a0_1 - (rd y110 a0_0))) == 1) = true := beq_iff_eq.mpr c38
                          have c38b1 : ((wrap64 (a0_1 - (rd y110 a0_0))) != 1) = false := bne_eq_false_iff_eq.mpr c38
                          clear c38
                          by_cases c39 : ([65] : List UInt8) = ([] : List UInt8)
                          · rw [if_pos c39] at H
                            have c39b0 : (([65] : List UInt8) == ([] : List UInt8)) = true := beq_iff_eq.mpr c39
                            have c39b1 : (([65] : List UInt8) != ([] : List UInt8)) = false := bne_eq_false_iff_eq.mpr c39
                            clear c39
                            obtain rfl := Option.some.inj H
                            go_wp2
                            go_ret
                            exact ⟨by first | rfl | (simp [errW_none, errW_some] <;> rfl) | (simp [*, errW_none, errW_some] <;> rfl), by repeat (first | (with_reducible first | exact HB.out | apply below_alloc | apply pw_below_drewN | apply below_drew1 | refine below_set ?_ GE107.out) | exact HB.out)⟩
                          · rw [if_neg c39] at H
                            have c39b0 : (([65] : List UInt8) == ([] : List UInt8)) = false := beq_eq_false_iff_ne.mpr c39
                            have c39b1 : (([65] : List UInt8) != ([] : List UInt8)) = true := bne_iff_ne.mpr c39
                            replace H := Option.bind_eq_some_iff.mp H
                            obtain ⟨t116, A400, H⟩ := H
                            replace H : (if 1 + t116.size ≤ 9223372036854775807 then (some ((⟨#[65]⟩ : ByteArray) ++ t116)) else (none)) = some r := H
                            have A40 := Aside0.mk A400
                            clear A400
                            by_cases c41 : 1 + t116.size ≤ 9223372036854775807
                            · rw [if_pos c41] at H
                              have c41b0 := eq_true c41
                              have c41b1 : decide (1 + t116.size ≤ 9223372036854775807) = true := decide_eq_true c41
                              try have c41b2 : (9223372036854775807 < 1 + t116.size) = False := eq_false (Nat.not_lt.2 c41)
                              obtain rfl := Option.some.inj H
                              have hcz42_0 : wc.cell? ⟨gb107, 0, none⟩ = some (.int .i64 a0_0) := (blk_cell BK107.out 0).trans rfl
                              have hcz42_1 : wc.cell? ⟨gb107, 1, none⟩ = some (.int .i64 a0_1) := (blk_cell BK107.out 1).trans rfl
                              have hfz42_0 := blk_frozen BK107.out 0
                              have hfz42_1 := blk_frozen BK107.out 1
                              go_wp2_with (first | ((with_reducible refine gate_callee (f := 9) rfl ?_); refine goesL_ (some 78) rfl rfl Tryd.func9 (by kernel_rfl) rfl #[.int .i64 (wrap64 (a0_0 + 1))] rfl (by (try simp only [List.map_toArray, List.map_cons, List.map_nil]); first | done | rfl | (simp only [List.length_drop, List.length_take]; rfl)) ?_; (with_reducible refine (spec_FormatInt.calls kj23 (wrap64 (a0_0 + 1)) t116 _ A40.out).mono ?_); rintro e w43 ⟨rfl, hb⟩; refine ⟨_, rfl, ?_⟩; have n0_ := Aside0.mk (blk_below (g := gb107) (o := .cells #[.int .i64 a0_0, .int .i64 a0_1] 43 (0, 0)) (by (with_reducible repeat (first | refine blk_drewN ?_ _ | refine blk_drew ?_ | refine blk_alloc ?_ _)); exact BK107.out) hb); have n1_ := Aside0.mk (below_step (by repeat (first | (with_reducible first | exact HB.out | apply below_alloc | apply pw_below_drewN | apply below_drew1 | refine below_set ?_ GE107.out) | exact HB.out)) hb); clear BK107; clear HB; have BK107 := n0_; have HB := n1_; clear n0_ n1_; (try clear hb); (try clear hb2); (try clear hk); (try clear hi)))
                              go_ret
                              exact ⟨by first | rfl | (simp [errW_none, errW_some] <;> rfl) | (simp [*, errW_none, errW_some] <;> rfl), by repeat (first | (with_reducible first | exact HB.out | apply below_alloc | apply pw_below_drewN | apply below_drew1 | refine below_set ?_ GE107.out) | exact HB.out)⟩
                            · rw [if_neg c41] at H
                              exact absurd H (by simp)
                        · rw [if_neg c38] at H
                          have c38b0 : ((wrap64 (a0_1 - (rd y110 a0_0))) == 1) = false := beq_eq_false_iff_ne.mpr c38
                          have c38b1 : ((wrap64 (a0_1 - (rd y110 a0_0))) != 1) = true := bne_iff_ne.mpr c38
                          have HC44 := Aside0.mk H
                          clear H
                          go_upto_region 12 with (fail)
                          go_cut [54] (fun v54 wc => ∃ (kq : Nat) (x54_43 : Bool), v54 = .bool x54_43 ∧ Aside0 (spec_IntervalText.j3 kq (wrap64 (a0_1 - (rd y110 a0_0))) x4_11 (⟨#[]⟩ : ByteArray) x54_43 a0_0 a0_1 = some r) ∧ Aside0 (kq ≤ kj23) ∧ Aside0 (wc.heap[gb107]? = some (.cells #[.int .i64 a0_0, .int .i64 a0_1] 43 (0, 0))) ∧ Aside0 (Below w.heap.size w wc))
                          case first =>
                            have H := HC44.out
                            clear HC44
                            by_cases c45 : (wrap64 (a0_1 - (rd y110 a0_0))) = (-1)
                            · rw [if_pos c45] at H
                              have c45b0 : ((wrap64 (a0_1 - (rd y110 a0_0))) == (-1)) = true := beq_iff_eq.mpr c45
                              have c45b1 : ((wrap64 (a0_1 - (rd y110 a0_0))) != (-1)) = false := bne_eq_false_iff_eq.mpr c45
                              clear c45
                              (first | rw [c45b0] | (simp only [i64_w, i32_w]; rw [c45b0]) | skip)
                              have H' := Aside0.mk H
                              clear H
                              go_wp2
                              go_meet
                              case rel => exact ⟨_, (!x4_11), (by first | rfl | (simp; done) | (simp [*]; done)), H', ⟨by have := HJ1.out; have := HJ11.out; have := HJ23.out; first | omega | exact Nat.le_refl _⟩, ⟨by (with_reducible repeat (first | refine blk_drewN ?_ _ | refine blk_drew ?_ | refine blk_alloc ?_ _)); exact BK107.out⟩, ⟨by repeat (first | (with_reducible first | exact HB.out | apply below_alloc | apply pw_below_drewN | apply below_drew1 | refine below_set ?_ GE107.out) | exact HB.out)⟩⟩
                            · rw [if_neg c45] at H
                              have c45b0 : ((wrap64 (a0_1 - (rd y110 a0_0))) == (-1)) = false := beq_eq_false_iff_ne.mpr c45
                              have c45b1 : ((wrap64 (a0_1 - (rd y110 a0_0))) != (-1)) = true := bne_iff_ne.mpr c45
                              (first | rw [c45b0] | (simp only [i64_w, i32_w]; rw [c45b0]) | skip)
                              have H' := Aside0.mk H
                              clear H
                              go_wp2
                              go_meet
                              case rel => exact ⟨_, (false), (by first | rfl | (simp; done) | (simp [*]; done)), H', ⟨by have := HJ1.out; have := HJ11.out; have := HJ23.out; first | omega | exact Nat.le_refl _⟩, ⟨by (with_reducible repeat (first | refine blk_drewN ?_ _ | refine blk_drew ?_ | refine blk_alloc ?_ _)); exact BK107.out⟩, ⟨by repeat (first | (with_reducible first | exact HB.out | apply below_alloc | apply pw_below_drewN | apply below_drew1 | refine below_set ?_ GE107.out) | exact HB.out)⟩⟩
                          case rest =>
                            clear HC44
                            try clear c1
                            try clear p1
                            try clear q1
                            try clear hx1
                            try clear qi1
                            try clear c2
                            try clear p2
                            try clear c3
                            try clear c4
                            try clear c5
                            try clear p6
                            try clear c9
                            try clear c10
                            try clear c10b0
                            try clear c10b0d
                            try clear c11
                            try clear c11b0
                            try clear c11b0d
                            try clear p11
                            try clear q11
                            try clear hx11
                            try clear qi11
                            try clear c17
                            try clear c17b0
                            try clear c17b0d
                            try clear c17b1
                            try clear c17b1d
                            try clear c19
                            try clear c19b0
                            try clear c19b0d
                            try clear c19b1
                            try clear c19b1d
                            try clear c21
                            try clear c21b0
                            try clear c21b0d
                            try clear c21b1
                            try clear c21b1d
                            try clear c22
                            try clear c25
                            try clear c25b0
                            try clear c25b0d
                            try clear c25b1
                            try clear c25b1d
                            try clear c26
                            try clear c27
                            try clear c27b0
                            try clear c27b0d
                            try clear c27b1
                            try clear c27b1d
                            try clear c28
                            try clear c29
                            try clear c29b0
                            try clear c29b0d
                            try clear c29b1
                            try clear c29b1d
                            try clear c29b2
                            try clear c29b2d
                            try clear c32
                            try clear c32b0
                            try clear c32b0d
                            try clear c32b1
                            try clear c32b1d
                            try clear c33
                            try clear c33b0
                            try clear c33b0d
                            try clear c33b1
                            try clear c33b1d
                            try clear c35
                            try clear c35b0
                            try clear c35b0d
                            try clear c35b1
                            try clear c35b1d
                            try clear c35b2
                            try clear c35b2d
                            try clear c38
                            try clear c38b0
                            try clear c38b0d
                            try clear c38b1
                            try clear c38b1d
                            try clear c39
                            try clear c39b0
                            try clear c39b0d
                            try clear c39b1
                            try clear c39b1d
                            try clear c41
                            try clear c41b0
                            try clear c41b0d
                            try clear c41b1
                            try clear c41b1d
                            try clear c41b2
                            try clear c41b2d
                            try clear c45
                            try clear c45b0
                            try clear c45b0d
                            try clear c45b1
                            try clear c45b1d
                            try clear hcz18_0
                            try clear hcz18_1
                            try clear hcz20_0
                            try clear hcz20_1
                            try clear hcz22_0
                            try clear hcz22_1
                            try clear hcz23_0
                            try clear hcz23_1
                            try clear hcz30_0
                            try clear hcz30_1
                            try clear hcz36_0
                            try clear hcz36_1
                            try clear hcz42_0
                            try clear hcz42_1
                            try clear hcz7_0
                            try clear hcz7_1
                            try clear hcz8_0
                            try clear hcz8_1
                            try clear hfz18_0
                            try clear hfz18_1
                            try clear hfz20_0
                            try clear hfz20_1
                            try clear hfz22_0
                            try clear hfz22_1
                            try clear hfz23_0
                            try clear hfz23_1
                            try clear hfz30_0
                            try clear hfz30_1
                            try clear hfz36_0
                            try clear hfz36_1
                            try clear hfz42_0
                            try clear hfz42_1
                            try clear hfz7_0
                            try clear hfz7_1
                            try clear hfz8_0
                            try clear hfz8_1
                            try clear hx113_0
                            try clear p1
                            try clear p11
                            try clear p113
                            try clear p2
                            try clear p6
                            try clear q1
                            try clear q11
                            try clear q113
                            obtain ⟨kq, x54_43, rfl, HA, HJ43, BK107, HB⟩ := hcut
                            cases kq with
                            | zero => exact absurd HA.out (by simp [spec_IntervalText.j3])
                            | succ kj43 =>
                              have H := HA.out
                              clear HA
                              simp only [spec_IntervalText.j3] at H
                              by_cases c46 : x54_43 = true
                              · subst c46
                                have H1 : (if ([109] : List UInt8) = ([] : List UInt8) then (some (⟨#[]⟩ : ByteArray)) else ((spec_FormatInt.f kj43 (wrap64 (a0_0 + 1))).bind fun t117 => (if 1 + t117.size ≤ 9223372036854775807 then (some ((⟨#[109]⟩ : ByteArray) ++ t117)) else (none)))) = some r := by rw [if_pos rfl] at H; exact H
                                clear H
                                have H := H1
                                clear H1
                                by_cases c47 : ([109] : List UInt8) = ([] : List UInt8)
                                · rw [if_pos c47] at H
                                  have c47b0 : (([109] : List UInt8) == ([] : List UInt8)) = true := beq_iff_eq.mpr c47
                                  have c47b1 : (([109] : List UInt8) != ([] : List UInt8)) = false := bne_eq_false_iff_eq.mpr c47
                                  clear c47
                                  obtain rfl := Option.some.inj H
                                  go_wp2
                                  go_ret
                                  exact ⟨by first | rfl | (simp [errW_none, errW_some] <;> rfl) | (simp [*, errW_none, errW_some] <;> rfl), by repeat (first | (with_reducible first | exact HB.out | apply below_alloc | apply pw_below_drewN | apply below_drew1 | refine below_set ?_ GE107.out) | exact HB.out)⟩
                                · rw [if_neg c47] at H
                                  have c47b0 : (([109] : List UInt8) == ([] : List UInt8)) = false := beq_eq_false_iff_ne.mpr c47
                                  have c47b1 : (([109] : List UInt8) != ([] : List UInt8)) = true := bne_iff_ne.mpr c47
                                  replace H := Option.bind_eq_some_iff.mp H
                                  obtain ⟨t117, A480, H⟩ := H
                                  replace H : (if 1 + t117.size ≤ 9223372036854775807 then (some ((⟨#[109]⟩ : ByteArray) ++ t117)) else (none)) = some r := H
                                  have A48 := Aside0.mk A480
                                  clear A480
                                  by_cases c49 : 1 + t117.size ≤ 9223372036854775807
                                  · rw [if_pos c49] at H
                                    have c49b0 := eq_true c49
                                    have c49b1 : decide (1 + t117.size ≤ 9223372036854775807) = true := decide_eq_true c49
                                    try have c49b2 : (9223372036854775807 < 1 + t117.size) = False := eq_false (Nat.not_lt.2 c49)
                                    obtain rfl := Option.some.inj H
                                    have hcz50_0 : wc.cell? ⟨gb107, 0, none⟩ = some (.int .i64 a0_0) := (blk_cell BK107.out 0).trans rfl
                                    have hcz50_1 : wc.cell? ⟨gb107, 1, none⟩ = some (.int .i64 a0_1) := (blk_cell BK107.out 1).trans rfl
                                    have hfz50_0 := blk_frozen BK107.out 0
                                    have hfz50_1 := blk_frozen BK107.out 1
                                    go_wp2_with (first | ((with_reducible refine gate_callee (f := 9) rfl ?_); refine goesL_ (some 78) rfl rfl Tryd.func9 (by kernel_rfl) rfl #[.int .i64 (wrap64 (a0_0 + 1))] rfl (by (try simp only [List.map_toArray, List.map_cons, List.map_nil]); first | done | rfl | (simp only [List.length_drop, List.length_take]; rfl)) ?_; (with_reducible refine (spec_FormatInt.calls kj43 (wrap64 (a0_0 + 1)) t117 _ A48.out).mono ?_); rintro e w51 ⟨rfl, hb⟩; refine ⟨_, rfl, ?_⟩; have n0_ := Aside0.mk (blk_below (g := gb107) (o := .cells #[.int .i64 a0_0, .int .i64 a0_1] 43 (0, 0)) (by (with_reducible repeat (first | refine blk_drewN ?_ _ | refine blk_drew ?_ | refine blk_alloc ?_ _)); exact BK107.out) hb); have n1_ := Aside0.mk (below_step (by repeat (first | (with_reducible first | exact HB.out | apply below_alloc | apply pw_below_drewN | apply below_drew1 | refine below_set ?_ GE107.out) | exact HB.out)) hb); clear BK107; clear HB; have BK107 := n0_; have HB := n1_; clear n0_ n1_; (try clear hb); (try clear hb2); (try clear hk); (try clear hi)))
                                    go_ret
                                    exact ⟨by first | rfl | (simp [errW_none, errW_some] <;> rfl) | (simp [*, errW_none, errW_some] <;> rfl), by repeat (first | (with_reducible first | exact HB.out | apply below_alloc | apply pw_below_drewN | apply below_drew1 | refine below_set ?_ GE107.out) | exact HB.out)⟩
                                  · rw [if_neg c49] at H
                                    exact absurd H (by simp)
                              · replace c46 := Bool.eq_false_iff.mpr c46
                                subst c46
                                have H1 : (if (wrap64 (a0_1 - (rd y110 a0_0))) = (-1) then (spec_IntervalText.j4 kj43 (⟨#[]⟩ : ByteArray) true a0_0 a0_1) else (if (wrap64 (a0_1 - (rd y110 a0_0))) = (-2) then (spec_IntervalText.j4 kj43 (⟨#[]⟩ : ByteArray) (!x4_11) a0_0 a0_1) else (spec_IntervalText.j4 kj43 (⟨#[]⟩ : ByteArray) false a0_0 a0_1))) = some r := by rw [if_neg (show ¬ (false = true) by decide)] at H; exact H
                                clear H
                                have H := H1
                                clear H1
                                have HC52 := Aside0.mk H
                                clear H
                                go_upto_region 14 with (fail)
                                go_cut [61] (fun v61 wc => ∃ (kq : Nat) (x61_51 : Bool), v61 = .bool x61_51 ∧ Aside0 (spec_IntervalText.j4 kq (⟨#[]⟩ : ByteArray) x61_51 a0_0 a0_1 = some r) ∧ Aside0 (kq ≤ kj43) ∧ Aside0 (wc.heap[gb107]? = some (.cells #[.int .i64 a0_0, .int .i64 a0_1] 43 (0, 0))) ∧ Aside0 (Below w.heap.size w wc))
                                case first =>
                                  have H := HC52.out
                                  clear HC52
                                  by_cases c53 : (wrap64 (a0_1 - (rd y110 a0_0))) = (-1)
                                  · rw [if_pos c53] at H
                                    have c53b0 : ((wrap64 (a0_1 - (rd y110 a0_0))) == (-1)) = true := beq_iff_eq.mpr c53
                                    have c53b1 : ((wrap64 (a0_1 - (rd y110 a0_0))) != (-1)) = false := bne_eq_false_iff_eq.mpr c53
                                    clear c53
                                    (first | rw [c53b0] | (simp only [i64_w, i32_w]; rw [c53b0]) | skip)
                                    have H' := Aside0.mk H
                                    clear H
                                    go_wp2
                                    go_meet
                                    case rel => exact ⟨_, (true), (by first | rfl | (simp; done) | (simp [*]; done)), H', ⟨by have := HJ1.out; have := HJ11.out; have := HJ23.out; have := HJ43.out; first | omega | exact Nat.le_refl _⟩, ⟨by (with_reducible repeat (first | refine blk_drewN ?_ _ | refine blk_drew ?_ | refine blk_alloc ?_ _)); exact BK107.out⟩, ⟨by repeat (first | (with_reducible first | exact HB.out | apply below_alloc | apply pw_below_drewN | apply below_drew1 | refine below_set ?_ GE107.out) | exact HB.out)⟩⟩
                                  · rw [if_neg c53] at H
                                    have c53b0 : ((wrap64 (a0_1 - (rd y110 a0_0))) == (-1)) = false := beq_eq_false_iff_ne.mpr c53
                                    have c53b1 : ((wrap64 (a0_1 - (rd y110 a0_0))) != (-1)) = true := bne_iff_ne.mpr c53
                                    (first | rw [c53b0] | (simp only [i64_w, i32_w]; rw [c53b0]) | skip)
                                    by_cases c54 : (wrap64 (a0_1 - (rd y110 a0_0))) = (-2)
                                    · rw [if_pos c54] at H
                                      have c54b0 : ((wrap64 (a0_1 - (rd y110 a0_0))) == (-2)) = true := beq_iff_eq.mpr c54
                                      have c54b1 : ((wrap64 (a0_1 - (rd y110 a0_0))) != (-2)) = false := bne_eq_false_iff_eq.mpr c54
                                      clear c54
                                      have H' := Aside0.mk H
                                      clear H
                                      go_wp2
                                      go_meet
                                      case rel => exact ⟨_, (!x4_11), (by first | rfl | (simp; done) | (simp [*]; done)), H', ⟨by have := HJ1.out; have := HJ11.out; have := HJ23.out; have := HJ43.out; first | omega | exact Nat.le_refl _⟩, ⟨by (with_reducible repeat (first | refine blk_drewN ?_ _ | refine blk_drew ?_ | refine blk_alloc ?_ _)); exact BK107.out⟩, ⟨by repeat (first | (with_reducible first | exact HB.out | apply below_alloc | apply pw_below_drewN | apply below_drew1 | refine below_set ?_ GE107.out) | exact HB.out)⟩⟩
                                    · rw [if_neg c54] at H
                                      have c54b0 : ((wrap64 (a0_1 - (rd y110 a0_0))) == (-2)) = false := beq_eq_false_iff_ne.mpr c54
                                      have c54b1 : ((wrap64 (a0_1 - (rd y110 a0_0))) != (-2)) = true := bne_iff_ne.mpr c54
                                      have H' := Aside0.mk H
                                      clear H
                                      go_wp2
                                      go_meet
                                      case rel => exact ⟨_, (false), (by first | rfl | (simp; done) | (simp [*]; done)), H', ⟨by have := HJ1.out; have := HJ11.out; have := HJ23.out; have := HJ43.out; first | omega | exact Nat.le_refl _⟩, ⟨by (with_reducible repeat (first | refine blk_drewN ?_ _ | refine blk_drew ?_ | refine blk_alloc ?_ _)); exact BK107.out⟩, ⟨by repeat (first | (with_reducible first | exact HB.out | apply below_alloc | apply pw_below_drewN | apply below_drew1 | refine below_set ?_ GE107.out) | exact HB.out)⟩⟩
                                case rest =>
                                  clear HC52
                                  try clear c1
                                  try clear p1
                                  try clear q1
                                  try clear hx1
                                  try clear qi1
                                  try clear c2
                                  try clear p2
                                  try clear c3
                                  try clear c4
                                  try clear c5
                                  try clear p6
                                  try clear c9
                                  try clear c10
                                  try clear c10b0
                                  try clear c10b0d
                                  try clear c11
                                  try clear c11b0
                                  try clear c11b0d
                                  try clear p11
                                  try clear q11
                                  try clear hx11
                                  try clear qi11
                                  try clear c17
                                  try clear c17b0
                                  try clear c17b0d
                                  try clear c17b1
                                  try clear c17b1d
                                  try clear c19
                                  try clear c19b0
                                  try clear c19b0d
                                  try clear c19b1
                                  try clear c19b1d
                                  try clear c21
                                  try clear c21b0
                                  try clear c21b0d
                                  try clear c21b1
                                  try clear c21b1d
                                  try clear c22
                                  try clear c25
                                  try clear c25b0
                                  try clear c25b0d
                                  try clear c25b1
                                  try clear c25b1d
                                  try clear c26
                                  try clear c27
                                  try clear c27b0
                                  try clear c27b0d
                                  try clear c27b1
                                  try clear c27b1d
                                  try clear c28
                                  try clear c29
                                  try clear c29b0
                                  try clear c29b0d
                                  try clear c29b1
                                  try clear c29b1d
                                  try clear c29b2
                                  try clear c29b2d
                                  try clear c32
                                  try clear c32b0
                                  try clear c32b0d
                                  try clear c32b1
                                  try clear c32b1d
                                  try clear c33
                                  try clear c33b0
                                  try clear c33b0d
                                  try clear c33b1
                                  try clear c33b1d
                                  try clear c35
                                  try clear c35b0
                                  try clear c35b0d
                                  try clear c35b1
                                  try clear c35b1d
                                  try clear c35b2
                                  try clear c35b2d
                                  try clear c38
                                  try clear c38b0
                                  try clear c38b0d
                                  try clear c38b1
                                  try clear c38b1d
                                  try clear c39
                                  try clear c39b0
                                  try clear c39b0d
                                  try clear c39b1
                                  try clear c39b1d
                                  try clear c41
                                  try clear c41b0
                                  try clear c41b0d
                                  try clear c41b1
                                  try clear c41b1d
                                  try clear c41b2
                                  try clear c41b2d
                                  try clear c45
                                  try clear c45b0
                                  try clear c45b0d
                                  try clear c45b1
                                  try clear c45b1d
                                  try clear c46
                                  try clear c47
                                  try clear c47b0
                                  try clear c47b0d
                                  try clear c47b1
                                  try clear c47b1d
                                  try clear c49
                                  try clear c49b0
                                  try clear c49b0d
                                  try clear c49b1
                                  try clear c49b1d
                                  try clear c49b2
                                  try clear c49b2d
                                  try clear c53
                                  try clear c53b0
                                  try clear c53b0d
                                  try clear c53b1
                                  try clear c53b1d
                                  try clear c54
                                  try clear c54b0
                                  try clear c54b0d
                                  try clear c54b1
                                  try clear c54b1d
                                  try clear hcz18_0
                                  try clear hcz18_1
                                  try clear hcz20_0
                                  try clear hcz20_1
                                  try clear hcz22_0
                                  try clear hcz22_1
                                  try clear hcz23_0
                                  try clear hcz23_1
                                  try clear hcz30_0
                                  try clear hcz30_1
                                  try clear hcz36_0
                                  try clear hcz36_1
                                  try clear hcz42_0
                                  try clear hcz42_1
                                  try clear hcz50_0
                                  try clear hcz50_1
                                  try clear hcz7_0
                                  try clear hcz7_1
                                  try clear hcz8_0
                                  try clear hcz8_1
                                  try clear hfz18_0
                                  try clear hfz18_1
                                  try clear hfz20_0
                                  try clear hfz20_1
                                  try clear hfz22_0
                                  try clear hfz22_1
                                  try clear hfz23_0
                                  try clear hfz23_1
                                  try clear hfz30_0
                                  try clear hfz30_1
                                  try clear hfz36_0
                                  try clear hfz36_1
                                  try clear hfz42_0
                                  try clear hfz42_1
                                  try clear hfz50_0
                                  try clear hfz50_1
                                  try clear hfz7_0
                                  try clear hfz7_1
                                  try clear hfz8_0
                                  try clear hfz8_1
                                  try clear hx113_0
                                  try clear p1
                                  try clear p11
                                  try clear p113
                                  try clear p2
                                  try clear p6
                                  try clear q1
                                  try clear q11
                                  try clear q113
                                  obtain ⟨kq, x61_51, rfl, HA, HJ51, BK107, HB⟩ := hcut
                                  cases kq with
                                  | zero => exact absurd HA.out (by simp [spec_IntervalText.j4])
                                  | succ kj51 =>
                                    have H := HA.out
                                    clear HA
                                    simp only [spec_IntervalText.j4] at H
                                    by_cases c55 : x61_51 = true
                                    · subst c55
                                      have H1 : (if ([100] : List UInt8) = ([] : List UInt8) then (some (⟨#[]⟩ : ByteArray)) else ((spec_FormatInt.f kj51 (wrap64 (a0_0 + 1))).bind fun t118 => (if 1 + t118.size ≤ 9223372036854775807 then (some ((⟨#[100]⟩ : ByteArray) ++ t118)) else (none)))) = some r := by rw [if_pos rfl] at H; exact H
                                      clear H
                                      have H := H1
                                      clear H1
                                      by_cases c56 : ([100] : List UInt8) = ([] : List UInt8)
                                      · rw [if_pos c56] at H
                                        have c56b0 : (([100] : List UInt8) == ([] : List UInt8)) = true := beq_iff_eq.mpr c56
                                        have c56b1 : (([100] : List UInt8) != ([] : List UInt8)) = false := bne_eq_false_iff_eq.mpr c56
                                        clear c56
                                        obtain rfl := Option.some.inj H
                                        go_wp2
                                        go_ret
                                        exact ⟨by first | rfl | (simp [errW_none, errW_some] <;> rfl) | (simp [*, errW_none, errW_some] <;> rfl), by repeat (first | (with_reducible first | exact HB.out | apply below_alloc | apply pw_below_drewN | apply below_drew1 | refine below_set ?_ GE107.out) | exact HB.out)⟩
                                      · rw [if_neg c56] at H
                                        have c56b0 : (([100] : List UInt8) == ([] : List UInt8)) = false := beq_eq_false_iff_ne.mpr c56
                                        have c56b1 : (([100] : List UInt8) != ([] : List UInt8)) = true := bne_iff_ne.mpr c56
                                        replace H := Option.bind_eq_some_iff.mp H
                                        obtain ⟨t118, A570, H⟩ := H
                                        replace H : (if 1 + t118.size ≤ 9223372036854775807 then (some ((⟨#[100]⟩ : ByteArray) ++ t118)) else (none)) = some r := H
                                        have A57 := Aside0.mk A570
                                        clear A570
                                        by_cases c58 : 1 + t118.size ≤ 9223372036854775807
                                        · rw [if_pos c58] at H
                                          have c58b0 := eq_true c58
                                          have c58b1 : decide (1 + t118.size ≤ 9223372036854775807) = true := decide_eq_true c58
                                          try have c58b2 : (9223372036854775807 < 1 + t118.size) = False := eq_false (Nat.not_lt.2 c58)
                                          obtain rfl := Option.some.inj H
                                          have hcz59_0 : wc.cell? ⟨gb107, 0, none⟩ = some (.int .i64 a0_0) := (blk_cell BK107.out 0).trans rfl
                                          have hcz59_1 : wc.cell? ⟨gb107, 1, none⟩ = some (.int .i64 a0_1) := (blk_cell BK107.out 1).trans rfl
                                          have hfz59_0 := blk_frozen BK107.out 0
                                          have hfz59_1 := blk_frozen BK107.out 1
                                          go_wp2_with (first | ((with_reducible refine gate_callee (f := 9) rfl ?_); refine goesL_ (some 78) rfl rfl Tryd.func9 (by kernel_rfl) rfl #[.int .i64 (wrap64 (a0_0 + 1))] rfl (by (try simp only [List.map_toArray, List.map_cons, List.map_nil]); first | done | rfl | (simp only [List.length_drop, List.length_take]; rfl)) ?_; (with_reducible refine (spec_FormatInt.calls kj51 (wrap64 (a0_0 + 1)) t118 _ A57.out).mono ?_); rintro e w60 ⟨rfl, hb⟩; refine ⟨_, rfl, ?_⟩; have n0_ := Aside0.mk (blk_below (g := gb107) (o := .cells #[.int .i64 a0_0, .int .i64 a0_1] 43 (0, 0)) (by (with_reducible repeat (first | refine blk_drewN ?_ _ | refine blk_drew ?_ | refine blk_alloc ?_ _)); exact BK107.out) hb); have n1_ := Aside0.mk (below_step (by repeat (first | (with_reducible first | exact HB.out | apply below_alloc | apply pw_below_drewN | apply below_drew1 | refine below_set ?_ GE107.out) | exact HB.out)) hb); clear BK107; clear HB; have BK107 := n0_; have HB := n1_; clear n0_ n1_; (try clear hb); (try clear hb2); (try clear hk); (try clear hi)))
                                          go_ret
                                          exact ⟨by first | rfl | (simp [errW_none, errW_some] <;> rfl) | (simp [*, errW_none, errW_some] <;> rfl), by repeat (first | (with_reducible first | exact HB.out | apply below_alloc | apply pw_below_drewN | apply below_drew1 | refine below_set ?_ GE107.out) | exact HB.out)⟩
                                        · rw [if_neg c58] at H
                                          exact absurd H (by simp)
                                    · replace c55 := Bool.eq_false_iff.mpr c55
                                      subst c55
                                      have H1 : (if (⟨#[]⟩ : ByteArray).toList = ([] : List UInt8) then (some (⟨#[]⟩ : ByteArray)) else ((spec_FormatInt.f kj51 (wrap64 (a0_0 + 1))).bind fun t119 => (if (⟨#[]⟩ : ByteArray).size + t119.size ≤ 9223372036854775807 then (some ((⟨#[]⟩ : ByteArray) ++ t119)) else (none)))) = some r := by rw [if_neg (show ¬ (false = true) by decide)] at H; exact H
                                      clear H
                                      have H := H1
                                      clear H1
                                      by_cases c61 : (⟨#[]⟩ : ByteArray).toList = ([] : List UInt8)
                                      · rw [if_pos c61] at H
                                        have c61b0 : ((⟨#[]⟩ : ByteArray).toList == ([] : List UInt8)) = true := beq_iff_eq.mpr c61
                                        have c61b1 : ((⟨#[]⟩ : ByteArray).toList != ([] : List UInt8)) = false := bne_eq_false_iff_eq.mpr c61
                                        clear c61
                                        obtain rfl := Option.some.inj H
                                        go_wp2
                                        go_ret
                                        exact ⟨by first | rfl | (simp [errW_none, errW_some] <;> rfl) | (simp [*, errW_none, errW_some] <;> rfl), by repeat (first | (with_reducible first | exact HB.out | apply below_alloc | apply pw_below_drewN | apply below_drew1 | refine below_set ?_ GE107.out) | exact HB.out)⟩
                                      · exact absurd (by first | rfl | decide +kernel | simp [ByteArray.toList, ByteArray.toList.loop, ByteArray.size]) c61
          · rw [if_neg c11] at H
            exact absurd H (by simp)
        · rw [if_neg c10] at H
          exact absurd H (by simp)

end Go.Proofs.YtkkagnedflfcjaaDoor.QFnExactIntervalText
