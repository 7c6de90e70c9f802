/- The Go functions that the law FnIntervals reaches, as Lean functions, and that each call comes to just that (written by a program of this session out of the print's text). Conditions: those each lemma states. -/
import Derived.Test.YtcopehngagejiaaDoorShelf
import Derived.Deep.RegionHeld3
import Derived.BigRegion
import Derived.RegionTactic
import Derived.Deep.RegionWith
import Derived.Test.YtcopehngagejiaaDoorQFnIntervalsx0
import Derived.Test.YtcopehngagejiaaDoorQFnIntervalsx3
import Derived.Test.YtcopehngagejiaaDoorQFnIntervalsx6
namespace Go.Proofs.YtcopehngagejiaaDoor.QFnIntervals
open Go.RowKit Go.Proofs.YtcopehngagejiaaDoorW.PrintWords Go.Proofs.YtcopehngagejiaaDoorW.PrintLast Go.Proofs.YtcopehngagejiaaDoorW.PrintMore
attribute [local go_sem] max2_int min2_int max_two min_two max_three min_three max_four min_four   -- for this text's walks alone
set_option linter.unusedVariables false
set_option linter.unusedSimpArgs false

/-! ### spec_DrawIntervalText: function 14 -/
def spec_DrawIntervalText.f (k : Nat) (l0 : List Int) : Option (Int × Int) := (spec_l1New.f k l0).bind fun bt297 => ((spec_l1Once.f bt297.1 bt297.2.1 bt297.2.2 2).bind fun bt301 => (if bt301.1 = true then ((spec_l1Below.f bt297.1 bt301.2.1 bt301.2.2 9).bind fun bt304 => ((some (([0, 2, 4, 5, 7, 9, 11, 12, 14] : List Int) : List Int)).bind fun y307 => (if 0 ≤ bt304.1 then (if bt304.1 < (y307.length : Int) then ((spec_l1Below.f bt297.1 bt304.2.1 bt304.2.2 6).bind fun bt311 => (some (bt304.1, wrap64 ((wrap64 ((rd y307 bt304.1) + bt311.1)) - 3)))) else (none)) else (none)))) else ((spec_l6Any.f bt297.1 bt301.2.1 bt301.2.2).bind fun bt314 => (some (bt314.1, bt314.2.1)))))
theorem spec_DrawIntervalText.mono : ∀ a0 k, LeO (spec_DrawIntervalText.f k a0) (spec_DrawIntervalText.f (k + 1) a0) := by
  intro a0 k
  unfold spec_DrawIntervalText.f
  repeat' first
      | (with_reducible exact spec_l1New.mono _ _)
      | (with_reducible exact LeO.refl _)
      | (with_reducible exact LeO.none _)
      | (with_reducible refine LeO.ite ?_ ?_)
      | (with_reducible refine LeO.bind ?_ (fun _ => ?_))
      | exact spec_l1New.mono _ _
      | exact LeO.none _
      | refine LeO.ite ?_ ?_
      | refine LeO.bind ?_ (fun _ => ?_)
def spec_DrawIntervalText.T4 : Bool × List (List Nat × List Nat) := (true, [([], []), ([], []), ([], []), ([1, 2], [1, 2]), ([3], [3]), ([], []), ([5], [5]), ([4, 6], [4, 6]), ([7], [7]), ([0, 8], [0, 8]), ([9, 6, 0, 1, 2, 3, 4, 5, 6, 7, 8, 9], [9])])
def spec_DrawIntervalText.B4 : List Nat := [0, 0, 0, 6, 14, 0, 32, 126, 254, 511, 1023]
theorem spec_DrawIntervalText.tab4 : rtab .any (opsOf Tryd.f14 4) = spec_DrawIntervalText.T4 := by kernel_rfl
theorem spec_DrawIntervalText.bits4 : waitsOk spec_DrawIntervalText.T4.2 spec_DrawIntervalText.B4 = true := by kernel_rfl
set_option maxHeartbeats 8000000 in
set_option maxRecDepth 100000 in
theorem spec_DrawIntervalText.calls (k : Nat) (A0 : Option Addr) (c0 : Nat) (l0 : List Int) (r1 : Int) (r2 : Int) (w : World) (hr0 : Kd.C (Kd.int .u8) w A0 l0.length l0) (hc0 : l0.length ≤ c0) (h : spec_DrawIntervalText.f k l0 = some (r1, r2)) :
    Calls Tryd.prog 14 #[.slice A0 l0.length c0] w fun e w' => e = .returned (.agg #[.int .i64 r1, .int .i64 r2]) ∧ Below w.heap.size w w' := by
  have hu29 := Tryd.underlying29
  have HR0 := Aside0.mk hr0
  have HC0 := Aside0.mk hc0
  clear hr0 hc0
  have HB := Aside0.mk (Below.refl w.heap.size w)
  have H : ((spec_l1New.f k l0).bind fun bt297 => ((spec_l1Once.f bt297.1 bt297.2.1 bt297.2.2 2).bind fun bt301 => (if bt301.1 = true then ((spec_l1Below.f bt297.1 bt301.2.1 bt301.2.2 9).bind fun bt304 => ((some (([0, 2, 4, 5, 7, 9, 11, 12, 14] : List Int) : List Int)).bind fun y307 => (if 0 ≤ bt304.1 then (if bt304.1 < (y307.length : Int) then ((spec_l1Below.f bt297.1 bt304.2.1 bt304.2.2 6).bind fun bt311 => (some (bt304.1, wrap64 ((wrap64 ((rd y307 bt304.1) + bt311.1)) - 3)))) else (none)) else (none)))) else ((spec_l6Any.f bt297.1 bt301.2.1 bt301.2.2).bind fun bt314 => (some (bt314.1, bt314.2.1)))))) = some (r1, r2) := h
  clear h
  replace H := Option.bind_eq_some_iff.mp H
  obtain ⟨⟨t297, t298, t299⟩, A20, H⟩ := H
  replace H : ((spec_l1Once.f t297 t298 t299 2).bind fun bt301 => (if bt301.1 = true then ((spec_l1Below.f t297 bt301.2.1 bt301.2.2 9).bind fun bt304 => ((some (([0, 2, 4, 5, 7, 9, 11, 12, 14] : List Int) : List Int)).bind fun y307 => (if 0 ≤ bt304.1 then (if bt304.1 < (y307.length : Int) then ((spec_l1Below.f t297 bt304.2.1 bt304.2.2 6).bind fun bt311 => (some (bt304.1, wrap64 ((wrap64 ((rd y307 bt304.1) + bt311.1)) - 3)))) else (none)) else (none)))) else ((spec_l6Any.f t297 bt301.2.1 bt301.2.2).bind fun bt314 => (some (bt314.1, bt314.2.1))))) = some (r1, r2) := H
  have A2 := Aside0.mk A20
  clear A20
  replace H := Option.bind_eq_some_iff.mp H
  obtain ⟨⟨t301, t302, t303⟩, A30, H⟩ := H
  replace H : (if t301 = true then ((spec_l1Below.f t297 t302 t303 9).bind fun bt304 => ((some (([0, 2, 4, 5, 7, 9, 11, 12, 14] : List Int) : List Int)).bind fun y307 => (if 0 ≤ bt304.1 then (if bt304.1 < (y307.length : Int) then ((spec_l1Below.f t297 bt304.2.1 bt304.2.2 6).bind fun bt311 => (some (bt304.1, wrap64 ((wrap64 ((rd y307 bt304.1) + bt311.1)) - 3)))) else (none)) else (none)))) else ((spec_l6Any.f t297 t302 t303).bind fun bt314 => (some (bt314.1, bt314.2.1)))) = some (r1, r2) := H
  have A3 := Aside0.mk A30
  clear A30
  by_cases c4 : t301 = true
  · subst c4
    have H1 : ((spec_l1Below.f t297 t302 t303 9).bind fun bt304 => ((some (([0, 2, 4, 5, 7, 9, 11, 12, 14] : List Int) : List Int)).bind fun y307 => (if 0 ≤ bt304.1 then (if bt304.1 < (y307.length : Int) then ((spec_l1Below.f t297 bt304.2.1 bt304.2.2 6).bind fun bt311 => (some (bt304.1, wrap64 ((wrap64 ((rd y307 bt304.1) + bt311.1)) - 3)))) else (none)) else (none)))) = some (r1, r2) := by rw [if_pos rfl] at H; exact H
    clear H
    have H := H1
    clear H1
    replace H := Option.bind_eq_some_iff.mp H
    obtain ⟨⟨t304, t305, t306⟩, A50, H⟩ := H
    replace H : ((some (([0, 2, 4, 5, 7, 9, 11, 12, 14] : List Int) : List Int)).bind fun y307 => (if 0 ≤ t304 then (if t304 < (y307.length : Int) then ((spec_l1Below.f t297 t305 t306 6).bind fun bt311 => (some (t304, wrap64 ((wrap64 ((rd y307 t304) + bt311.1)) - 3)))) else (none)) else (none))) = some (r1, r2) := H
    have A5 := Aside0.mk A50
    clear A50
    obtain ⟨y307, hy307⟩ : ∃ y_ : List Int, y_ = (([0, 2, 4, 5, 7, 9, 11, 12, 14] : List Int)) := ⟨_, rfl⟩
    replace H : (if 0 ≤ t304 then (if t304 < (y307.length : Int) then ((spec_l1Below.f t297 t305 t306 6).bind fun bt311 => (some (t304, wrap64 ((wrap64 ((rd y307 t304) + bt311.1)) - 3)))) else (none)) else (none)) = some (r1, r2) := by first | (rw [hy307]; with_reducible exact H) | (have H2_ := (Option.bind_some _ _).symm.trans H; rw [hy307]; with_reducible exact H2_) | (have H2_ := (Option.bind_some _ _).symm.trans H; with_reducible exact H2_) | with_reducible exact H | (rw [hy307]; exact H) | exact H
    have Ny307 := Aside0.mk hy307
    clear hy307
    by_cases c6 : 0 ≤ t304
    · rw [if_pos c6] at H
      have c6b0 : decide (0 ≤ t304) = true := decide_eq_true c6
      clear c6
      by_cases c7 : t304 < (y307.length : Int)
      · rw [if_pos c7] at H
        have c7b0 : decide (t304 < (y307.length : Int)) = true := decide_eq_true c7
        clear c7
        replace H := Option.bind_eq_some_iff.mp H
        obtain ⟨⟨t311, t312, t313⟩, A80, H⟩ := H
        replace H : (some (t304, wrap64 ((wrap64 ((rd y307 t304) + t311)) - 3))) = some (r1, r2) := H
        have A8 := Aside0.mk A80
        clear A80
        simp only [Option.some.injEq, Prod.mk.injEq] at H
        obtain ⟨rfl, rfl⟩ := H
        go_enter Tryd.func14, Tryd.ntmps14
        try go_wp2_with (first | ((with_reducible refine gate_dst (N := 2) rfl ?_); refine box_event ?hg (N := 2) ?hd (cs := #[.int .i64 0, .int .i64 0]) (t := 29) ?hr ?_; (case hd => rfl); (case hg => rfl); (case hr => first | (go_simp; done) | (go_simp; rfl)); intro gb296 hg w9 hbox hb; have n0_ := Aside0.mk (below_step (by repeat (first | (with_reducible first | exact HB.out | apply below_alloc | apply pw_below_drewN | apply below_drew1) | exact HB.out)) hb); have n1_ := Aside0.mk (hbox); have n2_ := Aside0.mk ((by rw [hg]; exact (below_size (by repeat (first | (with_reducible first | exact HB.out | apply below_alloc | apply pw_below_drewN | apply below_drew1) | exact HB.out))) : w.heap.size ≤ gb296)); have n3_ := Aside0.mk ((by rw [hg]; exact (below_size (by repeat (first | (with_reducible first | exact HB.out | apply below_alloc | apply pw_below_drewN | apply below_drew1) | exact HB.out))) : w.heap.size ≤ gb296)); clear HB; have HB := n0_; have BK296 := n1_; have GW296 := n2_; have GE296 := n3_; clear n0_ n1_ n2_ n3_; clear hb hbox hg) | ((with_reducible refine gate_callee (f := 31) rfl ?_); refine goesL_ (some 6) rfl rfl Tryd.func31 (by kernel_rfl) rfl #[.slice A0 l0.length c0] rfl (by (try simp only [List.map_toArray, List.map_cons, List.map_nil]); first | done | rfl | (simp only [List.length_drop, List.length_take]; rfl)) ?_; (with_reducible refine (spec_l1New.calls k _ _ l0 t297 t298 t299 w _ ?side1 ?side2 ?side3 A2.out).mono ?_); (case side1 => repeat (first | (with_reducible first | exact HB.out | apply below_alloc | apply pw_below_drewN | apply below_drew1 | refine below_set ?_ GE296.out) | exact HB.out)); (case side2 => exact HR0.out); (case side3 => exact HC0.out); rintro e w10 ⟨g300, rfl, hi, hb, hb2⟩; refine ⟨_, rfl, ?_⟩; have n0_ := Aside0.mk (blk_below (g := gb296) (o := .cells #[.int .i64 0, .int .i64 0] 29 (0, 0)) (by (with_reducible repeat (first | refine blk_drewN ?_ _ | refine blk_drew ?_ | refine blk_alloc ?_ _)); exact BK296.out) hb2); have n1_ := Aside0.mk (hb); have n2_ := Aside0.mk (hi); have n3_ := Aside0.mk (IsS71.ne_blk hi (blk_below (g := gb296) (o := .cells #[.int .i64 0, .int .i64 0] 29 (0, 0)) (by (with_reducible repeat (first | refine blk_drewN ?_ _ | refine blk_drew ?_ | refine blk_alloc ?_ _)); exact BK296.out) hb2) (by decide)); have n4_ := Aside0.mk (Ne.symm (IsS71.ne_blk hi (blk_below (g := gb296) (o := .cells #[.int .i64 0, .int .i64 0] 29 (0, 0)) (by (with_reducible repeat (first | refine blk_drewN ?_ _ | refine blk_drew ?_ | refine blk_alloc ?_ _)); exact BK296.out) hb2) (by decide))); clear BK296; clear HB; have BK296 := n0_; have HB := n1_; have HI300 := n2_; have NB300_296 := n3_; have NB296_300 := n4_; clear n0_ n1_ n2_ n3_ n4_; (try clear hb); (try clear hb2); (try clear hk); (try clear hi)) | ((with_reducible refine gate_callee (f := 38) rfl ?_); refine goesL_ (some 8) rfl rfl Tryd.func38 (by kernel_rfl) rfl #[.pointer (some ⟨g300, 0, none⟩), .int .i64 2] rfl (by (try simp only [List.map_toArray, List.map_cons, List.map_nil]); first | done | rfl | (simp only [List.length_drop, List.length_take]; rfl)) ?_; (with_reducible refine (spec_l1Once.calls g300 t297 t298 t299 2 true t302 t303 w _ ?side1 ?side2 A3.out).mono ?_); (case side1 => repeat (first | (with_reducible first | exact HI300.out | apply IsS71.alloc | apply IsS71.drewN | apply IsS71.drew | apply IsS71.set_1 | apply IsS71.set_2 | refine IsS71.far ?_ NB300_296.out _) | exact HI300.out)); (case side2 => repeat (first | (with_reducible first | exact HB.out | apply below_alloc | apply pw_below_drewN | apply below_drew1 | refine below_set ?_ (IsS71.ge HI300.out) | refine below_set ?_ GE296.out) | exact HB.out)); rintro e w11 ⟨rfl, hi, hb, hk⟩; refine ⟨_, rfl, ?_⟩; have n0_ := Aside0.mk (KeepBut.blk hk (g' := gb296) (o := .cells #[.int .i64 0, .int .i64 0] 29 (0, 0)) (by (with_reducible repeat (first | refine blk_drewN ?_ _ | refine blk_drew ?_ | refine blk_alloc ?_ _)); exact BK296.out) NB296_300.out (by simp)); have n1_ := Aside0.mk (hb); have n2_ := Aside0.mk (hi); clear BK296; clear HB; clear HI300; have BK296 := n0_; have HB := n1_; have HI300 := n2_; clear n0_ n1_ n2_; (try clear hb); (try clear hb2); (try clear hk); (try clear hi)) | ((with_reducible refine gate_callee (f := 40) rfl ?_); refine goesL_ (some 10) rfl rfl Tryd.func40 (by kernel_rfl) rfl #[.pointer (some ⟨g300, 0, none⟩), .int .i64 9] rfl (by (try simp only [List.map_toArray, List.map_cons, List.map_nil]); first | done | rfl | (simp only [List.length_drop, List.length_take]; rfl)) ?_; (with_reducible refine (spec_l1Below.calls g300 t297 t302 t303 9 t304 t305 t306 w _ ?side1 ?side2 A5.out).mono ?_); (case side1 => repeat (first | (with_reducible first | exact HI300.out | apply IsS71.alloc | apply IsS71.drewN | apply IsS71.drew | apply IsS71.set_1 | apply IsS71.set_2 | refine IsS71.far ?_ NB300_296.out _) | exact HI300.out)); (case side2 => repeat (first | (with_reducible first | exact HB.out | apply below_alloc | apply pw_below_drewN | apply below_drew1 | refine below_set ?_ (IsS71.ge HI300.out) | refine below_set ?_ GE296.out) | exact HB.out)); rintro e w12 ⟨rfl, hi, hb, hk⟩; refine ⟨_, rfl, ?_⟩; have n0_ := Aside0.mk (KeepBut.blk hk (g' := gb296) (o := .cells #[.int .i64 0, .int .i64 0] 29 (0, 0)) (by (with_reducible repeat (first | refine blk_drewN ?_ _ | refine blk_drew ?_ | refine blk_alloc ?_ _)); exact BK296.out) NB296_300.out (by simp)); have n1_ := Aside0.mk (hb); have n2_ := Aside0.mk (hi); clear BK296; clear HB; clear HI300; have BK296 := n0_; have HB := n1_; have HI300 := n2_; clear n0_ n1_ n2_; (try clear hb); (try clear hb2); (try clear hk); (try clear hi)))
        have pi310 : (0 ≤ (t304 : Int)) = True := eq_true (of_decide_eq_true (by first | (with_reducible assumption) | assumption))
        have qi310 : (t304 < (y307.length : Int)) = True := eq_true (of_decide_eq_true (by first | (with_reducible assumption) | assumption))
        have n0_ := Aside0.mk (blk_drew BK296.out)
        have n1_ := Aside0.mk (IsS71.drew HI300.out)
        have n2_ := Aside0.mk (below_drew1 HB.out)
        clear BK296
        clear HI300
        clear HB
        have BK296 := n0_
        have HI300 := n1_
        have HB := n2_
        clear n0_ n1_ n2_
        refine start_ (n := 11) (S := fun w' => True) (ds := []) #[false, false, false, false, false, false, false, false, false, false, false] (by kernel_rfl) rfl rfl trivial (fun hHeld => ?_); refine with_tabW spec_DrawIntervalText.tab4 spec_DrawIntervalText.bits4 (fun HT_ HW_ => ?_)
        generalize w12.drew = w13 at BK296 HI300 HB hHeld ⊢
        refine pure_ (i := 0) (N := some 11) (v := ?_) (a' := ?_) #[true, false, false, false, false, false, false, false, false, false, false] rfl rfl (any_of HT_.out (by kernel_rfl)) (fun _ _ _ h => h) (Or.inl ⟨by rfl, ?_⟩) ?_ ?_
        rotate_left
        · intro w'
          go_simp
          with_reducible rfl
        rotate_left
        · simp only [Act.put, List.setIfInBounds_toArray, List.set_cons_zero, List.set_cons_succ, i64_w, i32_w]
          rfl
        refine pure_ (i := 2) (N := some 13) (v := ?_) (a' := ?_) #[true, false, true, false, false, false, false, false, false, false, false] rfl rfl (any_of HT_.out (by kernel_rfl)) (fun _ _ _ h => h) (Or.inl ⟨by rfl, ?_⟩) ?_ ?_
        rotate_left
        · intro w'
          go_simp
          with_reducible rfl
        rotate_left
        · simp only [Act.put, List.setIfInBounds_toArray, List.set_cons_zero, List.set_cons_succ, i64_w, i32_w]
          rfl
        refine pure_ (i := 5) (N := some 16) (v := ?_) (a' := ?_) #[true, false, true, false, false, true, false, false, false, false, false] rfl rfl (any_of HT_.out (by kernel_rfl)) (fun _ _ _ h => h) (Or.inl ⟨by rfl, ?_⟩) ?_ ?_
        rotate_left
        · intro w'
          go_simp
          with_reducible rfl
        rotate_left
        · simp only [Act.put, List.setIfInBounds_toArray, List.set_cons_zero, List.set_cons_succ, i64_w, i32_w]
          rfl
        refine inv_at [1, 3, 4, 6, 7, 8, 9, 10] (fun a0_ b a w' => ∃ (v308 : Value) (adz_v308 : Addr) (m3_ : Value), a = putSel a0_ b [(1, 12, v308), (3, 14, m3_), (4, 15, .int .i64 (rd y307 t304)), (6, 17, .int .i64 t311), (7, 18, .int .i64 (wrap64 ((rd y307 t304) + t311))), (8, 19, .int .i64 (wrap64 ((wrap64 ((rd y307 t304) + t311)) - 3))), (9, 20, .agg #[.int .i64 t304, .int .i64 (wrap64 ((wrap64 ((rd y307 t304) + t311)) - 3))])] ∧ (b 10 = false → w'.heap[gb296]? = some (.cells #[.int .i64 0, .int .i64 0] 29 (0, 0))) ∧ (b 6 = false → IsS71 w w' g300 t297 t305 t306) ∧ (Below w.heap.size w w') ∧ (b 1 = true → Kd.R (Kd.int .i64) 3 w' w.heap.size (fun _ => True) v308 y307) ∧ (b 1 = true → ∃ c_, (v308 : Value) = .slice (some adz_v308) y307.length c_) ∧ (b 6 = true → IsS71 w w' g300 t297 t312 t313) ∧ (b 10 = true → w'.heap[gb296]? = some (.cells #[.int .i64 t304, .int .i64 (wrap64 ((wrap64 ((rd y307 t304) + t311)) - 3))] 29 (0, 0))) ∧ (b 3 = true → (m3_ : Value) = .pointer (some (adz_v308.add (t304).toNat)))) HT_.out HW_.out (by kernel_rfl) (by kernel_rfl) ?_ ?_ ?_
        · exact ⟨.bool false, ⟨0, 0, none⟩, .bool false, by simp only [putSel, Bool.false_eq_true, if_false], fun _ => BK296.out, fun _ => HI300.out, HB.out, fun h_ => absurd h_ (by decide), fun h_ => absurd h_ (by decide), fun h_ => absurd h_ (by decide), fun h_ => absurd h_ (by decide), fun h_ => absurd h_ (by decide)⟩
        · skip
          clear BK296 HB HI300
          refine steps_cons ?_ ?_
          · rintro b a w' ⟨v308, adz_v308, m3_, ha, Q_BK296, Q_HI300, Q_HB, Q_HO309, Q_HA_HO309, Q_HI300_e6, Q_BK296_e10, Q_X3_⟩ hb_ hon hoff
            refine ⟨_, rfl, fun K hK => ?_⟩
            replace ha := Aside0.mk ha
            have BK296 := Aside0.mk (Q_BK296 (hoff 10 (by kernel_rfl)))
            have HB := Aside0.mk Q_HB
            refine Kd.R_lit_step (Kd.int .i64) _ 3 ?hg (N := 12) ?hd (xs := ([0, 2, 4, 5, 7, 9, 11, 12, 14] : List Int)) (inner := [.int .i64 0, .int .i64 2, .int .i64 4, .int .i64 5, .int .i64 7, .int .i64 9, .int .i64 11, .int .i64 12, .int .i64 14]) (ok := fun _ => True) (okp := fun _ => True) ?hr ?hp (fun _ hk => hk) trivial (Below.refl _ _) (Nat.le_refl _) (by simp) ?_; (case hd => rfl); (case hg => rfl); (case hr => first | (go_simp; done) | (go_simp; rfl)); (case hp => exact (Reps.one (show Kd.M (Kd.int .i64) _ _ _ 0 [.int .i64 0] from rfl) (Reps.one (show Kd.M (Kd.int .i64) _ _ _ 2 [.int .i64 2] from rfl) (Reps.one (show Kd.M (Kd.int .i64) _ _ _ 4 [.int .i64 4] from rfl) (Reps.one (show Kd.M (Kd.int .i64) _ _ _ 5 [.int .i64 5] from rfl) (Reps.one (show Kd.M (Kd.int .i64) _ _ _ 7 [.int .i64 7] from rfl) (Reps.one (show Kd.M (Kd.int .i64) _ _ _ 9 [.int .i64 9] from rfl) (Reps.one (show Kd.M (Kd.int .i64) _ _ _ 11 [.int .i64 11] from rfl) (Reps.one (show Kd.M (Kd.int .i64) _ _ _ 12 [.int .i64 12] from rfl) (Reps.one (show Kd.M (Kd.int .i64) _ _ _ 14 [.int .i64 14] from rfl) (Reps.none _ _)))))))))))
            intro v308 w14 ho15 hb hg_ hnew_
            clear hg_ hnew_
            (first | rw [← Ny307.out] at ho15 | (simp only [Int.reduceToNat] at ho15; rw [← Ny307.out] at ho15))
            have n0_ := Aside0.mk (Kd.R_lower ho15 (below_size (by repeat (first | (with_reducible first | exact HB.out | apply below_alloc | apply pw_below_drewN | apply below_drew1 | refine below_set ?_ GE296.out) | exact HB.out))))
            have n1_ := Aside0.mk (blk_below (g := gb296) (o := .cells #[.int .i64 0, .int .i64 0] 29 (0, 0)) (by (with_reducible repeat (first | refine blk_drewN ?_ _ | refine blk_drew ?_ | refine blk_alloc ?_ _)); exact BK296.out) hb)
            have n3_ := Aside0.mk (below_step (by repeat (first | (with_reducible first | exact HB.out | apply below_alloc | apply pw_below_drewN | apply below_drew1 | refine below_set ?_ GE296.out) | exact HB.out)) hb)
            have z_HI300 := fun (h0_ : b 6 = false) => (show IsS71 w w14 g300 t297 t305 t306 from by first | exact (IsS71.below (by repeat (first | (with_reducible first | exact (Q_HI300 h0_) | apply IsS71.alloc | apply IsS71.drewN | apply IsS71.drew | apply IsS71.set_1 | apply IsS71.set_2 | refine IsS71.far ?_ NB300_296.out _) | exact (Q_HI300 h0_))) hb))
            have z_HI300_e6 := fun (h0_ : b 6 = true) => (show IsS71 w w14 g300 t297 t312 t313 from by first | exact (IsS71.below (by repeat (first | (with_reducible first | exact (Q_HI300_e6 h0_) | apply IsS71.alloc | apply IsS71.drewN | apply IsS71.drew | apply IsS71.set_1 | apply IsS71.set_2 | refine IsS71.far ?_ NB300_296.out _) | exact (Q_HI300_e6 h0_))) hb))
            clear BK296
            clear HB
            have HO309 := n0_
            have BK296 := n1_
            have HB := n3_
            clear n0_ n1_ n3_
            clear hb ho15
            obtain ⟨Ao16, co16, eo16⟩ := Kd.R_slice HO309.out
            subst eo16
            obtain ⟨ado16, fo16, _⟩ := Kd.at_int (Kd.R_reads' HO309.out).2.2 0 (by decide) (by rw [Ny307.out]; simp)
            cases fo16
            refine hK.out _ _ ⟨.slice (some ado16) y307.length co16, ado16, m3_, (by rw [ha.out]; exact putSel_upk 0 hb_ rfl rfl rfl), fun _ => (by (with_reducible repeat (first | refine blk_drewN ?_ _ | refine blk_drew ?_ | refine blk_alloc ?_ _)); exact BK296.out), z_HI300, (by repeat (first | (with_reducible first | exact HB.out | apply below_alloc | apply pw_below_drewN | apply below_drew1 | refine below_set ?_ GE296.out) | exact HB.out)), fun _ => (by (with_reducible repeat (first | apply Kd.R_alloc | apply Kd.R_drewN | apply Kd.R_drew)); exact HO309.out), fun _ => ⟨_, rfl⟩, z_HI300_e6, fun h0_ => absurd ((hoff 10 (by kernel_rfl)).symm.trans h0_) (by decide), fun h0_ => absurd ((hoff 3 (by kernel_rfl)).symm.trans h0_) (by decide)⟩
          refine steps_cons ?_ ?_
          · rintro b a w' ⟨v308, adz_v308, m3_, ha, Q_BK296, Q_HI300, Q_HB, Q_HO309, Q_HA_HO309, Q_HI300_e6, Q_BK296_e10, Q_X3_⟩ hb_ hon hoff
            refine ⟨_, rfl, fun K hK => ?_⟩
            have e12 : a.tmps[12]? = some (v308) := by rw [ha]; exact putSel_on (e := (1, 12, v308)) 0 rfl rfl (hon 1 (by kernel_rfl)) rfl
            have e13 : a.tmps[13]? = some (.int .i64 t304) := by rw [ha]; exact (putSel_off rfl).trans rfl
            replace ha := Aside0.mk ha
            have BK296 := Aside0.mk (Q_BK296 (hoff 10 (by kernel_rfl)))
            have HB := Aside0.mk Q_HB
            have HO309 := Aside0.mk (Q_HO309 (hon 1 (by kernel_rfl)))
            have HA_HO309 := Aside0.mk (Q_HA_HO309 (hon 1 (by kernel_rfl)))
            obtain ⟨c_, hv_⟩ := HA_HO309.out
            rw [hv_] at e12
            refine value_ (w1 := w') (v := .pointer (some (adz_v308.add (t304).toNat))) (by rfl) rfl ?_ ?_
            · go_simp
              (try simp only [i64_w])
              try rfl
            refine hK.out _ _ ⟨v308, adz_v308, (.pointer (some (adz_v308.add (t304).toNat))), (by rw [ha.out]; exact putSel_upk 1 hb_ rfl rfl rfl), Q_BK296, Q_HI300, Q_HB, Q_HO309, Q_HA_HO309, Q_HI300_e6, fun h0_ => absurd ((hoff 10 (by kernel_rfl)).symm.trans h0_) (by decide), fun _ => rfl⟩
          refine steps_cons ?_ ?_
          · rintro b a w' ⟨v308, adz_v308, m3_, ha, Q_BK296, Q_HI300, Q_HB, Q_HO309, Q_HA_HO309, Q_HI300_e6, Q_BK296_e10, Q_X3_⟩ hb_ hon hoff
            refine ⟨_, rfl, fun K hK => ?_⟩
            have e14 : a.tmps[14]? = some (m3_) := by rw [ha]; exact putSel_on (e := (3, 14, m3_)) 1 rfl rfl (hon 3 (by kernel_rfl)) rfl
            rw [Q_X3_ (hon 3 (by kernel_rfl))] at e14
            replace ha := Aside0.mk ha
            have BK296 := Aside0.mk (Q_BK296 (hoff 10 (by kernel_rfl)))
            have HB := Aside0.mk Q_HB
            have HO309 := Aside0.mk (Q_HO309 (hon 1 (by kernel_rfl)))
            have HA_HO309 := Aside0.mk (Q_HA_HO309 (hon 1 (by kernel_rfl)))
            obtain ⟨c_, hv_⟩ := HA_HO309.out
            have hF_ := HO309.out
            rw [hv_] at hF_
            obtain ⟨ad_, ea_, hx_⟩ := Kd.at_int (Kd.R_reads' hF_).2.2 t304 (of_eq_true pi310) (of_eq_true qi310)
            cases ea_
            refine value_ (w1 := w') (v := .int .i64 (rd y307 t304)) (by rfl) rfl ?_ ?_
            · go_simp
              (try simp only [i64_w])
              try rfl
            refine hK.out _ _ ⟨v308, adz_v308, m3_, (by rw [ha.out]; exact putSel_upk 2 hb_ rfl rfl rfl), Q_BK296, Q_HI300, Q_HB, Q_HO309, Q_HA_HO309, Q_HI300_e6, fun h0_ => absurd ((hoff 10 (by kernel_rfl)).symm.trans h0_) (by decide), Q_X3_⟩
          refine steps_cons ?_ ?_
          · rintro b a w' ⟨v308, adz_v308, m3_, ha, Q_BK296, Q_HI300, Q_HB, Q_HO309, Q_HA_HO309, Q_HI300_e6, Q_BK296_e10, Q_X3_⟩ hb_ hon hoff
            refine ⟨_, rfl, fun K hK => ?_⟩
            have e16 : a.tmps[16]? = some (.pointer (some ⟨g300, 0, none⟩)) := by rw [ha]; exact (putSel_off rfl).trans rfl
            replace ha := Aside0.mk ha
            have BK296 := Aside0.mk (Q_BK296 (hoff 10 (by kernel_rfl)))
            have HI300 := Aside0.mk (Q_HI300 hb_)
            have HB := Aside0.mk Q_HB
            refine goes_ Tryd.func40 (by kernel_rfl) rfl #[.pointer (some ⟨g300, 0, none⟩), .int .i64 6] (by rfl) rfl rfl (by first | (simp only [List.map_toArray, List.map_cons, List.map_nil, Act.eval, Array.getD_eq_getD_getElem?, Option.getD_some, e16]; done) | (simp only [List.map_toArray, List.map_cons, List.map_nil, Act.eval, Array.getD_eq_getD_getElem?, Option.getD_some, e16]; rfl)) ?_
            with_reducible refine (spec_l1Below.calls g300 t297 t305 t306 6 t311 t312 t313 w _ ?side1 ?side2 A8.out).mono ?_
            (case side1 => repeat (first | (with_reducible first | exact HI300.out | apply IsS71.alloc | apply IsS71.drewN | apply IsS71.drew | apply IsS71.set_1 | apply IsS71.set_2 | refine IsS71.far ?_ NB300_296.out _) | exact HI300.out))
            (case side2 => repeat (first | (with_reducible first | exact HB.out | apply below_alloc | apply pw_below_drewN | apply below_drew1 | refine below_set ?_ (IsS71.ge HI300.out) | refine below_set ?_ GE296.out) | exact HB.out))
            rintro e w14 ⟨rfl, hi, hb, hk⟩
            refine ⟨_, rfl, ?_⟩
            have n0_ := Aside0.mk (KeepBut.blk hk (g' := gb296) (o := .cells #[.int .i64 0, .int .i64 0] 29 (0, 0)) (by (with_reducible repeat (first | refine blk_drewN ?_ _ | refine blk_drew ?_ | refine blk_alloc ?_ _)); exact BK296.out) NB296_300.out (by simp))
            have n1_ := Aside0.mk (hb)
            have n2_ := Aside0.mk (hi)
            have z_HO309 := fun (h0_ : b 1 = true) => (show Kd.R (Kd.int .i64) 3 w14 w.heap.size (fun _ => True) v308 y307 from by first | exact (Kd.R_mono (Kd.R_keep (IsS71.apart (show IsS71 w _ g300 t297 t305 t306 from by repeat (first | (with_reducible first | exact HI300.out | apply IsS71.alloc | apply IsS71.drewN | apply IsS71.drew | apply IsS71.set_1 | apply IsS71.set_2 | refine IsS71.far ?_ NB300_296.out _) | exact HI300.out)) (by (with_reducible repeat (first | apply Kd.R_alloc | apply Kd.R_drewN | apply Kd.R_drew)); exact (Q_HO309 h0_)) (by decide)) hk (fun _ h => h.2)) (fun _ h => h.1)) | exact Kd.R_mono (Kd.R_mono (Kd.R_keep (IsS71.apart (show IsS71 w _ g300 t297 t305 t306 from by repeat (first | (with_reducible first | exact HI300.out | apply IsS71.alloc | apply IsS71.drewN | apply IsS71.drew | apply IsS71.set_1 | apply IsS71.set_2 | refine IsS71.far ?_ NB300_296.out _) | exact HI300.out)) (by (with_reducible repeat (first | apply Kd.R_alloc | apply Kd.R_drewN | apply Kd.R_drew)); exact (Q_HO309 h0_)) (by decide)) hk (fun _ h => h.2)) (fun _ h => h.1)) (fun _ h_ => by first | trivial | exact h_ | exact h_.1))
            clear BK296
            clear HB
            clear HI300
            have BK296 := n0_
            have HB := n1_
            have HI300 := n2_
            clear n0_ n1_ n2_
            (try clear hb)
            (try clear hb2)
            (try clear hk)
            (try clear hi)
            refine hK.out _ _ ⟨v308, adz_v308, m3_, (by rw [ha.out]; exact putSel_upk 3 hb_ rfl rfl rfl), fun _ => (by (with_reducible repeat (first | refine blk_drewN ?_ _ | refine blk_drew ?_ | refine blk_alloc ?_ _)); exact BK296.out), fun h0_ => absurd ((up_self b 6).symm.trans h0_) (by decide), (by repeat (first | (with_reducible first | exact HB.out | apply below_alloc | apply pw_below_drewN | apply below_drew1 | refine below_set ?_ (IsS71.ge HI300.out) | refine below_set ?_ GE296.out) | exact HB.out)), z_HO309, Q_HA_HO309, fun _ => (by repeat (first | (with_reducible first | exact HI300.out | apply IsS71.alloc | apply IsS71.drewN | apply IsS71.drew | apply IsS71.set_1 | apply IsS71.set_2 | refine IsS71.far ?_ NB300_296.out _) | exact HI300.out)), fun h0_ => absurd ((hoff 10 (by kernel_rfl)).symm.trans h0_) (by decide), Q_X3_⟩
          refine steps_cons ?_ ?_
          · rintro b a w' ⟨v308, adz_v308, m3_, ha, Q_BK296, Q_HI300, Q_HB, Q_HO309, Q_HA_HO309, Q_HI300_e6, Q_BK296_e10, Q_X3_⟩ hb_ hon hoff
            refine ⟨_, rfl, fun K hK => ?_⟩
            have e15 : a.tmps[15]? = some (.int .i64 (rd y307 t304)) := by rw [ha]; exact putSel_on (e := (4, 15, .int .i64 (rd y307 t304))) 2 rfl rfl (hon 4 (by kernel_rfl)) rfl
            have e17 : a.tmps[17]? = some (.int .i64 t311) := by rw [ha]; exact putSel_on (e := (6, 17, .int .i64 t311)) 3 rfl rfl (hon 6 (by kernel_rfl)) rfl
            replace ha := Aside0.mk ha
            have BK296 := Aside0.mk (Q_BK296 (hoff 10 (by kernel_rfl)))
            have HB := Aside0.mk Q_HB
            have HO309 := Aside0.mk (Q_HO309 (hon 1 (by kernel_rfl)))
            have HA_HO309 := Aside0.mk (Q_HA_HO309 (hon 1 (by kernel_rfl)))
            have HI300 := Aside0.mk (Q_HI300_e6 (hon 6 (by kernel_rfl)))
            refine value_ (w1 := w') (v := .int .i64 (wrap64 ((rd y307 t304) + t311))) (by rfl) rfl ?_ ?_
            · go_simp
              (try simp only [i64_w])
              try rfl
            refine hK.out _ _ ⟨v308, adz_v308, m3_, (by rw [ha.out]; exact putSel_upk 4 hb_ rfl rfl rfl), Q_BK296, fun h0_ => absurd ((hon 6 (by kernel_rfl)).symm.trans h0_) (by decide), Q_HB, Q_HO309, Q_HA_HO309, Q_HI300_e6, fun h0_ => absurd ((hoff 10 (by kernel_rfl)).symm.trans h0_) (by decide), Q_X3_⟩
          refine steps_cons ?_ ?_
          · rintro b a w' ⟨v308, adz_v308, m3_, ha, Q_BK296, Q_HI300, Q_HB, Q_HO309, Q_HA_HO309, Q_HI300_e6, Q_BK296_e10, Q_X3_⟩ hb_ hon hoff
            refine ⟨_, rfl, fun K hK => ?_⟩
            have e18 : a.tmps[18]? = some (.int .i64 (wrap64 ((rd y307 t304) + t311))) := by rw [ha]; exact putSel_on (e := (7, 18, .int .i64 (wrap64 ((rd y307 t304) + t311)))) 4 rfl rfl (hon 7 (by kernel_rfl)) rfl
            replace ha := Aside0.mk ha
            have BK296 := Aside0.mk (Q_BK296 (hoff 10 (by kernel_rfl)))
            have HB := Aside0.mk Q_HB
            have HO309 := Aside0.mk (Q_HO309 (hon 1 (by kernel_rfl)))
            have HA_HO309 := Aside0.mk (Q_HA_HO309 (hon 1 (by kernel_rfl)))
            have HI300 := Aside0.mk (Q_HI300_e6 (hon 6 (by kernel_rfl)))
            refine value_ (w1 := w') (v := .int .i64 (wrap64 ((wrap64 ((rd y307 t304) + t311)) - 3))) (by rfl) rfl ?_ ?_
            · go_simp
              (try simp only [i64_w])
              try rfl
            refine hK.out _ _ ⟨v308, adz_v308, m3_, (by rw [ha.out]; exact putSel_upk 5 hb_ rfl rfl rfl), Q_BK296, fun h0_ => absurd ((hon 6 (by kernel_rfl)).symm.trans h0_) (by decide), Q_HB, Q_HO309, Q_HA_HO309, Q_HI300_e6, fun h0_ => absurd ((hoff 10 (by kernel_rfl)).symm.trans h0_) (by decide), Q_X3_⟩
          refine steps_cons ?_ ?_
          · rintro b a w' ⟨v308, adz_v308, m3_, ha, Q_BK296, Q_HI300, Q_HB, Q_HO309, Q_HA_HO309, Q_HI300_e6, Q_BK296_e10, Q_X3_⟩ hb_ hon hoff
            refine ⟨_, rfl, fun K hK => ?_⟩
            have e11 : a.tmps[11]? = some (.int .i64 t304) := by rw [ha]; exact (putSel_off rfl).trans rfl
            have e19 : a.tmps[19]? = some (.int .i64 (wrap64 ((wrap64 ((rd y307 t304) + t311)) - 3))) := by rw [ha]; exact putSel_on (e := (8, 19, .int .i64 (wrap64 ((wrap64 ((rd y307 t304) + t311)) - 3)))) 5 rfl rfl (hon 8 (by kernel_rfl)) rfl
            replace ha := Aside0.mk ha
            have BK296 := Aside0.mk (Q_BK296 (hoff 10 (by kernel_rfl)))
            have HB := Aside0.mk Q_HB
            have HO309 := Aside0.mk (Q_HO309 (hon 1 (by kernel_rfl)))
            have HA_HO309 := Aside0.mk (Q_HA_HO309 (hon 1 (by kernel_rfl)))
            have HI300 := Aside0.mk (Q_HI300_e6 (hon 6 (by kernel_rfl)))
            refine value_ (w1 := w') (v := .agg #[.int .i64 t304, .int .i64 (wrap64 ((wrap64 ((rd y307 t304) + t311)) - 3))]) (by rfl) rfl ?_ ?_
            · go_simp
              (try simp only [i64_w])
              try rfl
            refine hK.out _ _ ⟨v308, adz_v308, m3_, (by rw [ha.out]; exact putSel_upk 6 hb_ rfl rfl rfl), Q_BK296, fun h0_ => absurd ((hon 6 (by kernel_rfl)).symm.trans h0_) (by decide), Q_HB, Q_HO309, Q_HA_HO309, Q_HI300_e6, fun h0_ => absurd ((hoff 10 (by kernel_rfl)).symm.trans h0_) (by decide), Q_X3_⟩
          refine steps_cons ?_ ?_
          · rintro b a w' ⟨v308, adz_v308, m3_, ha, Q_BK296, Q_HI300, Q_HB, Q_HO309, Q_HA_HO309, Q_HI300_e6, Q_BK296_e10, Q_X3_⟩ hb_ hon hoff
            refine ⟨_, rfl, fun K hK => ?_⟩
            have e2 : a.tmps[2]? = some (.pointer (some ⟨gb296, 0, none⟩)) := by rw [ha]; exact (putSel_off rfl).trans rfl
            have e20 : a.tmps[20]? = some (.agg #[.int .i64 t304, .int .i64 (wrap64 ((wrap64 ((rd y307 t304) + t311)) - 3))]) := by rw [ha]; exact putSel_on (e := (9, 20, .agg #[.int .i64 t304, .int .i64 (wrap64 ((wrap64 ((rd y307 t304) + t311)) - 3))])) 6 rfl rfl (hon 9 (by kernel_rfl)) rfl
            replace ha := Aside0.mk ha
            have BK296 := Aside0.mk (Q_BK296 hb_)
            have HB := Aside0.mk Q_HB
            have HO309 := Aside0.mk (Q_HO309 (hon 1 (by kernel_rfl)))
            have HA_HO309 := Aside0.mk (Q_HA_HO309 (hon 1 (by kernel_rfl)))
            have HI300 := Aside0.mk (Q_HI300_e6 (hon 6 (by kernel_rfl)))
            obtain ⟨co19, eo19⟩ := HA_HO309.out
            clear HA_HO309
            subst eo19
            have hs20 : w'.cell? ⟨gb296, 0, none⟩ = some (.int .i64 0) := (blk_cell BK296.out 0).trans rfl
            have hfs20 := blk_frozen BK296.out 0
            have hs21 : w'.cell? ⟨gb296, 1, none⟩ = some (.int .i64 0) := (blk_cell BK296.out 1).trans rfl
            have hfs21 := blk_frozen BK296.out 1
            refine skip_ (w1 := ?_) (by rfl) rfl ?_ ?_
            rotate_left
            · go_simp
              rfl
            refine hK.out _ _ ⟨.slice (some adz_v308) y307.length co19, adz_v308, m3_, (by rw [ha.out]; exact putSel_none (v := undef) rfl), fun h0_ => absurd ((up_self b 10).symm.trans h0_) (by decide), fun h0_ => absurd ((hon 6 (by kernel_rfl)).symm.trans h0_) (by decide), (by repeat (first | (with_reducible first | exact HB.out | apply below_alloc | apply pw_below_drewN | apply below_drew1 | refine below_set ?_ (IsS71.ge HI300.out) | refine below_set ?_ GE296.out) | exact HB.out)), fun _ => (by (with_reducible repeat (first | apply Kd.R_alloc | apply Kd.R_drewN | apply Kd.R_drew)); exact Kd.R_mono (Kd.R_far (p := ⟨gb296, 1, none⟩) (Kd.R_far (p := ⟨gb296, 0, none⟩) (Kd.R_types HO309.out BK296.out (by decide)) (fun _ hk => hk.2) (.int .i64 t304)) (fun _ hk => hk.2) (.int .i64 (wrap64 ((wrap64 ((rd y307 t304) + t311)) - 3)))) (fun _ hk => trivial)), fun _ => ⟨_, rfl⟩, fun _ => (by repeat (first | (with_reducible first | exact HI300.out | apply IsS71.alloc | apply IsS71.drewN | apply IsS71.drew | apply IsS71.set_1 | apply IsS71.set_2 | refine IsS71.far ?_ NB300_296.out _) | exact HI300.out)), fun _ => (by (with_reducible repeat (first | refine blk_drewN ?_ _ | refine blk_drew ?_ | refine blk_alloc ?_ _)); refine blk_put (cs := #[.int .i64 t304, .int .i64 0]) ?_ 1 _ rfl; (with_reducible repeat (first | refine blk_drewN ?_ _ | refine blk_drew ?_ | refine blk_alloc ?_ _)); refine blk_put (cs := #[.int .i64 0, .int .i64 0]) ?_ 0 _ rfl; (with_reducible repeat (first | refine blk_drewN ?_ _ | refine blk_drew ?_ | refine blk_alloc ?_ _)); exact BK296.out), Q_X3_⟩
          exact steps_nil
        rintro b a w20 hall ⟨v308, adz_v308, m3_, ha, Q_BK296, Q_HI300, Q_HB, Q_HO309, Q_HA_HO309, Q_HI300_e6, Q_BK296_e10, Q_X3_⟩
        clear BK296 HB HI300
        have hb1_ := hall 1 (by kernel_rfl)
        have hb3_ := hall 3 (by kernel_rfl)
        have hb4_ := hall 4 (by kernel_rfl)
        have hb6_ := hall 6 (by kernel_rfl)
        have hb7_ := hall 7 (by kernel_rfl)
        have hb8_ := hall 8 (by kernel_rfl)
        have hb9_ := hall 9 (by kernel_rfl)
        have hb10_ := hall 10 (by kernel_rfl)
        subst ha
        obtain rfl := Q_X3_ hb3_
        simp only [putSel, hb1_, hb3_, hb4_, hb6_, hb7_, hb8_, hb9_, hb10_, if_true, Act.put, List.setIfInBounds_toArray, List.set_cons_zero, List.set_cons_succ]
        clear Q_BK296
        clear Q_HI300
        have HB := Aside0.mk Q_HB
        clear Q_HB
        have HO309 := Aside0.mk (Q_HO309 hb1_)
        clear Q_HO309
        have HA_HO309 := Aside0.mk (Q_HA_HO309 hb1_)
        clear Q_HA_HO309
        have HI300 := Aside0.mk (Q_HI300_e6 hb6_)
        clear Q_HI300_e6
        have BK296 := Aside0.mk (Q_BK296_e10 hb10_)
        clear Q_BK296_e10
        clear hall hb1_ hb3_ hb4_ hb6_ hb7_ hb8_ hb9_ hb10_
        obtain ⟨co21, eo21⟩ := HA_HO309.out
        clear HA_HO309
        subst eo21
        try go_wp2
        refine bodyPost_ret (results_cell_row rfl _ _ gb296 29 #[.int .i64 t304, .int .i64 (wrap64 ((wrap64 ((rd y307 t304) + t311)) - 3))] (0, 0) _ rfl (by (with_reducible repeat (first | refine blk_drewN ?_ _ | refine blk_drew ?_ | refine blk_alloc ?_ _)); exact BK296.out) Tryd.underlying29 rfl (by kernel_rfl)) rfl ?_
        exact ⟨by first | rfl | (simp [errW_none, errW_some] <;> rfl) | (simp [*, errW_none, errW_some] <;> rfl), by repeat (first | (with_reducible first | exact HB.out | apply below_alloc | apply pw_below_drewN | apply below_drew1 | refine below_set ?_ (IsS71.ge HI300.out) | refine below_set ?_ GE296.out) | exact HB.out)⟩
      · rw [if_neg c7] at H
        exact absurd H (by simp)
    · rw [if_neg c6] at H
      exact absurd H (by simp)
  · replace c4 := Bool.eq_false_iff.mpr c4
    subst c4
    have H1 : ((spec_l6Any.f t297 t302 t303).bind fun bt314 => (some (bt314.1, bt314.2.1))) = some (r1, r2) := by rw [if_neg (show ¬ (false = true) by decide)] at H; exact H
    clear H
    have H := H1
    clear H1
    replace H := Option.bind_eq_some_iff.mp H
    obtain ⟨⟨t314, t315, t316, t317⟩, A220, H⟩ := H
    replace H : (some (t314, t315)) = some (r1, r2) := H
    have A22 := Aside0.mk A220
    clear A220
    simp only [Option.some.injEq, Prod.mk.injEq] at H
    obtain ⟨rfl, rfl⟩ := H
    go_enter Tryd.func14, Tryd.ntmps14
    go_wp2_with (first | ((with_reducible refine gate_dst (N := 2) rfl ?_); refine box_event ?hg (N := 2) ?hd (cs := #[.int .i64 0, .int .i64 0]) (t := 29) ?hr ?_; (case hd => rfl); (case hg => rfl); (case hr => first | (go_simp; done) | (go_simp; rfl)); intro gb296 hg w23 hbox hb; have n0_ := Aside0.mk (below_step (by repeat (first | (with_reducible first | exact HB.out | apply below_alloc | apply pw_below_drewN | apply below_drew1) | exact HB.out)) hb); have n1_ := Aside0.mk (hbox); have n2_ := Aside0.mk ((by rw [hg]; exact (below_size (by repeat (first | (with_reducible first | exact HB.out | apply below_alloc | apply pw_below_drewN | apply below_drew1) | exact HB.out))) : w.heap.size ≤ gb296)); have n3_ := Aside0.mk ((by rw [hg]; exact (below_size (by repeat (first | (with_reducible first | exact HB.out | apply below_alloc | apply pw_below_drewN | apply below_drew1) | exact HB.out))) : w.heap.size ≤ gb296)); clear HB; have HB := n0_; have BK296 := n1_; have GW296 := n2_; have GE296 := n3_; clear n0_ n1_ n2_ n3_; clear hb hbox hg) | ((with_reducible refine gate_callee (f := 31) rfl ?_); refine goesL_ (some 6) rfl rfl Tryd.func31 (by kernel_rfl) rfl #[.slice A0 l0.length c0] rfl (by (try simp only [List.map_toArray, List.map_cons, List.map_nil]); first | done | rfl | (simp only [List.length_drop, List.length_take]; rfl)) ?_; (with_reducible refine (spec_l1New.calls k _ _ l0 t297 t298 t299 w _ ?side1 ?side2 ?side3 A2.out).mono ?_); (case side1 => repeat (first | (with_reducible first | exact HB.out | apply below_alloc | apply pw_below_drewN | apply below_drew1 | refine below_set ?_ GE296.out) | exact HB.out)); (case side2 => exact HR0.out); (case side3 => exact HC0.out); rintro e w24 ⟨g300, rfl, hi, hb, hb2⟩; refine ⟨_, rfl, ?_⟩; have n0_ := Aside0.mk (blk_below (g := gb296) (o := .cells #[.int .i64 0, .int .i64 0] 29 (0, 0)) (by (with_reducible repeat (first | refine blk_drewN ?_ _ | refine blk_drew ?_ | refine blk_alloc ?_ _)); exact BK296.out) hb2); have n1_ := Aside0.mk (hb); have n2_ := Aside0.mk (hi); have n3_ := Aside0.mk (IsS71.ne_blk hi (blk_below (g := gb296) (o := .cells #[.int .i64 0, .int .i64 0] 29 (0, 0)) (by (with_reducible repeat (first | refine blk_drewN ?_ _ | refine blk_drew ?_ | refine blk_alloc ?_ _)); exact BK296.out) hb2) (by decide)); have n4_ := Aside0.mk (Ne.symm (IsS71.ne_blk hi (blk_below (g := gb296) (o := .cells #[.int .i64 0, .int .i64 0] 29 (0, 0)) (by (with_reducible repeat (first | refine blk_drewN ?_ _ | refine blk_drew ?_ | refine blk_alloc ?_ _)); exact BK296.out) hb2) (by decide))); clear BK296; clear HB; have BK296 := n0_; have HB := n1_; have HI300 := n2_; have NB300_296 := n3_; have NB296_300 := n4_; clear n0_ n1_ n2_ n3_ n4_; (try clear hb); (try clear hb2); (try clear hk); (try clear hi)) | ((with_reducible refine gate_callee (f := 38) rfl ?_); refine goesL_ (some 8) rfl rfl Tryd.func38 (by kernel_rfl) rfl #[.pointer (some ⟨g300, 0, none⟩), .int .i64 2] rfl (by (try simp only [List.map_toArray, List.map_cons, List.map_nil]); first | done | rfl | (simp only [List.length_drop, List.length_take]; rfl)) ?_; (with_reducible refine (spec_l1Once.calls g300 t297 t298 t299 2 false t302 t303 w _ ?side1 ?side2 A3.out).mono ?_); (case side1 => repeat (first | (with_reducible first | exact HI300.out | apply IsS71.alloc | apply IsS71.drewN | apply IsS71.drew | apply IsS71.set_1 | apply IsS71.set_2 | refine IsS71.far ?_ NB300_296.out _) | exact HI300.out)); (case side2 => repeat (first | (with_reducible first | exact HB.out | apply below_alloc | apply pw_below_drewN | apply below_drew1 | refine below_set ?_ (IsS71.ge HI300.out) | refine below_set ?_ GE296.out) | exact HB.out)); rintro e w25 ⟨rfl, hi, hb, hk⟩; refine ⟨_, rfl, ?_⟩; have n0_ := Aside0.mk (KeepBut.blk hk (g' := gb296) (o := .cells #[.int .i64 0, .int .i64 0] 29 (0, 0)) (by (with_reducible repeat (first | refine blk_drewN ?_ _ | refine blk_drew ?_ | refine blk_alloc ?_ _)); exact BK296.out) NB296_300.out (by simp)); have n1_ := Aside0.mk (hb); have n2_ := Aside0.mk (hi); clear BK296; clear HB; clear HI300; have BK296 := n0_; have HB := n1_; have HI300 := n2_; clear n0_ n1_ n2_; (try clear hb); (try clear hb2); (try clear hk); (try clear hi)) | ((with_reducible refine gate_callee (f := 39) rfl ?_); refine goesL_ (some 22) rfl rfl Tryd.func39 (by kernel_rfl) rfl #[.pointer (some ⟨g300, 0, none⟩)] rfl (by (try simp only [List.map_toArray, List.map_cons, List.map_nil]); first | done | rfl | (simp only [List.length_drop, List.length_take]; rfl)) ?_; (with_reducible refine (spec_l6Any.calls g300 t297 t302 t303 t314 t315 t316 t317 w _ ?side1 ?side2 A22.out).mono ?_); (case side1 => repeat (first | (with_reducible first | exact HI300.out | apply IsS71.alloc | apply IsS71.drewN | apply IsS71.drew | apply IsS71.set_1 | apply IsS71.set_2 | refine IsS71.far ?_ NB300_296.out _) | exact HI300.out)); (case side2 => repeat (first | (with_reducible first | exact HB.out | apply below_alloc | apply pw_below_drewN | apply below_drew1 | refine below_set ?_ (IsS71.ge HI300.out) | refine below_set ?_ GE296.out) | exact HB.out)); rintro e w26 ⟨rfl, hi, hb, hk⟩; refine ⟨_, rfl, ?_⟩; have n0_ := Aside0.mk (KeepBut.blk hk (g' := gb296) (o := .cells #[.int .i64 0, .int .i64 0] 29 (0, 0)) (by (with_reducible repeat (first | refine blk_drewN ?_ _ | refine blk_drew ?_ | refine blk_alloc ?_ _)); exact BK296.out) NB296_300.out (by simp)); have n1_ := Aside0.mk (hb); have n2_ := Aside0.mk (hi); clear BK296; clear HB; clear HI300; have BK296 := n0_; have HB := n1_; have HI300 := n2_; clear n0_ n1_ n2_; (try clear hb); (try clear hb2); (try clear hk); (try clear hi); have hnb27 := NB296_300.out; have hnc27 := NB300_296.out; have hcz28_0 : w26.cell? ⟨gb296, 0, none⟩ = some (.int .i64 0) := (blk_cell BK296.out 0).trans rfl; have hcz28_1 : w26.cell? ⟨gb296, 1, none⟩ = some (.int .i64 0) := (blk_cell BK296.out 1).trans rfl; have hfz28_0 := blk_frozen BK296.out 0; have hfz28_1 := blk_frozen BK296.out 1))
    refine bodyPost_ret (results_cell_row rfl _ _ gb296 29 #[.int .i64 t314, .int .i64 t315] (0, 0) _ rfl (by (with_reducible repeat (first | refine blk_drewN ?_ _ | refine blk_drew ?_ | refine blk_alloc ?_ _)); refine blk_put (cs := #[.int .i64 t314, .int .i64 0]) ?_ 1 _ rfl; (with_reducible repeat (first | refine blk_drewN ?_ _ | refine blk_drew ?_ | refine blk_alloc ?_ _)); refine blk_put (cs := #[.int .i64 0, .int .i64 0]) ?_ 0 _ rfl; (with_reducible repeat (first | refine blk_drewN ?_ _ | refine blk_drew ?_ | refine blk_alloc ?_ _)); exact BK296.out) Tryd.underlying29 rfl (by kernel_rfl)) rfl ?_
    exact ⟨by first | rfl | (simp [errW_none, errW_some] <;> rfl) | (simp [*, errW_none, errW_some] <;> rfl), by repeat (first | (with_reducible first | exact HB.out | apply below_alloc | apply pw_below_drewN | apply below_drew1 | refine below_set ?_ (IsS71.ge HI300.out) | refine below_set ?_ GE296.out) | exact HB.out)⟩

-- NOT PRINTED: function 75 (strconv_small)

-- NOT PRINTED: function 79 (strconv_log10Pow2)

-- NOT PRINTED: function 80 (bits_Len64)

-- NOT PRINTED: function 81 (strconv_bool2_int)

-- NOT PRINTED: function 76 (strconv_numDigits)

-- NOT PRINTED: function 77 (strconv_formatBase10)

-- NOT PRINTED: function 82 (strconv_isPowerOfTwo)

-- NOT PRINTED: function 84 (bits_TrailingZeros32)

-- NOT PRINTED: function 85 (bits_TrailingZeros64)

-- NOT PRINTED: function 83 (bits_TrailingZeros)

-- NOT PRINTED: function 78 (strconv_formatBits)

-- NOT PRINTED: function 72 (strconv_FormatInt)

-- NOT PRINTED: function 66 (strconv_Itoa_66)

/-! ### strconv_Itoa_59: function 59 -/
def strconv_Itoa_59.f (a0 : Int) : Option ByteArray := if 0 ≤ a0 ∧ a0 < 100 then some ⟨(Lib.decDigits a0.toNat).toArray⟩ else none
theorem strconv_Itoa_59.calls (a0 : Int) (r : ByteArray) (w : World) (h : strconv_Itoa_59.f a0 = some r) :
    Calls Tryd.prog 59 #[.int .i64 a0] w fun e w' => e = .returned (.string r) ∧ Drawn0 w w' := by
  unfold strconv_Itoa_59.f at h
  split at h
  · rename_i hh
    obtain ⟨m, rfl⟩ := Int.eq_ofNat_of_zero_le hh.1
    obtain rfl := Option.some.inj h
    refine (Tryd.strconv_Itoa_small m (by omega) w).mono ?_
    rintro e w' ⟨rfl, rfl⟩
    exact ⟨rfl, Drawn0.refl _⟩
  · cases h

/-! ### impl_FormatInt: function 42 -/
def impl_FormatInt.f (a0 : Int) : Option (ByteArray) := (strconv_Itoa_59.f a0).bind fun t318 => (some t318)
set_option maxHeartbeats 8000000 in
set_option maxRecDepth 100000 in
theorem impl_FormatInt.calls (a0 : Int) (r : ByteArray) (w : World) (h : impl_FormatInt.f a0 = some r) :
    Calls Tryd.prog 42 #[.int .i64 a0] w fun e w' => e = .returned (.string r) ∧ Drawn0 w w' := by
  have H : ((strconv_Itoa_59.f a0).bind fun t318 => (some t318)) = some r := h
  clear h
  replace H := Option.bind_eq_some_iff.mp H
  obtain ⟨t318, A20, H⟩ := H
  replace H : (some t318) = some r := H
  have A2 := Aside0.mk A20
  clear A20
  obtain rfl := Option.some.inj H
  go_enter Tryd.func42, Tryd.ntmps42
  go_wp2_with (first | ((with_reducible refine gate_callee (f := 59) rfl ?_); refine goesL_ (some 4) rfl rfl Tryd.func59 (by kernel_rfl) rfl #[.int .i64 a0] rfl (by (try simp only [List.map_toArray, List.map_cons, List.map_nil]); first | done | rfl | (simp only [List.length_drop, List.length_take]; rfl)) ?_; (with_reducible refine (strconv_Itoa_59.calls a0 t318 _ A2.out).mono ?_); rintro e w' ⟨rfl, ⟨nd, rfl⟩⟩; refine ⟨_, rfl, ?_⟩))
  go_ret
  exact ⟨by first | rfl | (simp; done) | (simp [*]; done), by repeat (first | exact Drawn0.refl _ | apply Drawn0.step)⟩

/-! ### impl_IntervalText: function 15 -/
def impl_IntervalText.num (a : Int) : ByteArray := ⟨#[UInt8.ofNat (49 + a.toNat)]⟩
def impl_IntervalText.perf (a : Int) : Bool := a == 0 || a == 3 || a == 4 || a == 7
def impl_IntervalText.g (a d : Int) : ByteArray := if d = 1 then ⟨#[65]⟩ ++ impl_IntervalText.num a else if d = 0 then (if impl_IntervalText.perf a then ⟨#[80]⟩ ++ impl_IntervalText.num a else ⟨#[77]⟩ ++ impl_IntervalText.num a) else if d = -1 then (if impl_IntervalText.perf a then ⟨#[100]⟩ ++ impl_IntervalText.num a else ⟨#[109]⟩ ++ impl_IntervalText.num a) else if d = -2 then (if impl_IntervalText.perf a then ⟨#[]⟩ else ⟨#[100]⟩ ++ impl_IntervalText.num a) else ⟨#[]⟩
def impl_IntervalText.f (a0_0 : Int) (a0_1 : Int) : Option ByteArray := if 0 ≤ a0_0 then (if a0_0 < 8 then some (impl_IntervalText.g a0_0 (wrap64 (a0_1 - rd [0, 2, 4, 5, 7, 9, 11, 12] a0_0))) else some ⟨#[]⟩) else some ⟨#[]⟩
set_option maxHeartbeats 16000000 in
set_option maxRecDepth 100000 in
theorem impl_IntervalText.calls (a0_0 : Int) (a0_1 : Int) (r : ByteArray) (w : World) (h : impl_IntervalText.f a0_0 a0_1 = some r) :
    Calls Tryd.prog 15 #[.agg #[.int .i64 a0_0, .int .i64 a0_1]] w fun e w' => e = .returned (.string r) ∧ Below w.heap.size w w' := by
  have hu := Tryd.underlying29
  unfold impl_IntervalText.f at h
  split at h
  · rename_i g0
    split at h
    · rename_i g1
      obtain rfl := Option.some.inj h
      have hc : a0_0 = 0 ∨ a0_0 = 1 ∨ a0_0 = 2 ∨ a0_0 = 3 ∨ a0_0 = 4 ∨ a0_0 = 5 ∨ a0_0 = 6 ∨ a0_0 = 7 := by omega
      clear g0 g1 h
      have i0 : ∀ w, (Instr.index 62 (.agg #[.int .i64 0, .int .i64 2, .int .i64 4, .int .i64 5, .int .i64 7, .int .i64 9, .int .i64 11, .int .i64 12]) (.int .i64 0)).run Tryd.prog w = .ok (.int .i64 0) w := fun _ => by kernel_rfl
      have i1 : ∀ w, (Instr.index 62 (.agg #[.int .i64 0, .int .i64 2, .int .i64 4, .int .i64 5, .int .i64 7, .int .i64 9, .int .i64 11, .int .i64 12]) (.int .i64 1)).run Tryd.prog w = .ok (.int .i64 2) w := fun _ => by kernel_rfl
      have i2 : ∀ w, (Instr.index 62 (.agg #[.int .i64 0, .int .i64 2, .int .i64 4, .int .i64 5, .int .i64 7, .int .i64 9, .int .i64 11, .int .i64 12]) (.int .i64 2)).run Tryd.prog w = .ok (.int .i64 4) w := fun _ => by kernel_rfl
      have i3 : ∀ w, (Instr.index 62 (.agg #[.int .i64 0, .int .i64 2, .int .i64 4, .int .i64 5, .int .i64 7, .int .i64 9, .int .i64 11, .int .i64 12]) (.int .i64 3)).run Tryd.prog w = .ok (.int .i64 5) w := fun _ => by kernel_rfl
      have i4 : ∀ w, (Instr.index 62 (.agg #[.int .i64 0, .int .i64 2, .int .i64 4, .int .i64 5, .int .i64 7, .int .i64 9, .int .i64 11, .int .i64 12]) (.int .i64 4)).run Tryd.prog w = .ok (.int .i64 7) w := fun _ => by kernel_rfl
      have i5 : ∀ w, (Instr.index 62 (.agg #[.int .i64 0, .int .i64 2, .int .i64 4, .int .i64 5, .int .i64 7, .int .i64 9, .int .i64 11, .int .i64 12]) (.int .i64 5)).run Tryd.prog w = .ok (.int .i64 9) w := fun _ => by kernel_rfl
      have i6 : ∀ w, (Instr.index 62 (.agg #[.int .i64 0, .int .i64 2, .int .i64 4, .int .i64 5, .int .i64 7, .int .i64 9, .int .i64 11, .int .i64 12]) (.int .i64 6)).run Tryd.prog w = .ok (.int .i64 11) w := fun _ => by kernel_rfl
      have i7 : ∀ w, (Instr.index 62 (.agg #[.int .i64 0, .int .i64 2, .int .i64 4, .int .i64 5, .int .i64 7, .int .i64 9, .int .i64 11, .int .i64 12]) (.int .i64 7)).run Tryd.prog w = .ok (.int .i64 12) w := fun _ => by kernel_rfl
      have f1 : ∀ w, Calls Tryd.prog 42 #[.int .i64 1] w fun e w' => e = .returned (.string ⟨#[49]⟩) ∧ Drawn0 w w' := fun w => impl_FormatInt.calls 1 ⟨#[49]⟩ w (by decide +kernel)
      have f2 : ∀ w, Calls Tryd.prog 42 #[.int .i64 2] w fun e w' => e = .returned (.string ⟨#[50]⟩) ∧ Drawn0 w w' := fun w => impl_FormatInt.calls 2 ⟨#[50]⟩ w (by decide +kernel)
      have f3 : ∀ w, Calls Tryd.prog 42 #[.int .i64 3] w fun e w' => e = .returned (.string ⟨#[51]⟩) ∧ Drawn0 w w' := fun w => impl_FormatInt.calls 3 ⟨#[51]⟩ w (by decide +kernel)
      have f4 : ∀ w, Calls Tryd.prog 42 #[.int .i64 4] w fun e w' => e = .returned (.string ⟨#[52]⟩) ∧ Drawn0 w w' := fun w => impl_FormatInt.calls 4 ⟨#[52]⟩ w (by decide +kernel)
      have f5 : ∀ w, Calls Tryd.prog 42 #[.int .i64 5] w fun e w' => e = .returned (.string ⟨#[53]⟩) ∧ Drawn0 w w' := fun w => impl_FormatInt.calls 5 ⟨#[53]⟩ w (by decide +kernel)
      have f6 : ∀ w, Calls Tryd.prog 42 #[.int .i64 6] w fun e w' => e = .returned (.string ⟨#[54]⟩) ∧ Drawn0 w w' := fun w => impl_FormatInt.calls 6 ⟨#[54]⟩ w (by decide +kernel)
      have f7 : ∀ w, Calls Tryd.prog 42 #[.int .i64 7] w fun e w' => e = .returned (.string ⟨#[55]⟩) ∧ Drawn0 w w' := fun w => impl_FormatInt.calls 7 ⟨#[55]⟩ w (by decide +kernel)
      have f8 : ∀ w, Calls Tryd.prog 42 #[.int .i64 8] w fun e w' => e = .returned (.string ⟨#[56]⟩) ∧ Drawn0 w w' := fun w => impl_FormatInt.calls 8 ⟨#[56]⟩ w (by decide +kernel)
      rcases hc with rfl | rfl | rfl | rfl | rfl | rfl | rfl | rfl
      all_goals
        generalize hr : impl_IntervalText.g _ _ = r
        simp only [impl_IntervalText.g] at hr
        go_enter Tryd.func15, Tryd.ntmps15
        go_wp2_with (go_at_call 41; refine (impl_InRange.calls _ _ _ true _ rfl).mono ?_; rintro e w' ⟨rfl, ⟨nd, rfl⟩⟩)
        go_region
        all_goals (go_wp2_with (go_at_call 42; (first | refine (f1 _).mono ?_ | refine (f2 _).mono ?_ | refine (f3 _).mono ?_ | refine (f4 _).mono ?_ | refine (f5 _).mono ?_ | refine (f6 _).mono ?_ | refine (f7 _).mono ?_ | refine (f8 _).mono ?_); rintro e w' ⟨rfl, ⟨nd2, rfl⟩⟩))
        all_goals go_ret
        all_goals refine ⟨?_, by repeat (first | (with_reducible first | exact Below.refl _ _ | apply below_alloc | apply pw_below_drewN | apply below_drew1) | exact Below.refl _ _)⟩
        all_goals (subst hr; simp_all [rd, impl_IntervalText.perf, impl_IntervalText.num]; try rfl)
    · rename_i g1
      obtain rfl := Option.some.inj h
      have hf : impl_InRange.f a0_0 0 7 = some false := by unfold impl_InRange.f; rw [if_pos g0]; simp; omega
      have HF := Aside0.mk hf
      clear hf g0 g1 h
      go_enter Tryd.func15, Tryd.ntmps15
      go_wp2_with (go_at_call 41; refine (impl_InRange.calls _ _ _ false _ HF.out).mono ?_; rintro e w' ⟨rfl, ⟨nd, rfl⟩⟩)
      go_ret
      exact ⟨rfl, by repeat (first | (with_reducible first | exact Below.refl _ _ | apply below_alloc | apply pw_below_drewN | apply below_drew1) | exact Below.refl _ _)⟩
  · rename_i g0
    obtain rfl := Option.some.inj h
    have hf : impl_InRange.f a0_0 0 7 = some false := by unfold impl_InRange.f; rw [if_neg g0]
    have HF := Aside0.mk hf
    clear hf g0 h
    go_enter Tryd.func15, Tryd.ntmps15
    go_wp2_with (go_at_call 41; refine (impl_InRange.calls _ _ _ false _ HF.out).mono ?_; rintro e w' ⟨rfl, ⟨nd, rfl⟩⟩)
    go_ret
    exact ⟨rfl, by repeat (first | (with_reducible first | exact Below.refl _ _ | apply below_alloc | apply pw_below_drewN | apply below_drew1) | exact Below.refl _ _)⟩

/-! ### impl_IsPerfect: function 16 -/
def impl_IsPerfect.f (a0_0 : Int) (a0_1 : Int) : Option (Bool) := (impl_IntervalText.f a0_0 a0_1).bind fun t320 => (if t320.toList = ([] : List UInt8) then (some false) else ((impl_IntervalText.f a0_0 a0_1).bind fun t321 => (if 0 < (t321.size : Int) then (some ((bt t321 0) == 80)) else (none))))
set_option maxHeartbeats 8000000 in
set_option maxRecDepth 100000 in
theorem impl_IsPerfect.calls (a0_0 : Int) (a0_1 : Int) (r : Bool) (w : World) (h : impl_IsPerfect.f a0_0 a0_1 = some r) :
    Calls Tryd.prog 16 #[.agg #[.int .i64 a0_0, .int .i64 a0_1]] w fun e w' => e = .returned (.bool r) ∧ Below w.heap.size w w' := by
  have hu29 := Tryd.underlying29
  have HB := Aside0.mk (Below.refl w.heap.size w)
  have H : ((impl_IntervalText.f a0_0 a0_1).bind fun t320 => (if t320.toList = ([] : List UInt8) then (some false) else ((impl_IntervalText.f a0_0 a0_1).bind fun t321 => (if 0 < (t321.size : Int) then (some ((bt t321 0) == 80)) else (none))))) = some r := h
  clear h
  replace H := Option.bind_eq_some_iff.mp H
  obtain ⟨t320, A20, H⟩ := H
  replace H : (if t320.toList = ([] : List UInt8) then (some false) else ((impl_IntervalText.f a0_0 a0_1).bind fun t321 => (if 0 < (t321.size : Int) then (some ((bt t321 0) == 80)) else (none)))) = some r := H
  have A2 := Aside0.mk A20
  clear A20
  by_cases c3 : t320.toList = ([] : List UInt8)
  · rw [if_pos c3] at H
    have c3b0 : (t320.toList == ([] : List UInt8)) = true := beq_iff_eq.mpr c3
    have c3b1 : (t320.toList != ([] : List UInt8)) = false := bne_eq_false_iff_eq.mpr c3
    clear c3
    obtain rfl := Option.some.inj H
    go_enter Tryd.func16, Tryd.ntmps16
    go_wp2_with (first | ((with_reducible refine gate_dst (N := 1) rfl ?_); refine box_event ?hg (N := 1) ?hd (cs := #[.int .i64 a0_0, .int .i64 a0_1]) (t := 29) ?hr ?_; (case hd => rfl); (case hg => rfl); (case hr => first | (go_simp; done) | (go_simp; rfl)); intro gb319 hg w4 hbox hb; have n0_ := Aside0.mk (below_step (by repeat (first | (with_reducible first | exact HB.out | apply below_alloc | apply pw_below_drewN | apply below_drew1) | exact HB.out)) hb); have n1_ := Aside0.mk (hbox); have n2_ := Aside0.mk ((by rw [hg]; exact (below_size (by repeat (first | (with_reducible first | exact HB.out | apply below_alloc | apply pw_below_drewN | apply below_drew1) | exact HB.out))) : w.heap.size ≤ gb319)); have n3_ := Aside0.mk ((by rw [hg]; exact (below_size (by repeat (first | (with_reducible first | exact HB.out | apply below_alloc | apply pw_below_drewN | apply below_drew1) | exact HB.out))) : w.heap.size ≤ gb319)); clear HB; have HB := n0_; have BK319 := n1_; have GW319 := n2_; have GE319 := n3_; clear n0_ n1_ n2_ n3_; clear hb hbox hg; have hcz5_0 : w4.cell? ⟨gb319, 0, none⟩ = some (.int .i64 a0_0) := (blk_cell BK319.out 0).trans rfl; have hcz5_1 : w4.cell? ⟨gb319, 1, none⟩ = some (.int .i64 a0_1) := (blk_cell BK319.out 1).trans rfl; have hfz5_0 := blk_frozen BK319.out 0; have hfz5_1 := blk_frozen BK319.out 1) | ((with_reducible refine gate_callee (f := 15) rfl ?_); refine goesL_ (some 4) rfl rfl Tryd.func15 (by kernel_rfl) rfl #[.agg #[.int .i64 a0_0, .int .i64 a0_1]] rfl (by (try simp only [List.map_toArray, List.map_cons, List.map_nil]); first | done | rfl | (simp only [List.length_drop, List.length_take]; rfl)) ?_; (with_reducible refine (impl_IntervalText.calls a0_0 a0_1 t320 _ A2.out).mono ?_); rintro e w6 ⟨rfl, hb⟩; refine ⟨_, rfl, ?_⟩; have n0_ := Aside0.mk (blk_below (g := gb319) (o := .cells #[.int .i64 a0_0, .int .i64 a0_1] 29 (0, 0)) (by (with_reducible repeat (first | refine blk_drewN ?_ _ | refine blk_drew ?_ | refine blk_alloc ?_ _)); exact BK319.out) hb); have n1_ := Aside0.mk (below_step (by repeat (first | (with_reducible first | exact HB.out | apply below_alloc | apply pw_below_drewN | apply below_drew1 | refine below_set ?_ GE319.out) | exact HB.out)) hb); clear BK319; clear HB; have BK319 := n0_; have HB := n1_; clear n0_ n1_; (try clear hb); (try clear hb2); (try clear hk); (try clear hi)))
    go_ret
    exact ⟨by first | rfl | (simp [errW_none, errW_some] <;> rfl) | (simp [*, errW_none, errW_some] <;> rfl), by repeat (first | (with_reducible first | exact HB.out | apply below_alloc | apply pw_below_drewN | apply below_drew1 | refine below_set ?_ GE319.out) | exact HB.out)⟩
  · rw [if_neg c3] at H
    have c3b0 : (t320.toList == ([] : List UInt8)) = false := beq_eq_false_iff_ne.mpr c3
    have c3b1 : (t320.toList != ([] : List UInt8)) = true := bne_iff_ne.mpr c3
    replace H := Option.bind_eq_some_iff.mp H
    obtain ⟨t321, A70, H⟩ := H
    replace H : (if 0 < (t321.size : Int) then (some ((bt t321 0) == 80)) else (none)) = some r := H
    have A7 := Aside0.mk A70
    clear A70
    by_cases c8 : 0 < (t321.size : Int)
    · rw [if_pos c8] at H
      have c8b0 : decide (0 < (t321.size : Int)) = true := decide_eq_true c8
      have c8b1 : decide (0 < t321.size) = true := decide_eq_true (by omega)
      clear c8
      obtain rfl := Option.some.inj H
      go_enter Tryd.func16, Tryd.ntmps16
      go_wp2_with (first | ((with_reducible refine gate_dst (N := 1) rfl ?_); refine box_event ?hg (N := 1) ?hd (cs := #[.int .i64 a0_0, .int .i64 a0_1]) (t := 29) ?hr ?_; (case hd => rfl); (case hg => rfl); (case hr => first | (go_simp; done) | (go_simp; rfl)); intro gb319 hg w10 hbox hb; have n0_ := Aside0.mk (below_step (by repeat (first | (with_reducible first | exact HB.out | apply below_alloc | apply pw_below_drewN | apply below_drew1) | exact HB.out)) hb); have n1_ := Aside0.mk (hbox); have n2_ := Aside0.mk ((by rw [hg]; exact (below_size (by repeat (first | (with_reducible first | exact HB.out | apply below_alloc | apply pw_below_drewN | apply below_drew1) | exact HB.out))) : w.heap.size ≤ gb319)); have n3_ := Aside0.mk ((by rw [hg]; exact (below_size (by repeat (first | (with_reducible first | exact HB.out | apply below_alloc | apply pw_below_drewN | apply below_drew1) | exact HB.out))) : w.heap.size ≤ gb319)); clear HB; have HB := n0_; have BK319 := n1_; have GW319 := n2_; have GE319 := n3_; clear n0_ n1_ n2_ n3_; clear hb hbox hg; have hcz11_0 : w10.cell? ⟨gb319, 0, none⟩ = some (.int .i64 a0_0) := (blk_cell BK319.out 0).trans rfl; have hcz11_1 : w10.cell? ⟨gb319, 1, none⟩ = some (.int .i64 a0_1) := (blk_cell BK319.out 1).trans rfl; have hfz11_0 := blk_frozen BK319.out 0; have hfz11_1 := blk_frozen BK319.out 1) | ((with_reducible refine gate_callee (f := 15) rfl ?_); refine goesL_ (some 4) rfl rfl Tryd.func15 (by kernel_rfl) rfl #[.agg #[.int .i64 a0_0, .int .i64 a0_1]] rfl (by (try simp only [List.map_toArray, List.map_cons, List.map_nil]); first | done | rfl | (simp only [List.length_drop, List.length_take]; rfl)) ?_; (with_reducible refine (impl_IntervalText.calls a0_0 a0_1 t320 _ A2.out).mono ?_); rintro e w12 ⟨rfl, hb⟩; refine ⟨_, rfl, ?_⟩; have n0_ := Aside0.mk (blk_below (g := gb319) (o := .cells #[.int .i64 a0_0, .int .i64 a0_1] 29 (0, 0)) (by (with_reducible repeat (first | refine blk_drewN ?_ _ | refine blk_drew ?_ | refine blk_alloc ?_ _)); exact BK319.out) hb); have n1_ := Aside0.mk (below_step (by repeat (first | (with_reducible first | exact HB.out | apply below_alloc | apply pw_below_drewN | apply below_drew1 | refine below_set ?_ GE319.out) | exact HB.out)) hb); clear BK319; clear HB; have BK319 := n0_; have HB := n1_; clear n0_ n1_; (try clear hb); (try clear hb2); (try clear hk); (try clear hi); have hcz13_0 : w12.cell? ⟨gb319, 0, none⟩ = some (.int .i64 a0_0) := (blk_cell BK319.out 0).trans rfl; have hcz13_1 : w12.cell? ⟨gb319, 1, none⟩ = some (.int .i64 a0_1) := (blk_cell BK319.out 1).trans rfl; have hfz13_0 := blk_frozen BK319.out 0; have hfz13_1 := blk_frozen BK319.out 1) | (go_at_call 15; (with_reducible refine (impl_IntervalText.calls a0_0 a0_1 t321 _ A7.out).mono ?_); rintro e w14 ⟨rfl, hb⟩; have n0_ := Aside0.mk (blk_below (g := gb319) (o := .cells #[.int .i64 a0_0, .int .i64 a0_1] 29 (0, 0)) (by (with_reducible repeat (first | refine blk_drewN ?_ _ | refine blk_drew ?_ | refine blk_alloc ?_ _)); exact BK319.out) hb); have n1_ := Aside0.mk (below_step (by repeat (first | (with_reducible first | exact HB.out | apply below_alloc | apply pw_below_drewN | apply below_drew1 | refine below_set ?_ GE319.out) | exact HB.out)) hb); clear BK319; clear HB; have BK319 := n0_; have HB := n1_; clear n0_ n1_; (try clear hb); (try clear hb2); (try clear hk); (try clear hi); have p9 : 0 ≤ (0 : Int) := (by omega); have q9 : 0 < t321.size := (by have : (0 : Int) < (t321.size : Int) := of_decide_eq_true (by first | (with_reducible assumption) | assumption); omega); have hx9 : ∀ h : 0 < t321.size, ((t321[0]'h).toNat : Int) = bt t321 0 := bt_at t321 0; clear p9; have qi9 : (0 < (t321.size : Int)) = True := eq_true (of_decide_eq_true (by first | (with_reducible assumption) | assumption)); replace q9 := eq_true q9))
      go_ret
      exact ⟨by first | rfl | (simp [errW_none, errW_some] <;> rfl) | (simp [*, errW_none, errW_some] <;> rfl), by repeat (first | (with_reducible first | exact HB.out | apply below_alloc | apply pw_below_drewN | apply below_drew1 | refine below_set ?_ GE319.out) | exact HB.out)⟩
    · rw [if_neg c8] at H
      exact absurd H (by simp)

end Go.Proofs.YtcopehngagejiaaDoor.QFnIntervals
