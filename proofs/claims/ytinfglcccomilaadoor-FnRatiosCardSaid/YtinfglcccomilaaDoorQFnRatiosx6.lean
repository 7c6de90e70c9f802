/- The Go functions that the law FnRatios reaches, as Lean functions, and that each call comes to just that (written by a program of this session out of the print's text). Conditions: those each lemma states. -/
import Derived.Test.YtinfglcccomilaaDoorQFnRatiosx0
import Derived.Test.YtinfglcccomilaaDoorQFnRatiosx1
import Derived.Test.YtinfglcccomilaaDoorQFnRatiosx2
import Derived.Test.YtinfglcccomilaaDoorQFnRatiosx3
import Derived.Test.YtinfglcccomilaaDoorQFnRatiosx4
import Derived.Test.YtinfglcccomilaaDoorQFnRatiosx5
namespace Go.Proofs.YtinfglcccomilaaDoor.QFnRatios
open Go.RowKit Go.Proofs.YtinfglcccomilaaDoorW.PrintWords Go.Proofs.YtinfglcccomilaaDoorW.PrintLast Go.Proofs.YtinfglcccomilaaDoorW.PrintMore
attribute [local go_sem] max2_int min2_int max_two min_two max_three min_three max_four min_four   -- for this text's walks alone
set_option linter.unusedVariables false
set_option linter.unusedSimpArgs false

attribute [local go_sem high] eqA27
theorem xC {w : World} {g : Nat} {t : TypeId} {cs : Array Value} (h : w.heap[g]? = some (.cells cs t (0, 0))) (i : Nat) : w.cell? ⟨g, i, none⟩ = cs[i]? := blk_cell h i
theorem xZ {w : World} {g : Nat} {t : TypeId} {cs : Array Value} (h : w.heap[g]? = some (.cells cs t (0, 0))) (i : Nat) : w.frozen? ⟨g, i, none⟩ = false := blk_frozen h i
theorem xP {w : World} {g : Nat} {t : TypeId} {cs cs' : Array Value} (h : w.heap[g]? = some (.cells cs t (0, 0))) (i : Nat) (u : Value) (e : cs.setIfInBounds i u = cs') : (w.setCell ⟨g, i, none⟩ u).heap[g]? = some (.cells cs' t (0, 0)) := blk_put h i u e
theorem xN {w : World} {g : Nat} {o : Obj} (h : w.heap[g]? = some o) (n : Nat) : (w.drewN n).heap[g]? = some o := blk_drewN h n
theorem xD {w : World} {g : Nat} {o : Obj} (h : w.heap[g]? = some o) : w.drew.heap[g]? = some o := blk_drew h
theorem xA {w : World} {g : Nat} {o : Obj} (h : w.heap[g]? = some o) (o' : Obj) : (w.alloc o').heap[g]? = some o := blk_alloc h o'
theorem yS {w W : World} {g j : Nat} {v : Value} (h : Below w.heap.size w W) (hg : w.heap.size ≤ g) : Below w.heap.size w (W.setCell ⟨g, j, none⟩ v) := below_set h hg
theorem yN {B : Nat} {w W : World} (h : Below B w W) (n : Nat) : Below B w (W.drewN n) := pw_below_drewN h n
theorem yD {base : Nat} {w W : World} (h : Below base w W) : Below base w W.drew := below_drew1 h
theorem yA {w W : World} (h : Below w.heap.size w W) (o : Obj) : Below w.heap.size w (W.alloc o) := below_alloc h o
theorem aM {p : Prop} (h : p) : Aside0 p := Aside0.mk h
theorem xB {w w1 : World} {g : Nat} {o : Obj} (h : w.heap[g]? = some o) (hb : Below w.heap.size w w1) : w1.heap[g]? = some o := blk_below h hb
theorem xF {w : World} {g : Nat} {t : TypeId} {cs : Array Value} (h : w.heap[g]? = some (.cells cs t (0, 0))) {p : Addr} (hp : g ≠ p.block) (u : Value) : (w.setCell p u).heap[g]? = some (.cells cs t (0, 0)) := blk_far h hp u
theorem nL {a b : Nat} (h : a < b) : a ≠ b := Nat.ne_of_lt h
theorem nG {a b : Nat} (h : b < a) : a ≠ b := Nat.ne_of_gt h
theorem xL {w : World} {g : Nat} {o : Obj} (h : w.heap[g]? = some o) : g < w.heap.size := blk_lt h
/-! ### laws_FnRatios: function 3 -/
mutual
def laws_FnRatios.j0 : Nat → List Int → Bool → Option (Bool)
 | 0, _, _ => none
 | k + 1, x0, x60 => if x60 = true then (some false) else ((spec_DrawAddRatio.f k x0).bind fun bt261 => ((impl_AddRatio.f k bt261.1 bt261.2.1 bt261.2.2.1 bt261.2.2.2).bind fun bt267 => ((impl_AddRatio.f k bt261.2.2.1 bt261.2.2.2 bt261.1 bt261.2.1).bind fun bt271 => ((impl_MulRatio.f k bt261.1 bt261.2.1 bt261.2.2.1 bt261.2.2.2).bind fun bt275 => ((impl_MulRatio.f k bt261.2.2.1 bt261.2.2.2 bt261.1 bt261.2.1).bind fun bt279 => (if (bt267.2.2 != bt271.2.2) = true then (laws_FnRatios.j1 k bt267.2.2 true bt261.1 bt261.2.1 bt261.2.2.1 bt261.2.2.2 bt267.1 bt267.2.1) else (if (!(bt267.1 == bt271.1) || (!(bt267.2.1 == bt271.2.1))) = true then (laws_FnRatios.j1 k bt267.2.2 true bt261.1 bt261.2.1 bt261.2.2.1 bt261.2.2.2 bt267.1 bt267.2.1) else (if (bt275.2.2 != bt279.2.2) = true then (laws_FnRatios.j1 k bt267.2.2 true bt261.1 bt261.2.1 bt261.2.2.1 bt261.2.2.2 bt267.1 bt267.2.1) else (if (!(bt275.1 == bt279.1) || (!(bt275.2.1 == bt279.2.1))) = true then (laws_FnRatios.j1 k bt267.2.2 true bt261.1 bt261.2.1 bt261.2.2.1 bt261.2.2.2 bt267.1 bt267.2.1) else (if bt267.2.2 = true then ((impl_IsRatio.f k bt267.1 bt267.2.1).bind fun t283 => (if t283 = true then (if bt275.2.2 = true then ((impl_IsRatio.f k bt275.1 bt275.2.1).bind fun t284 => (laws_FnRatios.j1 k bt267.2.2 (!t284) bt261.1 bt261.2.1 bt261.2.2.1 bt261.2.2.2 bt267.1 bt267.2.1)) else (laws_FnRatios.j1 k bt267.2.2 false bt261.1 bt261.2.1 bt261.2.2.1 bt261.2.2.2 bt267.1 bt267.2.1)) else (laws_FnRatios.j1 k bt267.2.2 true bt261.1 bt261.2.1 bt261.2.2.1 bt261.2.2.2 bt267.1 bt267.2.1))) else (if bt275.2.2 = true then ((impl_IsRatio.f k bt275.1 bt275.2.1).bind fun t285 => (laws_FnRatios.j1 k bt267.2.2 (!t285) bt261.1 bt261.2.1 bt261.2.2.1 bt261.2.2.2 bt267.1 bt267.2.1)) else (laws_FnRatios.j1 k bt267.2.2 false bt261.1 bt261.2.1 bt261.2.2.1 bt261.2.2.2 bt267.1 bt267.2.1))))))))))))
def laws_FnRatios.j1 : Nat → Bool → Bool → Int → Int → Int → Int → Int → Int → Option (Bool)
 | 0, _, _, _, _, _, _, _, _ => none
 | k + 1, x12, x123, x266000, x266001, x267000, x267001, x271000, x271001 => if x123 = true then (some false) else (if x12 = true then ((impl_AddRatio.f k x271000 x271001 (wrap64 (-x267000)) x267001).bind fun bt286 => (if bt286.2.2 = true then (if (!(bt286.1 == x266000) || (!(bt286.2.1 == x266001))) = true then (some false) else (laws_FnRatios.j2 k x266000 x266001 x267000 x267001)) else (some false))) else (laws_FnRatios.j2 k x266000 x266001 x267000 x267001))
def laws_FnRatios.j2 : Nat → Int → Int → Int → Int → Option (Bool)
 | 0, _, _, _, _ => none
 | k + 1, x266000, x266001, x267000, x267001 => (impl_IsRatio.f k x266000 x266001).bind fun t290 => (if t290 = true then ((impl_IsRatio.f k x267000 x267001).bind fun t291 => (if t291 = true then ((impl_LessRatio.f k x266000 x266001 x267000 x267001).bind fun t292 => ((impl_LessRatio.f k x267000 x267001 x266000 x266001).bind fun t293 => (if t293 = true then (laws_FnRatios.j3 k (t292 == true) x266000 x266001) else (laws_FnRatios.j3 k (t292 == (x266000 == x267000 && (x266001 == x267001))) x266000 x266001)))) else (laws_FnRatios.j3 k false x266000 x266001))) else (laws_FnRatios.j3 k false x266000 x266001))
def laws_FnRatios.j3 : Nat → Bool → Int → Int → Option (Bool)
 | 0, _, _, _ => none
 | k + 1, x162, x266000, x266001 => if x162 = true then (some false) else ((impl_FloorRatio.f k x266000 x266001).bind fun t294 => ((impl_IsRatio.f k x266000 x266001).bind fun t295 => (if t295 = true then (if (wrap64 (t294 * x266001)) ≤ x266000 then (if x266000 < (wrap64 ((wrap64 (t294 + 1)) * x266001)) then ((impl_RatioText.f k x266000 x266001).bind fun t296 => (some (t296.toList != ([] : List UInt8)))) else (some false)) else (some false)) else (some true))))
end
def laws_FnRatios.f (k : Nat) (l0 : List Int) : Option (Bool) := (laws_big.f l0).bind fun t249 => (if t249 = true then (some true) else ((spec_DrawMakeRatio.f k l0).bind fun bt250 => ((impl_MakeRatio.f k bt250.1 bt250.2).bind fun bt252 => ((spec_MakeRatio.f k bt250.1 bt250.2).bind fun bt256 => (if (bt252.2.2 != bt256.2.2) = true then (some false) else (if bt252.2.2 = true then ((impl_IsRatio.f k bt252.1 bt252.2.1).bind fun t260 => (if t260 = true then (laws_FnRatios.j0 k l0 ((wrap64 (bt252.1 * bt250.2)) != (wrap64 (bt250.1 * bt252.2.1)))) else (laws_FnRatios.j0 k l0 true))) else (laws_FnRatios.j0 k l0 false)))))))
theorem laws_FnRatios.mono_l : ∀ k, (∀ y0 y1, LeO (laws_FnRatios.j0 k y0 y1) (laws_FnRatios.j0 (k + 1) y0 y1)) ∧ (∀ y0 y1 y2 y3 y4 y5 y6 y7, LeO (laws_FnRatios.j1 k y0 y1 y2 y3 y4 y5 y6 y7) (laws_FnRatios.j1 (k + 1) y0 y1 y2 y3 y4 y5 y6 y7)) ∧ (∀ y0 y1 y2 y3, LeO (laws_FnRatios.j2 k y0 y1 y2 y3) (laws_FnRatios.j2 (k + 1) y0 y1 y2 y3)) ∧ (∀ y0 y1 y2, LeO (laws_FnRatios.j3 k y0 y1 y2) (laws_FnRatios.j3 (k + 1) y0 y1 y2))
 | 0 => ⟨fun _ _ r h => by simp [laws_FnRatios.j0] at h, fun _ _ _ _ _ _ _ _ r h => by simp [laws_FnRatios.j1] at h, fun _ _ _ _ r h => by simp [laws_FnRatios.j2] at h, fun _ _ _ r h => by simp [laws_FnRatios.j3] at h⟩
 | k + 1 => by
  obtain ⟨ih0, ih1, ih2, ih3⟩ := laws_FnRatios.mono_l k
  refine ⟨?_, ?_, ?_, ?_⟩
  ·intro y0 y1
   unfold laws_FnRatios.j0
   repeat' first
   | (with_reducible exact ih0 _ _)
   | (with_reducible exact ih1 _ _ _ _ _ _ _ _)
   | (with_reducible exact ih2 _ _ _ _)
   | (with_reducible exact ih3 _ _ _)
   | (with_reducible exact impl_AddRatio.mono _ _ _ _ _)
   | (with_reducible exact impl_FloorRatio.mono _ _ _)
   | (with_reducible exact impl_IsRatio.mono _ _ _)
   | (with_reducible exact impl_LessRatio.mono _ _ _ _ _)
   | (with_reducible exact impl_MakeRatio.mono _ _ _)
   | (with_reducible exact impl_MulRatio.mono _ _ _ _ _)
   | (with_reducible exact impl_RatioText.mono _ _ _)
   | (with_reducible exact spec_DrawAddRatio.mono _ _)
   | (with_reducible exact spec_DrawMakeRatio.mono _ _)
   | (with_reducible exact spec_MakeRatio.mono _ _ _)
   | (with_reducible exact LeO.refl _)
   | (with_reducible exact LeO.none _)
   | (with_reducible refine LeO.ite ?_ ?_)
   | (with_reducible refine LeO.bind ?_ (fun _ => ?_))
   | exact ih0 _ _
   | exact ih1 _ _ _ _ _ _ _ _
   | exact ih2 _ _ _ _
   | exact ih3 _ _ _
   | exact impl_AddRatio.mono _ _ _ _ _
   | exact impl_FloorRatio.mono _ _ _
   | exact impl_IsRatio.mono _ _ _
   | exact impl_LessRatio.mono _ _ _ _ _
   | exact impl_MakeRatio.mono _ _ _
   | exact impl_MulRatio.mono _ _ _ _ _
   | exact impl_RatioText.mono _ _ _
   | exact spec_DrawAddRatio.mono _ _
   | exact spec_DrawMakeRatio.mono _ _
   | exact spec_MakeRatio.mono _ _ _
   | exact LeO.none _
   | refine LeO.ite ?_ ?_
   | refine LeO.bind ?_ (fun _ => ?_)
  ·intro y0 y1 y2 y3 y4 y5 y6 y7
   unfold laws_FnRatios.j1
   repeat' first
   | (with_reducible exact ih0 _ _)
   | (with_reducible exact ih1 _ _ _ _ _ _ _ _)
   | (with_reducible exact ih2 _ _ _ _)
   | (with_reducible exact ih3 _ _ _)
   | (with_reducible exact impl_AddRatio.mono _ _ _ _ _)
   | (with_reducible exact impl_FloorRatio.mono _ _ _)
   | (with_reducible exact impl_IsRatio.mono _ _ _)
   | (with_reducible exact impl_LessRatio.mono _ _ _ _ _)
   | (with_reducible exact impl_MakeRatio.mono _ _ _)
   | (with_reducible exact impl_MulRatio.mono _ _ _ _ _)
   | (with_reducible exact impl_RatioText.mono _ _ _)
   | (with_reducible exact spec_DrawAddRatio.mono _ _)
   | (with_reducible exact spec_DrawMakeRatio.mono _ _)
   | (with_reducible exact spec_MakeRatio.mono _ _ _)
   | (with_reducible exact LeO.refl _)
   | (with_reducible exact LeO.none _)
   | (with_reducible refine LeO.ite ?_ ?_)
   | (with_reducible refine LeO.bind ?_ (fun _ => ?_))
   | exact ih0 _ _
   | exact ih1 _ _ _ _ _ _ _ _
   | exact ih2 _ _ _ _
   | exact ih3 _ _ _
   | exact impl_AddRatio.mono _ _ _ _ _
   | exact impl_FloorRatio.mono _ _ _
   | exact impl_IsRatio.mono _ _ _
   | exact impl_LessRatio.mono _ _ _ _ _
   | exact impl_MakeRatio.mono _ _ _
   | exact impl_MulRatio.mono _ _ _ _ _
   | exact impl_RatioText.mono _ _ _
   | exact spec_DrawAddRatio.mono _ _
   | exact spec_DrawMakeRatio.mono _ _
   | exact spec_MakeRatio.mono _ _ _
   | exact LeO.none _
   | refine LeO.ite ?_ ?_
   | refine LeO.bind ?_ (fun _ => ?_)
  ·intro y0 y1 y2 y3
   unfold laws_FnRatios.j2
   repeat' first
   | (with_reducible exact ih0 _ _)
   | (with_reducible exact ih1 _ _ _ _ _ _ _ _)
   | (with_reducible exact ih2 _ _ _ _)
   | (with_reducible exact ih3 _ _ _)
   | (with_reducible exact impl_AddRatio.mono _ _ _ _ _)
   | (with_reducible exact impl_FloorRatio.mono _ _ _)
   | (with_reducible exact impl_IsRatio.mono _ _ _)
   | (with_reducible exact impl_LessRatio.mono _ _ _ _ _)
   | (with_reducible exact impl_MakeRatio.mono _ _ _)
   | (with_reducible exact impl_MulRatio.mono _ _ _ _ _)
   | (with_reducible exact impl_RatioText.mono _ _ _)
   | (with_reducible exact spec_DrawAddRatio.mono _ _)
   | (with_reducible exact spec_DrawMakeRatio.mono _ _)
   | (with_reducible exact spec_MakeRatio.mono _ _ _)
   | (with_reducible exact LeO.refl _)
   | (with_reducible exact LeO.none _)
   | (with_reducible refine LeO.ite ?_ ?_)
   | (with_reducible refine LeO.bind ?_ (fun _ => ?_))
   | exact ih0 _ _
   | exact ih1 _ _ _ _ _ _ _ _
   | exact ih2 _ _ _ _
   | exact ih3 _ _ _
   | exact impl_AddRatio.mono _ _ _ _ _
   | exact impl_FloorRatio.mono _ _ _
   | exact impl_IsRatio.mono _ _ _
   | exact impl_LessRatio.mono _ _ _ _ _
   | exact impl_MakeRatio.mono _ _ _
   | exact impl_MulRatio.mono _ _ _ _ _
   | exact impl_RatioText.mono _ _ _
   | exact spec_DrawAddRatio.mono _ _
   | exact spec_DrawMakeRatio.mono _ _
   | exact spec_MakeRatio.mono _ _ _
   | exact LeO.none _
   | refine LeO.ite ?_ ?_
   | refine LeO.bind ?_ (fun _ => ?_)
  ·intro y0 y1 y2
   unfold laws_FnRatios.j3
   repeat' first
   | (with_reducible exact ih0 _ _)
   | (with_reducible exact ih1 _ _ _ _ _ _ _ _)
   | (with_reducible exact ih2 _ _ _ _)
   | (with_reducible exact ih3 _ _ _)
   | (with_reducible exact impl_AddRatio.mono _ _ _ _ _)
   | (with_reducible exact impl_FloorRatio.mono _ _ _)
   | (with_reducible exact impl_IsRatio.mono _ _ _)
   | (with_reducible exact impl_LessRatio.mono _ _ _ _ _)
   | (with_reducible exact impl_MakeRatio.mono _ _ _)
   | (with_reducible exact impl_MulRatio.mono _ _ _ _ _)
   | (with_reducible exact impl_RatioText.mono _ _ _)
   | (with_reducible exact spec_DrawAddRatio.mono _ _)
   | (with_reducible exact spec_DrawMakeRatio.mono _ _)
   | (with_reducible exact spec_MakeRatio.mono _ _ _)
   | (with_reducible exact LeO.refl _)
   | (with_reducible exact LeO.none _)
   | (with_reducible refine LeO.ite ?_ ?_)
   | (with_reducible refine LeO.bind ?_ (fun _ => ?_))
   | exact ih0 _ _
   | exact ih1 _ _ _ _ _ _ _ _
   | exact ih2 _ _ _ _
   | exact ih3 _ _ _
   | exact impl_AddRatio.mono _ _ _ _ _
   | exact impl_FloorRatio.mono _ _ _
   | exact impl_IsRatio.mono _ _ _
   | exact impl_LessRatio.mono _ _ _ _ _
   | exact impl_MakeRatio.mono _ _ _
   | exact impl_MulRatio.mono _ _ _ _ _
   | exact impl_RatioText.mono _ _ _
   | exact spec_DrawAddRatio.mono _ _
   | exact spec_DrawMakeRatio.mono _ _
   | exact spec_MakeRatio.mono _ _ _
   | exact LeO.none _
   | refine LeO.ite ?_ ?_
   | refine LeO.bind ?_ (fun _ => ?_)
theorem laws_FnRatios.mono : ∀ a0 k, LeO (laws_FnRatios.f k a0) (laws_FnRatios.f (k + 1) a0) := by
 intro a0 k
 obtain ⟨ih0, ih1, ih2, ih3⟩ := laws_FnRatios.mono_l k
 unfold laws_FnRatios.f
 repeat' first
   | (with_reducible exact ih0 _ _)
   | (with_reducible exact ih1 _ _ _ _ _ _ _ _)
   | (with_reducible exact ih2 _ _ _ _)
   | (with_reducible exact ih3 _ _ _)
   | (with_reducible exact impl_AddRatio.mono _ _ _ _ _)
   | (with_reducible exact impl_FloorRatio.mono _ _ _)
   | (with_reducible exact impl_IsRatio.mono _ _ _)
   | (with_reducible exact impl_LessRatio.mono _ _ _ _ _)
   | (with_reducible exact impl_MakeRatio.mono _ _ _)
   | (with_reducible exact impl_MulRatio.mono _ _ _ _ _)
   | (with_reducible exact impl_RatioText.mono _ _ _)
   | (with_reducible exact spec_DrawAddRatio.mono _ _)
   | (with_reducible exact spec_DrawMakeRatio.mono _ _)
   | (with_reducible exact spec_MakeRatio.mono _ _ _)
   | (with_reducible exact LeO.refl _)
   | (with_reducible exact LeO.none _)
   | (with_reducible refine LeO.ite ?_ ?_)
   | (with_reducible refine LeO.bind ?_ (fun _ => ?_))
   | exact ih0 _ _
   | exact ih1 _ _ _ _ _ _ _ _
   | exact ih2 _ _ _ _
   | exact ih3 _ _ _
   | exact impl_AddRatio.mono _ _ _ _ _
   | exact impl_FloorRatio.mono _ _ _
   | exact impl_IsRatio.mono _ _ _
   | exact impl_LessRatio.mono _ _ _ _ _
   | exact impl_MakeRatio.mono _ _ _
   | exact impl_MulRatio.mono _ _ _ _ _
   | exact impl_RatioText.mono _ _ _
   | exact spec_DrawAddRatio.mono _ _
   | exact spec_DrawMakeRatio.mono _ _
   | exact spec_MakeRatio.mono _ _ _
   | exact LeO.none _
   | refine LeO.ite ?_ ?_
   | refine LeO.bind ?_ (fun _ => ?_)
def laws_FnRatios.T21 : Bool × List (List Nat × List Nat) := (true, [([], []), ([0], [0]), ([1, 1], [1]), ([2], [2]), ([3, 2, 2], [2, 3]), ([2, 4], [2, 4]), ([5, 4], [5]), ([6], [6]), ([6], [6]), ([7, 8, 6, 6], [6, 7, 8]), ([6], [6]), ([6], [6]), ([10, 11, 9, 6], [6, 10, 11]), ([12, 12, 6], [6, 12]), ([13], [13]), ([13], [13]), ([14, 15, 13], [13, 14, 15]), ([13, 16, 6], [6, 13, 16]), ([9, 17, 6], [6, 9, 17]), ([6, 18], [6, 18])])
def laws_FnRatios.B21 : List Nat := [0, 1, 3, 7, 15, 31, 63, 127, 127, 511, 127, 127, 4095, 8191, 16383, 16383, 65535, 131071, 262143, 524287]
theorem laws_FnRatios.tab21 : rtab .any (opsOf Tryd.f3 21) = laws_FnRatios.T21 := by kernel_rfl
theorem laws_FnRatios.bits21 : waitsOk laws_FnRatios.T21.2 laws_FnRatios.B21 = true := by kernel_rfl
set_option maxHeartbeats 8000000 in
set_option maxRecDepth 100000 in
theorem laws_FnRatios.calls (k : Nat) (A0 : Option Addr) (c0 : Nat) (l0 : List Int) (r : Bool) (w : World) (hT0 : Tab w) (hr0 : Kd.C (Kd.int .u8) w A0 l0.length l0) (hc0 : l0.length ≤ c0) (h : laws_FnRatios.f k l0 = some r) (hr_ : r = true) :
  Calls Tryd.prog 3 #[.slice A0 l0.length c0] w fun e w' => e = .returned (.bool r) ∧ Below w.heap.size w w' := by
 have hT := aM hT0
 clear hT0
 have hu27 := Tryd.underlying27
 have HR0 := aM hr0
 have HC0 := aM hc0
 clear hr0 hc0
 have HB := aM (Below.refl w.heap.size w)
 have H : ((laws_big.f l0).bind fun t249 => (if t249 = true then (some true) else ((spec_DrawMakeRatio.f k l0).bind fun bt250 => ((impl_MakeRatio.f k bt250.1 bt250.2).bind fun bt252 => ((spec_MakeRatio.f k bt250.1 bt250.2).bind fun bt256 => (if (bt252.2.2 != bt256.2.2) = true then (some false) else (if bt252.2.2 = true then ((impl_IsRatio.f k bt252.1 bt252.2.1).bind fun t260 => (if t260 = true then (laws_FnRatios.j0 k l0 ((wrap64 (bt252.1 * bt250.2)) != (wrap64 (bt250.1 * bt252.2.1)))) else (laws_FnRatios.j0 k l0 true))) else (laws_FnRatios.j0 k l0 false)))))))) = some r := h
 clear h
 replace H := Option.bind_eq_some_iff.mp H
 obtain ⟨t249, A20, H⟩ := H
 replace H : (if t249 = true then (some true) else ((spec_DrawMakeRatio.f k l0).bind fun bt250 => ((impl_MakeRatio.f k bt250.1 bt250.2).bind fun bt252 => ((spec_MakeRatio.f k bt250.1 bt250.2).bind fun bt256 => (if (bt252.2.2 != bt256.2.2) = true then (some false) else (if bt252.2.2 = true then ((impl_IsRatio.f k bt252.1 bt252.2.1).bind fun t260 => (if t260 = true then (laws_FnRatios.j0 k l0 ((wrap64 (bt252.1 * bt250.2)) != (wrap64 (bt250.1 * bt252.2.1)))) else (laws_FnRatios.j0 k l0 true))) else (laws_FnRatios.j0 k l0 false))))))) = some r := H
 have A2 := aM A20
 clear A20
 by_cases c3 : t249 = true
 ·subst c3
  replace H : (some true) = some r := by rw [if_pos rfl] at H; exact H
  obtain rfl := Option.some.inj H
  go_enter Tryd.func3, Tryd.ntmps3
  go_wp2_with (first | ((with_reducible refine gate_callee (f := 4) rfl ?_); refine goesL_ (some 23) rfl rfl Tryd.func4 (by kernel_rfl) rfl #[.slice A0 l0.length c0] rfl (by (try simp only [List.map_toArray, List.map_cons, List.map_nil]); first | done | rfl | (simp only [List.length_drop, List.length_take]; rfl)) ?_; (with_reducible refine (laws_big.calls _ _ l0 true _ ?side1 ?side2 A2.out).mono ?_); (case side1 => repeat (first | exact HR0.out | (with_reducible refine Kd.C_alloc ?_ _) | (with_reducible refine Kd.C_drewN ?_ _) | (with_reducible refine Kd.C_drew ?_))); (case side2 => exact HC0.out); rintro e w' ⟨rfl, ⟨nd, rfl⟩⟩; refine ⟨_, rfl, ?_⟩))
  go_ret
  exact ⟨by first | rfl | (simp [errW_none, errW_some] <;> rfl) | (simp [*, errW_none, errW_some] <;> rfl), by repeat (first | (with_reducible first | exact HB.out | apply yA | apply yN | apply yD) | exact HB.out)⟩
 ·replace c3 := Bool.eq_false_iff.mpr c3
  subst c3
  replace H : ((spec_DrawMakeRatio.f k l0).bind fun bt250 => ((impl_MakeRatio.f k bt250.1 bt250.2).bind fun bt252 => ((spec_MakeRatio.f k bt250.1 bt250.2).bind fun bt256 => (if (bt252.2.2 != bt256.2.2) = true then (some false) else (if bt252.2.2 = true then ((impl_IsRatio.f k bt252.1 bt252.2.1).bind fun t260 => (if t260 = true then (laws_FnRatios.j0 k l0 ((wrap64 (bt252.1 * bt250.2)) != (wrap64 (bt250.1 * bt252.2.1)))) else (laws_FnRatios.j0 k l0 true))) else (laws_FnRatios.j0 k l0 false)))))) = some r := by rw [if_neg (show ¬ (false = true) by decide)] at H; exact H
  replace H := Option.bind_eq_some_iff.mp H
  obtain ⟨⟨t250, t251⟩, A40, H⟩ := H
  replace H : ((impl_MakeRatio.f k t250 t251).bind fun bt252 => ((spec_MakeRatio.f k t250 t251).bind fun bt256 => (if (bt252.2.2 != bt256.2.2) = true then (some false) else (if bt252.2.2 = true then ((impl_IsRatio.f k bt252.1 bt252.2.1).bind fun t260 => (if t260 = true then (laws_FnRatios.j0 k l0 ((wrap64 (bt252.1 * t251)) != (wrap64 (t250 * bt252.2.1)))) else (laws_FnRatios.j0 k l0 true))) else (laws_FnRatios.j0 k l0 false))))) = some r := H
  have A4 := aM A40
  clear A40
  replace H := Option.bind_eq_some_iff.mp H
  obtain ⟨⟨t252, t253, t254⟩, A50, H⟩ := H
  replace H : ((spec_MakeRatio.f k t250 t251).bind fun bt256 => (if (t254 != bt256.2.2) = true then (some false) else (if t254 = true then ((impl_IsRatio.f k t252 t253).bind fun t260 => (if t260 = true then (laws_FnRatios.j0 k l0 ((wrap64 (t252 * t251)) != (wrap64 (t250 * t253)))) else (laws_FnRatios.j0 k l0 true))) else (laws_FnRatios.j0 k l0 false)))) = some r := H
  have A5 := aM A50
  clear A50
  replace H := Option.bind_eq_some_iff.mp H
  obtain ⟨⟨t256, t257, t258⟩, A60, H⟩ := H
  replace H : (if (t254 != t258) = true then (some false) else (if t254 = true then ((impl_IsRatio.f k t252 t253).bind fun t260 => (if t260 = true then (laws_FnRatios.j0 k l0 ((wrap64 (t252 * t251)) != (wrap64 (t250 * t253)))) else (laws_FnRatios.j0 k l0 true))) else (laws_FnRatios.j0 k l0 false))) = some r := H
  have A6 := aM A60
  clear A60
  by_cases c7 : (t254 != t258) = true
  ·rw [if_pos c7] at H
   have c7b0 : (t254 != t258) = true := c7
   (try (have c7b1 : decide (t254 = t258) = false := by simpa using c7))
   (try (have c7b2 : (t254 == t258) = false := by simpa using c7))
   (try (have c7b3 : ¬ (t254 = t258) := by simpa using c7))
   clear c7
   exact absurd (Option.some.inj H) (by rw [hr_]; decide)
  ·rw [if_neg c7] at H
   have c7b0 : (t254 != t258) = false := by simpa using c7
   (try (have c7b1 : decide (t254 = t258) = true := by simpa using c7))
   (try (have c7b2 : (t254 == t258) = true := by simpa using c7))
   clear c7
   have HC16 := aM H
   clear H
   go_enter Tryd.func3, Tryd.ntmps3
   go_upto_region 8 with (first | ((with_reducible refine gate_callee (f := 4) rfl ?_); refine goesL_ (some 23) rfl rfl Tryd.func4 (by kernel_rfl) rfl #[.slice A0 l0.length c0] rfl (by (try simp only [List.map_toArray, List.map_cons, List.map_nil]); first | done | rfl | (simp only [List.length_drop, List.length_take]; rfl)) ?_; (with_reducible refine (laws_big.calls _ _ l0 false _ ?side1 ?side2 A2.out).mono ?_); (case side1 => repeat (first | exact HR0.out | (with_reducible refine Kd.C_alloc ?_ _) | (with_reducible refine Kd.C_drewN ?_ _) | (with_reducible refine Kd.C_drew ?_))); (case side2 => exact HC0.out); rintro e w' ⟨rfl, ⟨nd, rfl⟩⟩; refine ⟨_, rfl, ?_⟩) | ((with_reducible refine gate_callee (f := 5) rfl ?_); refine goesL_ (some 26) rfl rfl Tryd.func5 (by kernel_rfl) rfl #[.slice A0 l0.length c0] rfl (by (try simp only [List.map_toArray, List.map_cons, List.map_nil]); first | done | rfl | (simp only [List.length_drop, List.length_take]; rfl)) ?_; (with_reducible refine (spec_DrawMakeRatio.calls k _ _ l0 t250 t251 _ ?side1 ?side2 A4.out).mono ?_); (case side1 => repeat (first | exact HR0.out | (with_reducible refine Kd.C_alloc ?_ _) | (with_reducible refine Kd.C_drewN ?_ _) | (with_reducible refine Kd.C_drew ?_))); (case side2 => exact HC0.out); rintro e w17 ⟨rfl, hb⟩; refine ⟨_, rfl, ?_⟩; have n0_ := aM (below_step (by repeat (first | (with_reducible first | exact HB.out | apply yA | apply yN | apply yD) | exact HB.out)) hb); clear HB; have HB := n0_; clear n0_; (try clear hb); (try clear hk); (try clear hi)) | ((with_reducible refine gate_callee (f := 6) rfl ?_); refine goesL_ (some 32) rfl rfl Tryd.func6 (by kernel_rfl) rfl #[.int .i64 t250, .int .i64 t251] rfl (by (try simp only [List.map_toArray, List.map_cons, List.map_nil]); first | done | rfl | (simp only [List.length_drop, List.length_take]; rfl)) ?_; (with_reducible refine (impl_MakeRatio.calls k t250 t251 t252 t253 t254 _ A5.out).mono ?_); rintro e w18 ⟨rfl, hb⟩; refine ⟨_, rfl, ?_⟩; have n0_ := aM (below_step (by repeat (first | (with_reducible first | exact HB.out | apply yA | apply yN | apply yD) | exact HB.out)) hb); clear HB; have HB := n0_; clear n0_; (try clear hb); (try clear hk); (try clear hi)) | ((with_reducible refine gate_dst (N := 5) rfl ?_); refine box_event ?hg (N := 5) ?hd (cs := #[.int .i64 0, .int .i64 0]) (t := 27) ?hr ?_; (case hd => rfl); (case hg => rfl); (case hr => first | (go_simp; done) | (go_simp; rfl)); intro gb255 hg w19 hbox hb; have n0_ := aM (below_step (by repeat (first | (with_reducible first | exact HB.out | apply yA | apply yN | apply yD) | exact HB.out)) hb); have n1_ := aM (hbox); have n2_ := aM ((by rw [hg]; exact (below_size (by repeat (first | (with_reducible first | exact HB.out | apply yA | apply yN | apply yD) | exact HB.out))) : w.heap.size ≤ gb255)); have n3_ := aM ((by rw [hg]; exact (below_size (by repeat (first | (with_reducible first | exact HB.out | apply yA | apply yN | apply yD) | exact HB.out))) : w.heap.size ≤ gb255)); clear HB; have HB := n0_; have BK255 := n1_; have GW255 := n2_; have GE255 := n3_; clear n0_ n1_ n2_ n3_; clear hb hbox hg; have hcz20_0 : w19.cell? ⟨gb255, 0, none⟩ = some (.int .i64 0) := (xC BK255.out 0).trans rfl; have hcz20_1 : w19.cell? ⟨gb255, 1, none⟩ = some (.int .i64 0) := (xC BK255.out 1).trans rfl; have hfz20_0 := xZ BK255.out 0; have hfz20_1 := xZ BK255.out 1) | ((with_reducible refine gate_callee (f := 7) rfl ?_); refine goesL_ (some 38) rfl rfl Tryd.func7 (by kernel_rfl) rfl #[.int .i64 t250, .int .i64 t251] rfl (by (try simp only [List.map_toArray, List.map_cons, List.map_nil]); first | done | rfl | (simp only [List.length_drop, List.length_take]; rfl)) ?_; (with_reducible refine (spec_MakeRatio.calls k t250 t251 t256 t257 t258 _ A6.out).mono ?_); rintro e w21 ⟨rfl, hb⟩; refine ⟨_, rfl, ?_⟩; have n0_ := aM (xB (g := gb255) (o := .cells #[.int .i64 t252, .int .i64 t253] 27 (0, 0)) (by (with_reducible repeat (first|apply xN|apply xD|apply xA)); refine xP (cs := #[.int .i64 t252, .int .i64 0]) ?_ 1 _ rfl; (with_reducible repeat (first|apply xN|apply xD|apply xA)); refine xP (cs := #[.int .i64 0, .int .i64 0]) ?_ 0 _ rfl; (with_reducible repeat (first|apply xN|apply xD|apply xA)); exact BK255.out) hb); have n1_ := aM (below_step (by repeat (first | (with_reducible first | exact HB.out | apply yA | apply yN | apply yD | refine yS ?_ GE255.out) | exact HB.out)) hb); clear BK255; clear HB; have BK255 := n0_; have HB := n1_; clear n0_ n1_; (try clear hb); (try clear hk); (try clear hi)) | ((with_reducible refine gate_dst (N := 7) rfl ?_); refine box_event ?hg (N := 7) ?hd (cs := #[.int .i64 0, .int .i64 0]) (t := 27) ?hr ?_; (case hd => rfl); (case hg => rfl); (case hr => first | (go_simp; done) | (go_simp; rfl)); intro gb259 hg w22 hbox hb; have n0_ := aM (xB (g := gb255) (o := .cells #[.int .i64 t252, .int .i64 t253] 27 (0, 0)) (by (with_reducible repeat (first|apply xN|apply xD|apply xA)); exact BK255.out) hb); have n1_ := aM (below_step (by repeat (first | (with_reducible first | exact HB.out | apply yA | apply yN | apply yD | refine yS ?_ GE255.out) | exact HB.out)) hb); have n2_ := aM (hbox); have n3_ := aM ((by rw [hg]; exact (below_size (by repeat (first | (with_reducible first | exact HB.out | apply yA | apply yN | apply yD | refine yS ?_ GE255.out) | exact HB.out))) : w.heap.size ≤ gb259)); have n4_ := aM ((by rw [hg]; exact (below_size (by repeat (first | (with_reducible first | exact HB.out | apply yA | apply yN | apply yD | refine yS ?_ GE255.out) | exact HB.out))) : w.heap.size ≤ gb259)); have n5_ := aM ((by rw [hg]; exact nL (xL (g := gb255) (o := .cells #[.int .i64 t252, .int .i64 t253] 27 (0, 0)) (by (with_reducible repeat (first|apply xN|apply xD|apply xA)); exact BK255.out)) : gb255 ≠ gb259)); have n6_ := aM ((by rw [hg]; exact nG (xL (g := gb255) (o := .cells #[.int .i64 t252, .int .i64 t253] 27 (0, 0)) (by (with_reducible repeat (first|apply xN|apply xD|apply xA)); exact BK255.out)) : gb259 ≠ gb255)); clear BK255; clear HB; have BK255 := n0_; have HB := n1_; have BK259 := n2_; have GW259 := n3_; have GE259 := n4_; have NB255_259 := n5_; have NB259_255 := n6_; clear n0_ n1_ n2_ n3_ n4_ n5_ n6_; clear hb hbox hg; have hnb23 := NB259_255.out; have hnc23 := NB255_259.out; have hcz24_0 : w22.cell? ⟨gb259, 0, none⟩ = some (.int .i64 0) := (xC BK259.out 0).trans rfl; have hcz24_1 : w22.cell? ⟨gb259, 1, none⟩ = some (.int .i64 0) := (xC BK259.out 1).trans rfl; have hfz24_0 := xZ BK259.out 0; have hfz24_1 := xZ BK259.out 1))
   (try simp only [Act.put, List.setIfInBounds_toArray, List.set_cons_zero, List.set_cons_succ])
   go_cut [60] (fun v60 wc => ∃ (kq : Nat) (x60_15 : Bool), v60 = .bool x60_15 ∧ Aside0 (laws_FnRatios.j0 kq l0 x60_15 = some r) ∧ Aside0 (kq ≤ k) ∧ Aside0 (wc.heap[gb255]? = some (.cells #[.int .i64 t252, .int .i64 t253] 27 (0, 0))) ∧ Aside0 (wc.heap[gb259]? = some (.cells #[.int .i64 t256, .int .i64 t257] 27 (0, 0))) ∧ Aside0 (Below w.heap.size w wc))
   case first => as_aux_lemma =>
    have H := HC16.out
    clear HC16
    by_cases c25 : t254 = true
    ·subst c25
     replace H : ((impl_IsRatio.f k t252 t253).bind fun t260 => (if t260 = true then (laws_FnRatios.j0 k l0 ((wrap64 (t252 * t251)) != (wrap64 (t250 * t253)))) else (laws_FnRatios.j0 k l0 true))) = some r := by rw [if_pos rfl] at H; exact H
     replace H := Option.bind_eq_some_iff.mp H
     obtain ⟨t260, A260, H⟩ := H
     replace H : (if t260 = true then (laws_FnRatios.j0 k l0 ((wrap64 (t252 * t251)) != (wrap64 (t250 * t253)))) else (laws_FnRatios.j0 k l0 true)) = some r := H
     have A26 := aM A260
     clear A260
     by_cases c27 : t260 = true
     ·subst c27
      replace H : (laws_FnRatios.j0 k l0 ((wrap64 (t252 * t251)) != (wrap64 (t250 * t253)))) = some r := by rw [if_pos rfl] at H; exact H
      have H' := aM H
      clear H
      have hnb28 := NB255_259.out
      have hcz29_0 : w22.cell? ⟨gb255, 0, none⟩ = some (.int .i64 t252) := (xC BK255.out 0).trans rfl
      have hcz29_1 : w22.cell? ⟨gb255, 1, none⟩ = some (.int .i64 t253) := (xC BK255.out 1).trans rfl
      have hfz29_0 := xZ BK255.out 0
      have hfz29_1 := xZ BK255.out 1
      go_wp2_with (first | (go_at_call 8; (with_reducible refine (impl_IsRatio.calls k t252 t253 true _ A26.out).mono ?_); rintro e w30 ⟨rfl, hb⟩; have n0_ := aM (xB (g := gb255) (o := .cells #[.int .i64 t252, .int .i64 t253] 27 (0, 0)) (by (with_reducible repeat (first|apply xN|apply xD|apply xA)); refine xF ?_ NB255_259.out _; (with_reducible repeat (first|apply xN|apply xD|apply xA)); refine xF ?_ NB255_259.out _; (with_reducible repeat (first|apply xN|apply xD|apply xA)); exact BK255.out) hb); have n1_ := aM (xB (g := gb259) (o := .cells #[.int .i64 t256, .int .i64 t257] 27 (0, 0)) (by (with_reducible repeat (first|apply xN|apply xD|apply xA)); refine xP (cs := #[.int .i64 t256, .int .i64 0]) ?_ 1 _ rfl; (with_reducible repeat (first|apply xN|apply xD|apply xA)); refine xP (cs := #[.int .i64 0, .int .i64 0]) ?_ 0 _ rfl; (with_reducible repeat (first|apply xN|apply xD|apply xA)); exact BK259.out) hb); have n2_ := aM (below_step (by repeat (first | (with_reducible first | exact HB.out | apply yA | apply yN | apply yD | refine yS ?_ GE255.out | refine yS ?_ GE259.out) | exact HB.out)) hb); clear BK255; clear BK259; clear HB; have BK255 := n0_; have BK259 := n1_; have HB := n2_; clear n0_ n1_ n2_; (try clear hb); (try clear hk); (try clear hi); have hcz31_0 : w30.cell? ⟨gb255, 0, none⟩ = some (.int .i64 t252) := (xC BK255.out 0).trans rfl; have hcz31_1 : w30.cell? ⟨gb255, 1, none⟩ = some (.int .i64 t253) := (xC BK255.out 1).trans rfl; have hfz31_0 := xZ BK255.out 0; have hfz31_1 := xZ BK255.out 1))
      go_meet
      case rel => exact ⟨_, (((wrap64 (t252 * t251)) != (wrap64 (t250 * t253)))), (by first | rfl | (simp; done) | (simp [*]; done)), H', ⟨by first | omega | exact Nat.le_refl _⟩, ⟨by (with_reducible repeat (first|apply xN|apply xD|apply xA)); exact BK255.out⟩, ⟨by (with_reducible repeat (first|apply xN|apply xD|apply xA)); exact BK259.out⟩, ⟨by repeat (first | (with_reducible first | exact HB.out | apply yA | apply yN | apply yD | refine yS ?_ GE255.out | refine yS ?_ GE259.out) | exact HB.out)⟩⟩
     ·replace c27 := Bool.eq_false_iff.mpr c27
      subst c27
      replace H : (laws_FnRatios.j0 k l0 true) = some r := by rw [if_neg (show ¬ (false = true) by decide)] at H; exact H
      have H' := aM H
      clear H
      have hnb32 := NB255_259.out
      have hcz33_0 : w22.cell? ⟨gb255, 0, none⟩ = some (.int .i64 t252) := (xC BK255.out 0).trans rfl
      have hcz33_1 : w22.cell? ⟨gb255, 1, none⟩ = some (.int .i64 t253) := (xC BK255.out 1).trans rfl
      have hfz33_0 := xZ BK255.out 0
      have hfz33_1 := xZ BK255.out 1
      go_wp2_with (first | (go_at_call 8; (with_reducible refine (impl_IsRatio.calls k t252 t253 false _ A26.out).mono ?_); rintro e w34 ⟨rfl, hb⟩; have n0_ := aM (xB (g := gb255) (o := .cells #[.int .i64 t252, .int .i64 t253] 27 (0, 0)) (by (with_reducible repeat (first|apply xN|apply xD|apply xA)); refine xF ?_ NB255_259.out _; (with_reducible repeat (first|apply xN|apply xD|apply xA)); refine xF ?_ NB255_259.out _; (with_reducible repeat (first|apply xN|apply xD|apply xA)); exact BK255.out) hb); have n1_ := aM (xB (g := gb259) (o := .cells #[.int .i64 t256, .int .i64 t257] 27 (0, 0)) (by (with_reducible repeat (first|apply xN|apply xD|apply xA)); refine xP (cs := #[.int .i64 t256, .int .i64 0]) ?_ 1 _ rfl; (with_reducible repeat (first|apply xN|apply xD|apply xA)); refine xP (cs := #[.int .i64 0, .int .i64 0]) ?_ 0 _ rfl; (with_reducible repeat (first|apply xN|apply xD|apply xA)); exact BK259.out) hb); have n2_ := aM (below_step (by repeat (first | (with_reducible first | exact HB.out | apply yA | apply yN | apply yD | refine yS ?_ GE255.out | refine yS ?_ GE259.out) | exact HB.out)) hb); clear BK255; clear BK259; clear HB; have BK255 := n0_; have BK259 := n1_; have HB := n2_; clear n0_ n1_ n2_; (try clear hb); (try clear hk); (try clear hi)))
      go_meet
      case rel => exact ⟨_, (true), (by first | rfl | (simp; done) | (simp [*]; done)), H', ⟨by first | omega | exact Nat.le_refl _⟩, ⟨by (with_reducible repeat (first|apply xN|apply xD|apply xA)); exact BK255.out⟩, ⟨by (with_reducible repeat (first|apply xN|apply xD|apply xA)); exact BK259.out⟩, ⟨by repeat (first | (with_reducible first | exact HB.out | apply yA | apply yN | apply yD | refine yS ?_ GE255.out | refine yS ?_ GE259.out) | exact HB.out)⟩⟩
    ·replace c25 := Bool.eq_false_iff.mpr c25
     subst c25
     replace H : (laws_FnRatios.j0 k l0 false) = some r := by rw [if_neg (show ¬ (false = true) by decide)] at H; exact H
     have H' := aM H
     clear H
     go_wp2
     go_meet
     case rel => exact ⟨_, (false), (by first | rfl | (simp; done) | (simp [*]; done)), H', ⟨by first | omega | exact Nat.le_refl _⟩, ⟨by (with_reducible repeat (first|apply xN|apply xD|apply xA)); refine xF ?_ NB255_259.out _; (with_reducible repeat (first|apply xN|apply xD|apply xA)); refine xF ?_ NB255_259.out _; (with_reducible repeat (first|apply xN|apply xD|apply xA)); exact BK255.out⟩, ⟨by (with_reducible repeat (first|apply xN|apply xD|apply xA)); refine xP (cs := #[.int .i64 t256, .int .i64 0]) ?_ 1 _ rfl; (with_reducible repeat (first|apply xN|apply xD|apply xA)); refine xP (cs := #[.int .i64 0, .int .i64 0]) ?_ 0 _ rfl; (with_reducible repeat (first|apply xN|apply xD|apply xA)); exact BK259.out⟩, ⟨by repeat (first | (with_reducible first | exact HB.out | apply yA | apply yN | apply yD | refine yS ?_ GE255.out | refine yS ?_ GE259.out) | exact HB.out)⟩⟩
   case rest => as_aux_lemma =>
    clear HC16
    try clear c3
    try clear c7
    try clear c7b0
    try clear c7b1
    try clear c7b2
    try clear hcz20_0
    try clear hcz20_1
    try clear hcz24_0
    try clear hcz24_1
    try clear hfz20_0
    try clear hfz20_1
    try clear hfz24_0
    try clear hfz24_1
    obtain ⟨kq, x60_15, rfl, HA, HJ15, BK255, BK259, HB⟩ := hcut
    cases kq with
    | zero => exact absurd HA.out (by simp [laws_FnRatios.j0])
    | succ kj15 =>
     have H := HA.out
     clear HA
     simp only [laws_FnRatios.j0] at H
     by_cases c35 : x60_15 = true
     ·subst c35
      replace H : (some false) = some r := by rw [if_pos rfl] at H; exact H
      exact absurd (Option.some.inj H) (by rw [hr_]; decide)
     ·replace c35 := Bool.eq_false_iff.mpr c35
      subst c35
      replace H : ((spec_DrawAddRatio.f kj15 l0).bind fun bt261 => ((impl_AddRatio.f kj15 bt261.1 bt261.2.1 bt261.2.2.1 bt261.2.2.2).bind fun bt267 => ((impl_AddRatio.f kj15 bt261.2.2.1 bt261.2.2.2 bt261.1 bt261.2.1).bind fun bt271 => ((impl_MulRatio.f kj15 bt261.1 bt261.2.1 bt261.2.2.1 bt261.2.2.2).bind fun bt275 => ((impl_MulRatio.f kj15 bt261.2.2.1 bt261.2.2.2 bt261.1 bt261.2.1).bind fun bt279 => (if (bt267.2.2 != bt271.2.2) = true then (laws_FnRatios.j1 kj15 bt267.2.2 true bt261.1 bt261.2.1 bt261.2.2.1 bt261.2.2.2 bt267.1 bt267.2.1) else (if (!(bt267.1 == bt271.1) || (!(bt267.2.1 == bt271.2.1))) = true then (laws_FnRatios.j1 kj15 bt267.2.2 true bt261.1 bt261.2.1 bt261.2.2.1 bt261.2.2.2 bt267.1 bt267.2.1) else (if (bt275.2.2 != bt279.2.2) = true then (laws_FnRatios.j1 kj15 bt267.2.2 true bt261.1 bt261.2.1 bt261.2.2.1 bt261.2.2.2 bt267.1 bt267.2.1) else (if (!(bt275.1 == bt279.1) || (!(bt275.2.1 == bt279.2.1))) = true then (laws_FnRatios.j1 kj15 bt267.2.2 true bt261.1 bt261.2.1 bt261.2.2.1 bt261.2.2.2 bt267.1 bt267.2.1) else (if bt267.2.2 = true then ((impl_IsRatio.f kj15 bt267.1 bt267.2.1).bind fun t283 => (if t283 = true then (if bt275.2.2 = true then ((impl_IsRatio.f kj15 bt275.1 bt275.2.1).bind fun t284 => (laws_FnRatios.j1 kj15 bt267.2.2 (!t284) bt261.1 bt261.2.1 bt261.2.2.1 bt261.2.2.2 bt267.1 bt267.2.1)) else (laws_FnRatios.j1 kj15 bt267.2.2 false bt261.1 bt261.2.1 bt261.2.2.1 bt261.2.2.2 bt267.1 bt267.2.1)) else (laws_FnRatios.j1 kj15 bt267.2.2 true bt261.1 bt261.2.1 bt261.2.2.1 bt261.2.2.2 bt267.1 bt267.2.1))) else (if bt275.2.2 = true then ((impl_IsRatio.f kj15 bt275.1 bt275.2.1).bind fun t285 => (laws_FnRatios.j1 kj15 bt267.2.2 (!t285) bt261.1 bt261.2.1 bt261.2.2.1 bt261.2.2.2 bt267.1 bt267.2.1)) else (laws_FnRatios.j1 kj15 bt267.2.2 false bt261.1 bt261.2.1 bt261.2.2.1 bt261.2.2.2 bt267.1 bt267.2.1)))))))))))) = some r := by rw [if_neg (show ¬ (false = true) by decide)] at H; exact H
      replace H := Option.bind_eq_some_iff.mp H
      obtain ⟨⟨t261, t262, t263, t264⟩, A360, H⟩ := H
      replace H : ((impl_AddRatio.f kj15 t261 t262 t263 t264).bind fun bt267 => ((impl_AddRatio.f kj15 t263 t264 t261 t262).bind fun bt271 => ((impl_MulRatio.f kj15 t261 t262 t263 t264).bind fun bt275 => ((impl_MulRatio.f kj15 t263 t264 t261 t262).bind fun bt279 => (if (bt267.2.2 != bt271.2.2) = true then (laws_FnRatios.j1 kj15 bt267.2.2 true t261 t262 t263 t264 bt267.1 bt267.2.1) else (if (!(bt267.1 == bt271.1) || (!(bt267.2.1 == bt271.2.1))) = true then (laws_FnRatios.j1 kj15 bt267.2.2 true t261 t262 t263 t264 bt267.1 bt267.2.1) else (if (bt275.2.2 != bt279.2.2) = true then (laws_FnRatios.j1 kj15 bt267.2.2 true t261 t262 t263 t264 bt267.1 bt267.2.1) else (if (!(bt275.1 == bt279.1) || (!(bt275.2.1 == bt279.2.1))) = true then (laws_FnRatios.j1 kj15 bt267.2.2 true t261 t262 t263 t264 bt267.1 bt267.2.1) else (if bt267.2.2 = true then ((impl_IsRatio.f kj15 bt267.1 bt267.2.1).bind fun t283 => (if t283 = true then (if bt275.2.2 = true then ((impl_IsRatio.f kj15 bt275.1 bt275.2.1).bind fun t284 => (laws_FnRatios.j1 kj15 bt267.2.2 (!t284) t261 t262 t263 t264 bt267.1 bt267.2.1)) else (laws_FnRatios.j1 kj15 bt267.2.2 false t261 t262 t263 t264 bt267.1 bt267.2.1)) else (laws_FnRatios.j1 kj15 bt267.2.2 true t261 t262 t263 t264 bt267.1 bt267.2.1))) else (if bt275.2.2 = true then ((impl_IsRatio.f kj15 bt275.1 bt275.2.1).bind fun t285 => (laws_FnRatios.j1 kj15 bt267.2.2 (!t285) t261 t262 t263 t264 bt267.1 bt267.2.1)) else (laws_FnRatios.j1 kj15 bt267.2.2 false t261 t262 t263 t264 bt267.1 bt267.2.1))))))))))) = some r := H
      have A36 := aM A360
      clear A360
      replace H := Option.bind_eq_some_iff.mp H
      obtain ⟨⟨t267, t268, t269⟩, A370, H⟩ := H
      replace H : ((impl_AddRatio.f kj15 t263 t264 t261 t262).bind fun bt271 => ((impl_MulRatio.f kj15 t261 t262 t263 t264).bind fun bt275 => ((impl_MulRatio.f kj15 t263 t264 t261 t262).bind fun bt279 => (if (t269 != bt271.2.2) = true then (laws_FnRatios.j1 kj15 t269 true t261 t262 t263 t264 t267 t268) else (if (!(t267 == bt271.1) || (!(t268 == bt271.2.1))) = true then (laws_FnRatios.j1 kj15 t269 true t261 t262 t263 t264 t267 t268) else (if (bt275.2.2 != bt279.2.2) = true then (laws_FnRatios.j1 kj15 t269 true t261 t262 t263 t264 t267 t268) else (if (!(bt275.1 == bt279.1) || (!(bt275.2.1 == bt279.2.1))) = true then (laws_FnRatios.j1 kj15 t269 true t261 t262 t263 t264 t267 t268) else (if t269 = true then ((impl_IsRatio.f kj15 t267 t268).bind fun t283 => (if t283 = true then (if bt275.2.2 = true then ((impl_IsRatio.f kj15 bt275.1 bt275.2.1).bind fun t284 => (laws_FnRatios.j1 kj15 t269 (!t284) t261 t262 t263 t264 t267 t268)) else (laws_FnRatios.j1 kj15 t269 false t261 t262 t263 t264 t267 t268)) else (laws_FnRatios.j1 kj15 t269 true t261 t262 t263 t264 t267 t268))) else (if bt275.2.2 = true then ((impl_IsRatio.f kj15 bt275.1 bt275.2.1).bind fun t285 => (laws_FnRatios.j1 kj15 t269 (!t285) t261 t262 t263 t264 t267 t268)) else (laws_FnRatios.j1 kj15 t269 false t261 t262 t263 t264 t267 t268)))))))))) = some r := H
      have A37 := aM A370
      clear A370
      replace H := Option.bind_eq_some_iff.mp H
      obtain ⟨⟨t271, t272, t273⟩, A380, H⟩ := H
      replace H : ((impl_MulRatio.f kj15 t261 t262 t263 t264).bind fun bt275 => ((impl_MulRatio.f kj15 t263 t264 t261 t262).bind fun bt279 => (if (t269 != t273) = true then (laws_FnRatios.j1 kj15 t269 true t261 t262 t263 t264 t267 t268) else (if (!(t267 == t271) || (!(t268 == t272))) = true then (laws_FnRatios.j1 kj15 t269 true t261 t262 t263 t264 t267 t268) else (if (bt275.2.2 != bt279.2.2) = true then (laws_FnRatios.j1 kj15 t269 true t261 t262 t263 t264 t267 t268) else (if (!(bt275.1 == bt279.1) || (!(bt275.2.1 == bt279.2.1))) = true then (laws_FnRatios.j1 kj15 t269 true t261 t262 t263 t264 t267 t268) else (if t269 = true then ((impl_IsRatio.f kj15 t267 t268).bind fun t283 => (if t283 = true then (if bt275.2.2 = true then ((impl_IsRatio.f kj15 bt275.1 bt275.2.1).bind fun t284 => (laws_FnRatios.j1 kj15 t269 (!t284) t261 t262 t263 t264 t267 t268)) else (laws_FnRatios.j1 kj15 t269 false t261 t262 t263 t264 t267 t268)) else (laws_FnRatios.j1 kj15 t269 true t261 t262 t263 t264 t267 t268))) else (if bt275.2.2 = true then ((impl_IsRatio.f kj15 bt275.1 bt275.2.1).bind fun t285 => (laws_FnRatios.j1 kj15 t269 (!t285) t261 t262 t263 t264 t267 t268)) else (laws_FnRatios.j1 kj15 t269 false t261 t262 t263 t264 t267 t268))))))))) = some r := H
      have A38 := aM A380
      clear A380
      replace H := Option.bind_eq_some_iff.mp H
      obtain ⟨⟨t275, t276, t277⟩, A390, H⟩ := H
      replace H : ((impl_MulRatio.f kj15 t263 t264 t261 t262).bind fun bt279 => (if (t269 != t273) = true then (laws_FnRatios.j1 kj15 t269 true t261 t262 t263 t264 t267 t268) else (if (!(t267 == t271) || (!(t268 == t272))) = true then (laws_FnRatios.j1 kj15 t269 true t261 t262 t263 t264 t267 t268) else (if (t277 != bt279.2.2) = true then (laws_FnRatios.j1 kj15 t269 true t261 t262 t263 t264 t267 t268) else (if (!(t275 == bt279.1) || (!(t276 == bt279.2.1))) = true then (laws_FnRatios.j1 kj15 t269 true t261 t262 t263 t264 t267 t268) else (if t269 = true then ((impl_IsRatio.f kj15 t267 t268).bind fun t283 => (if t283 = true then (if t277 = true then ((impl_IsRatio.f kj15 t275 t276).bind fun t284 => (laws_FnRatios.j1 kj15 t269 (!t284) t261 t262 t263 t264 t267 t268)) else (laws_FnRatios.j1 kj15 t269 false t261 t262 t263 t264 t267 t268)) else (laws_FnRatios.j1 kj15 t269 true t261 t262 t263 t264 t267 t268))) else (if t277 = true then ((impl_IsRatio.f kj15 t275 t276).bind fun t285 => (laws_FnRatios.j1 kj15 t269 (!t285) t261 t262 t263 t264 t267 t268)) else (laws_FnRatios.j1 kj15 t269 false t261 t262 t263 t264 t267 t268)))))))) = some r := H
      have A39 := aM A390
      clear A390
      replace H := Option.bind_eq_some_iff.mp H
      obtain ⟨⟨t279, t280, t281⟩, A400, H⟩ := H
      replace H : (if (t269 != t273) = true then (laws_FnRatios.j1 kj15 t269 true t261 t262 t263 t264 t267 t268) else (if (!(t267 == t271) || (!(t268 == t272))) = true then (laws_FnRatios.j1 kj15 t269 true t261 t262 t263 t264 t267 t268) else (if (t277 != t281) = true then (laws_FnRatios.j1 kj15 t269 true t261 t262 t263 t264 t267 t268) else (if (!(t275 == t279) || (!(t276 == t280))) = true then (laws_FnRatios.j1 kj15 t269 true t261 t262 t263 t264 t267 t268) else (if t269 = true then ((impl_IsRatio.f kj15 t267 t268).bind fun t283 => (if t283 = true then (if t277 = true then ((impl_IsRatio.f kj15 t275 t276).bind fun t284 => (laws_FnRatios.j1 kj15 t269 (!t284) t261 t262 t263 t264 t267 t268)) else (laws_FnRatios.j1 kj15 t269 false t261 t262 t263 t264 t267 t268)) else (laws_FnRatios.j1 kj15 t269 true t261 t262 t263 t264 t267 t268))) else (if t277 = true then ((impl_IsRatio.f kj15 t275 t276).bind fun t285 => (laws_FnRatios.j1 kj15 t269 (!t285) t261 t262 t263 t264 t267 t268)) else (laws_FnRatios.j1 kj15 t269 false t261 t262 t263 t264 t267 t268))))))) = some r := H
      have A40 := aM A400
      clear A400
      have HC41 := aM H
      clear H
      go_upto_region 15 with (first | ((with_reducible refine gate_callee (f := 9) rfl ?_); refine goesL_ (some 63) rfl rfl Tryd.func9 (by kernel_rfl) rfl #[.slice A0 l0.length c0] rfl (by (try simp only [List.map_toArray, List.map_cons, List.map_nil]); first | done | rfl | (simp only [List.length_drop, List.length_take]; rfl)) ?_; (with_reducible refine (spec_DrawAddRatio.calls kj15 _ _ l0 t261 t262 t263 t264 _ ?side1 ?side2 A36.out).mono ?_); (case side1 => repeat (first | exact (Kd.C_below HR0.out HB.out) | (with_reducible refine Kd.C_alloc ?_ _) | (with_reducible refine Kd.C_drewN ?_ _) | (with_reducible refine Kd.C_drew ?_))); (case side2 => exact HC0.out); rintro e w42 ⟨rfl, hb⟩; refine ⟨_, rfl, ?_⟩; have n0_ := aM (xB (g := gb255) (o := .cells #[.int .i64 t252, .int .i64 t253] 27 (0, 0)) (by (with_reducible repeat (first|apply xN|apply xD|apply xA)); exact BK255.out) hb); have n1_ := aM (xB (g := gb259) (o := .cells #[.int .i64 t256, .int .i64 t257] 27 (0, 0)) (by (with_reducible repeat (first|apply xN|apply xD|apply xA)); exact BK259.out) hb); have n2_ := aM (below_step (by repeat (first | (with_reducible first | exact HB.out | apply yA | apply yN | apply yD | refine yS ?_ GE255.out | refine yS ?_ GE259.out) | exact HB.out)) hb); clear BK255; clear BK259; clear HB; have BK255 := n0_; have BK259 := n1_; have HB := n2_; clear n0_ n1_ n2_; (try clear hb); (try clear hk); (try clear hi)) | ((with_reducible refine gate_dst (N := 9) rfl ?_); refine box_event ?hg (N := 9) ?hd (cs := #[.int .i64 0, .int .i64 0]) (t := 27) ?hr ?_; (case hd => rfl); (case hg => rfl); (case hr => first | (go_simp; done) | (go_simp; rfl)); intro gb265 hg w43 hbox hb; have n0_ := aM (xB (g := gb255) (o := .cells #[.int .i64 t252, .int .i64 t253] 27 (0, 0)) (by (with_reducible repeat (first|apply xN|apply xD|apply xA)); exact BK255.out) hb); have n1_ := aM (xB (g := gb259) (o := .cells #[.int .i64 t256, .int .i64 t257] 27 (0, 0)) (by (with_reducible repeat (first|apply xN|apply xD|apply xA)); exact BK259.out) hb); have n2_ := aM (below_step (by repeat (first | (with_reducible first | exact HB.out | apply yA | apply yN | apply yD | refine yS ?_ GE255.out | refine yS ?_ GE259.out) | exact HB.out)) hb); have n3_ := aM (hbox); have n4_ := aM ((by rw [hg]; exact (below_size (by repeat (first | (with_reducible first | exact HB.out | apply yA | apply yN | apply yD | refine yS ?_ GE255.out | refine yS ?_ GE259.out) | exact HB.out))) : w.heap.size ≤ gb265)); have n5_ := aM ((by rw [hg]; exact (below_size (by repeat (first | (with_reducible first | exact HB.out | apply yA | apply yN | apply yD | refine yS ?_ GE255.out | refine yS ?_ GE259.out) | exact HB.out))) : w.heap.size ≤ gb265)); have n6_ := aM ((by rw [hg]; exact nL (xL (g := gb255) (o := .cells #[.int .i64 t252, .int .i64 t253] 27 (0, 0)) (by (with_reducible repeat (first|apply xN|apply xD|apply xA)); exact BK255.out)) : gb255 ≠ gb265)); have n7_ := aM ((by rw [hg]; exact nG (xL (g := gb255) (o := .cells #[.int .i64 t252, .int .i64 t253] 27 (0, 0)) (by (with_reducible repeat (first|apply xN|apply xD|apply xA)); exact BK255.out)) : gb265 ≠ gb255)); have n8_ := aM ((by rw [hg]; exact nL (xL (g := gb259) (o := .cells #[.int .i64 t256, .int .i64 t257] 27 (0, 0)) (by (with_reducible repeat (first|apply xN|apply xD|apply xA)); exact BK259.out)) : gb259 ≠ gb265)); have n9_ := aM ((by rw [hg]; exact nG (xL (g := gb259) (o := .cells #[.int .i64 t256, .int .i64 t257] 27 (0, 0)) (by (with_reducible repeat (first|apply xN|apply xD|apply xA)); exact BK259.out)) : gb265 ≠ gb259)); clear BK255; clear BK259; clear HB; have BK255 := n0_; have BK259 := n1_; have HB := n2_; have BK265 := n3_; have GW265 := n4_; have GE265 := n5_; have NB255_265 := n6_; have NB265_255 := n7_; have NB259_265 := n8_; have NB265_259 := n9_; clear n0_ n1_ n2_ n3_ n4_ n5_ n6_ n7_ n8_ n9_; clear hb hbox hg) | ((with_reducible refine gate_dst (N := 10) rfl ?_); refine box_event ?hg (N := 10) ?hd (cs := #[.int .i64 0, .int .i64 0]) (t := 27) ?hr ?_; (case hd => rfl); (case hg => rfl); (case hr => first | (go_simp; done) | (go_simp; rfl)); intro gb266 hg w44 hbox hb; have n0_ := aM (xB (g := gb255) (o := .cells #[.int .i64 t252, .int .i64 t253] 27 (0, 0)) (by (with_reducible repeat (first|apply xN|apply xD|apply xA)); exact BK255.out) hb); have n1_ := aM (xB (g := gb259) (o := .cells #[.int .i64 t256, .int .i64 t257] 27 (0, 0)) (by (with_reducible repeat (first|apply xN|apply xD|apply xA)); exact BK259.out) hb); have n2_ := aM (xB (g := gb265) (o := .cells #[.int .i64 0, .int .i64 0] 27 (0, 0)) (by (with_reducible repeat (first|apply xN|apply xD|apply xA)); exact BK265.out) hb); have n3_ := aM (below_step (by repeat (first | (with_reducible first | exact HB.out | apply yA | apply yN | apply yD | refine yS ?_ GE255.out | refine yS ?_ GE259.out | refine yS ?_ GE265.out) | exact HB.out)) hb); have n4_ := aM (hbox); have n5_ := aM ((by rw [hg]; exact (below_size (by repeat (first | (with_reducible first | exact HB.out | apply yA | apply yN | apply yD | refine yS ?_ GE255.out | refine yS ?_ GE259.out | refine yS ?_ GE265.out) | exact HB.out))) : w.heap.size ≤ gb266)); have n6_ := aM ((by rw [hg]; exact (below_size (by repeat (first | (with_reducible first | exact HB.out | apply yA | apply yN | apply yD | refine yS ?_ GE255.out | refine yS ?_ GE259.out | refine yS ?_ GE265.out) | exact HB.out))) : w.heap.size ≤ gb266)); have n7_ := aM ((by rw [hg]; exact nL (xL (g := gb255) (o := .cells #[.int .i64 t252, .int .i64 t253] 27 (0, 0)) (by (with_reducible repeat (first|apply xN|apply xD|apply xA)); exact BK255.out)) : gb255 ≠ gb266)); have n8_ := aM ((by rw [hg]; exact nG (xL (g := gb255) (o := .cells #[.int .i64 t252, .int .i64 t253] 27 (0, 0)) (by (with_reducible repeat (first|apply xN|apply xD|apply xA)); exact BK255.out)) : gb266 ≠ gb255)); have n9_ := aM ((by rw [hg]; exact nL (xL (g := gb259) (o := .cells #[.int .i64 t256, .int .i64 t257] 27 (0, 0)) (by (with_reducible repeat (first|apply xN|apply xD|apply xA)); exact BK259.out)) : gb259 ≠ gb266)); have n10_ := aM ((by rw [hg]; exact nG (xL (g := gb259) (o := .cells #[.int .i64 t256, .int .i64 t257] 27 (0, 0)) (by (with_reducible repeat (first|apply xN|apply xD|apply xA)); exact BK259.out)) : gb266 ≠ gb259)); have n11_ := aM ((by rw [hg]; exact nL (xL (g := gb265) (o := .cells #[.int .i64 0, .int .i64 0] 27 (0, 0)) (by (with_reducible repeat (first|apply xN|apply xD|apply xA)); exact BK265.out)) : gb265 ≠ gb266)); have n12_ := aM ((by rw [hg]; exact nG (xL (g := gb265) (o := .cells #[.int .i64 0, .int .i64 0] 27 (0, 0)) (by (with_reducible repeat (first|apply xN|apply xD|apply xA)); exact BK265.out)) : gb266 ≠ gb265)); clear BK255; clear BK259; clear BK265; clear HB; have BK255 := n0_; have BK259 := n1_; have BK265 := n2_; have HB := n3_; have BK266 := n4_; have GW266 := n5_; have GE266 := n6_; have NB255_266 := n7_; have NB266_255 := n8_; have NB259_266 := n9_; have NB266_259 := n10_; have NB265_266 := n11_; have NB266_265 := n12_; clear n0_ n1_ n2_ n3_ n4_ n5_ n6_ n7_ n8_ n9_ n10_ n11_ n12_; clear hb hbox hg; have hnb45 := NB265_255.out; have hnc45 := NB255_265.out; have hnb46 := NB265_259.out; have hnc46 := NB259_265.out; have hnb47 := NB265_266.out; have hnc47 := NB266_265.out; have hcz48_0 : w44.cell? ⟨gb265, 0, none⟩ = some (.int .i64 0) := (xC BK265.out 0).trans rfl; have hcz48_1 : w44.cell? ⟨gb265, 1, none⟩ = some (.int .i64 0) := (xC BK265.out 1).trans rfl; have hfz48_0 := xZ BK265.out 0; have hfz48_1 := xZ BK265.out 1; have hnb49 := NB266_255.out; have hnc49 := NB255_266.out; have hnb50 := NB266_259.out; have hnc50 := NB259_266.out; have hcz51_0 : w44.cell? ⟨gb266, 0, none⟩ = some (.int .i64 0) := (xC BK266.out 0).trans rfl; have hcz51_1 : w44.cell? ⟨gb266, 1, none⟩ = some (.int .i64 0) := (xC BK266.out 1).trans rfl; have hfz51_0 := xZ BK266.out 0; have hfz51_1 := xZ BK266.out 1) | ((with_reducible refine gate_callee (f := 10) rfl ?_); refine goesL_ (some 69) rfl rfl Tryd.func10 (by kernel_rfl) rfl #[.agg #[.int .i64 t261, .int .i64 t262], .agg #[.int .i64 t263, .int .i64 t264]] rfl (by (try simp only [List.map_toArray, List.map_cons, List.map_nil]); first | done | rfl | (simp only [List.length_drop, List.length_take]; rfl)) ?_; (with_reducible refine (impl_AddRatio.calls kj15 t261 t262 t263 t264 t267 t268 t269 _ A37.out).mono ?_); rintro e w52 ⟨rfl, hb⟩; refine ⟨_, rfl, ?_⟩; have n0_ := aM (xB (g := gb255) (o := .cells #[.int .i64 t252, .int .i64 t253] 27 (0, 0)) (by (with_reducible repeat (first|apply xN|apply xD|apply xA)); refine xF ?_ NB255_266.out _; (with_reducible repeat (first|apply xN|apply xD|apply xA)); refine xF ?_ NB255_266.out _; (with_reducible repeat (first|apply xN|apply xD|apply xA)); refine xF ?_ NB255_265.out _; (with_reducible repeat (first|apply xN|apply xD|apply xA)); refine xF ?_ NB255_265.out _; (with_reducible repeat (first|apply xN|apply xD|apply xA)); exact BK255.out) hb); have n1_ := aM (xB (g := gb259) (o := .cells #[.int .i64 t256, .int .i64 t257] 27 (0, 0)) (by (with_reducible repeat (first|apply xN|apply xD|apply xA)); refine xF ?_ NB259_266.out _; (with_reducible repeat (first|apply xN|apply xD|apply xA)); refine xF ?_ NB259_266.out _; (with_reducible repeat (first|apply xN|apply xD|apply xA)); refine xF ?_ NB259_265.out _; (with_reducible repeat (first|apply xN|apply xD|apply xA)); refine xF ?_ NB259_265.out _; (with_reducible repeat (first|apply xN|apply xD|apply xA)); exact BK259.out) hb); have n2_ := aM (xB (g := gb265) (o := .cells #[.int .i64 t261, .int .i64 t262] 27 (0, 0)) (by (with_reducible repeat (first|apply xN|apply xD|apply xA)); refine xF ?_ NB265_266.out _; (with_reducible repeat (first|apply xN|apply xD|apply xA)); refine xF ?_ NB265_266.out _; (with_reducible repeat (first|apply xN|apply xD|apply xA)); refine xP (cs := #[.int .i64 t261, .int .i64 0]) ?_ 1 _ rfl; (with_reducible repeat (first|apply xN|apply xD|apply xA)); refine xP (cs := #[.int .i64 0, .int .i64 0]) ?_ 0 _ rfl; (with_reducible repeat (first|apply xN|apply xD|apply xA)); exact BK265.out) hb); have n3_ := aM (xB (g := gb266) (o := .cells #[.int .i64 t263, .int .i64 t264] 27 (0, 0)) (by (with_reducible repeat (first|apply xN|apply xD|apply xA)); refine xP (cs := #[.int .i64 t263, .int .i64 0]) ?_ 1 _ rfl; (with_reducible repeat (first|apply xN|apply xD|apply xA)); refine xP (cs := #[.int .i64 0, .int .i64 0]) ?_ 0 _ rfl; (with_reducible repeat (first|apply xN|apply xD|apply xA)); refine xF ?_ NB266_265.out _; (with_reducible repeat (first|apply xN|apply xD|apply xA)); refine xF ?_ NB266_265.out _; (with_reducible repeat (first|apply xN|apply xD|apply xA)); exact BK266.out) hb); have n4_ := aM (below_step (by repeat (first | (with_reducible first | exact HB.out | apply yA | apply yN | apply yD | refine yS ?_ GE255.out | refine yS ?_ GE259.out | refine yS ?_ GE265.out | refine yS ?_ GE266.out) | exact HB.out)) hb); clear BK255; clear BK259; clear BK265; clear BK266; clear HB; have BK255 := n0_; have BK259 := n1_; have BK265 := n2_; have BK266 := n3_; have HB := n4_; clear n0_ n1_ n2_ n3_ n4_; (try clear hb); (try clear hk); (try clear hi)) | ((with_reducible refine gate_dst (N := 11) rfl ?_); refine box_event ?hg (N := 11) ?hd (cs := #[.int .i64 0, .int .i64 0]) (t := 27) ?hr ?_; (case hd => rfl); (case hg => rfl); (case hr => first | (go_simp; done) | (go_simp; rfl)); intro gb270 hg w53 hbox hb; have n0_ := aM (xB (g := gb255) (o := .cells #[.int .i64 t252, .int .i64 t253] 27 (0, 0)) (by (with_reducible repeat (first|apply xN|apply xD|apply xA)); exact BK255.out) hb); have n1_ := aM (xB (g := gb259) (o := .cells #[.int .i64 t256, .int .i64 t257] 27 (0, 0)) (by (with_reducible repeat (first|apply xN|apply xD|apply xA)); exact BK259.out) hb); have n2_ := aM (xB (g := gb265) (o := .cells #[.int .i64 t261, .int .i64 t262] 27 (0, 0)) (by (with_reducible repeat (first|apply xN|apply xD|apply xA)); exact BK265.out) hb); have n3_ := aM (xB (g := gb266) (o := .cells #[.int .i64 t263, .int .i64 t264] 27 (0, 0)) (by (with_reducible repeat (first|apply xN|apply xD|apply xA)); exact BK266.out) hb); have n4_ := aM (below_step (by repeat (first | (with_reducible first | exact HB.out | apply yA | apply yN | apply yD | refine yS ?_ GE255.out | refine yS ?_ GE259.out | refine yS ?_ GE265.out | refine yS ?_ GE266.out) | exact HB.out)) hb); have n5_ := aM (hbox); have n6_ := aM ((by rw [hg]; exact (below_size (by repeat (first | (with_reducible first | exact HB.out | apply yA | apply yN | apply yD | refine yS ?_ GE255.out | refine yS ?_ GE259.out | refine yS ?_ GE265.out | refine yS ?_ GE266.out) | exact HB.out))) : w.heap.size ≤ gb270)); have n7_ := aM ((by rw [hg]; exact (below_size (by repeat (first | (with_reducible first | exact HB.out | apply yA | apply yN | apply yD | refine yS ?_ GE255.out | refine yS ?_ GE259.out | refine yS ?_ GE265.out | refine yS ?_ GE266.out) | exact HB.out))) : w.heap.size ≤ gb270)); have n8_ := aM ((by rw [hg]; exact nL (xL (g := gb255) (o := .cells #[.int .i64 t252, .int .i64 t253] 27 (0, 0)) (by (with_reducible repeat (first|apply xN|apply xD|apply xA)); exact BK255.out)) : gb255 ≠ gb270)); have n9_ := aM ((by rw [hg]; exact nG (xL (g := gb255) (o := .cells #[.int .i64 t252, .int .i64 t253] 27 (0, 0)) (by (with_reducible repeat (first|apply xN|apply xD|apply xA)); exact BK255.out)) : gb270 ≠ gb255)); have n10_ := aM ((by rw [hg]; exact nL (xL (g := gb259) (o := .cells #[.int .i64 t256, .int .i64 t257] 27 (0, 0)) (by (with_reducible repeat (first|apply xN|apply xD|apply xA)); exact BK259.out)) : gb259 ≠ gb270)); have n11_ := aM ((by rw [hg]; exact nG (xL (g := gb259) (o := .cells #[.int .i64 t256, .int .i64 t257] 27 (0, 0)) (by (with_reducible repeat (first|apply xN|apply xD|apply xA)); exact BK259.out)) : gb270 ≠ gb259)); have n12_ := aM ((by rw [hg]; exact nL (xL (g := gb265) (o := .cells #[.int .i64 t261, .int .i64 t262] 27 (0, 0)) (by (with_reducible repeat (first|apply xN|apply xD|apply xA)); exact BK265.out)) : gb265 ≠ gb270)); have n13_ := aM ((by rw [hg]; exact nG (xL (g := gb265) (o := .cells #[.int .i64 t261, .int .i64 t262] 27 (0, 0)) (by (with_reducible repeat (first|apply xN|apply xD|apply xA)); exact BK265.out)) : gb270 ≠ gb265)); have n14_ := aM ((by rw [hg]; exact nL (xL (g := gb266) (o := .cells #[.int .i64 t263, .int .i64 t264] 27 (0, 0)) (by (with_reducible repeat (first|apply xN|apply xD|apply xA)); exact BK266.out)) : gb266 ≠ gb270)); have n15_ := aM ((by rw [hg]; exact nG (xL (g := gb266) (o := .cells #[.int .i64 t263, .int .i64 t264] 27 (0, 0)) (by (with_reducible repeat (first|apply xN|apply xD|apply xA)); exact BK266.out)) : gb270 ≠ gb266)); clear BK255; clear BK259; clear BK265; clear BK266; clear HB; have BK255 := n0_; have BK259 := n1_; have BK265 := n2_; have BK266 := n3_; have HB := n4_; have BK270 := n5_; have GW270 := n6_; have GE270 := n7_; have NB255_270 := n8_; have NB270_255 := n9_; have NB259_270 := n10_; have NB270_259 := n11_; have NB265_270 := n12_; have NB270_265 := n13_; have NB266_270 := n14_; have NB270_266 := n15_; clear n0_ n1_ n2_ n3_ n4_ n5_ n6_ n7_ n8_ n9_ n10_ n11_ n12_ n13_ n14_ n15_; clear hb hbox hg; have hnb54 := NB270_255.out; have hnc54 := NB255_270.out; have hnb55 := NB270_259.out; have hnc55 := NB259_270.out; have hnb56 := NB270_265.out; have hnc56 := NB265_270.out; have hnb57 := NB270_266.out; have hnc57 := NB266_270.out; have hcz58_0 : w53.cell? ⟨gb270, 0, none⟩ = some (.int .i64 0) := (xC BK270.out 0).trans rfl; have hcz58_1 : w53.cell? ⟨gb270, 1, none⟩ = some (.int .i64 0) := (xC BK270.out 1).trans rfl; have hfz58_0 := xZ BK270.out 0; have hfz58_1 := xZ BK270.out 1; have hcz59_0 : w53.cell? ⟨gb266, 0, none⟩ = some (.int .i64 t263) := (xC BK266.out 0).trans rfl; have hcz59_1 : w53.cell? ⟨gb266, 1, none⟩ = some (.int .i64 t264) := (xC BK266.out 1).trans rfl; have hfz59_0 := xZ BK266.out 0; have hfz59_1 := xZ BK266.out 1; have hcz60_0 : w53.cell? ⟨gb265, 0, none⟩ = some (.int .i64 t261) := (xC BK265.out 0).trans rfl; have hcz60_1 : w53.cell? ⟨gb265, 1, none⟩ = some (.int .i64 t262) := (xC BK265.out 1).trans rfl; have hfz60_0 := xZ BK265.out 0; have hfz60_1 := xZ BK265.out 1) | ((with_reducible refine gate_callee (f := 10) rfl ?_); refine goesL_ (some 75) rfl rfl Tryd.func10 (by kernel_rfl) rfl #[.agg #[.int .i64 t263, .int .i64 t264], .agg #[.int .i64 t261, .int .i64 t262]] rfl (by (try simp only [List.map_toArray, List.map_cons, List.map_nil]); first | done | rfl | (simp only [List.length_drop, List.length_take]; rfl)) ?_; (with_reducible refine (impl_AddRatio.calls kj15 t263 t264 t261 t262 t271 t272 t273 _ A38.out).mono ?_); rintro e w61 ⟨rfl, hb⟩; refine ⟨_, rfl, ?_⟩; have n0_ := aM (xB (g := gb255) (o := .cells #[.int .i64 t252, .int .i64 t253] 27 (0, 0)) (by (with_reducible repeat (first|apply xN|apply xD|apply xA)); refine xF ?_ NB255_270.out _; (with_reducible repeat (first|apply xN|apply xD|apply xA)); refine xF ?_ NB255_270.out _; (with_reducible repeat (first|apply xN|apply xD|apply xA)); exact BK255.out) hb); have n1_ := aM (xB (g := gb259) (o := .cells #[.int .i64 t256, .int .i64 t257] 27 (0, 0)) (by (with_reducible repeat (first|apply xN|apply xD|apply xA)); refine xF ?_ NB259_270.out _; (with_reducible repeat (first|apply xN|apply xD|apply xA)); refine xF ?_ NB259_270.out _; (with_reducible repeat (first|apply xN|apply xD|apply xA)); exact BK259.out) hb); have n2_ := aM (xB (g := gb265) (o := .cells #[.int .i64 t261, .int .i64 t262] 27 (0, 0)) (by (with_reducible repeat (first|apply xN|apply xD|apply xA)); refine xF ?_ NB265_270.out _; (with_reducible repeat (first|apply xN|apply xD|apply xA)); refine xF ?_ NB265_270.out _; (with_reducible repeat (first|apply xN|apply xD|apply xA)); exact BK265.out) hb); have n3_ := aM (xB (g := gb266) (o := .cells #[.int .i64 t263, .int .i64 t264] 27 (0, 0)) (by (with_reducible repeat (first|apply xN|apply xD|apply xA)); refine xF ?_ NB266_270.out _; (with_reducible repeat (first|apply xN|apply xD|apply xA)); refine xF ?_ NB266_270.out _; (with_reducible repeat (first|apply xN|apply xD|apply xA)); exact BK266.out) hb); have n4_ := aM (xB (g := gb270) (o := .cells #[.int .i64 t267, .int .i64 t268] 27 (0, 0)) (by (with_reducible repeat (first|apply xN|apply xD|apply xA)); refine xP (cs := #[.int .i64 t267, .int .i64 0]) ?_ 1 _ rfl; (with_reducible repeat (first|apply xN|apply xD|apply xA)); refine xP (cs := #[.int .i64 0, .int .i64 0]) ?_ 0 _ rfl; (with_reducible repeat (first|apply xN|apply xD|apply xA)); exact BK270.out) hb); have n5_ := aM (below_step (by repeat (first | (with_reducible first | exact HB.out | apply yA | apply yN | apply yD | refine yS ?_ GE255.out | refine yS ?_ GE259.out | refine yS ?_ GE265.out | refine yS ?_ GE266.out | refine yS ?_ GE270.out) | exact HB.out)) hb); clear BK255; clear BK259; clear BK265; clear BK266; clear BK270; clear HB; have BK255 := n0_; have BK259 := n1_; have BK265 := n2_; have BK266 := n3_; have BK270 := n4_; have HB := n5_; clear n0_ n1_ n2_ n3_ n4_ n5_; (try clear hb); (try clear hk); (try clear hi)) | ((with_reducible refine gate_dst (N := 13) rfl ?_); refine box_event ?hg (N := 13) ?hd (cs := #[.int .i64 0, .int .i64 0]) (t := 27) ?hr ?_; (case hd => rfl); (case hg => rfl); (case hr => first | (go_simp; done) | (go_simp; rfl)); intro gb274 hg w62 hbox hb; have n0_ := aM (xB (g := gb255) (o := .cells #[.int .i64 t252, .int .i64 t253] 27 (0, 0)) (by (with_reducible repeat (first|apply xN|apply xD|apply xA)); exact BK255.out) hb); have n1_ := aM (xB (g := gb259) (o := .cells #[.int .i64 t256, .int .i64 t257] 27 (0, 0)) (by (with_reducible repeat (first|apply xN|apply xD|apply xA)); exact BK259.out) hb); have n2_ := aM (xB (g := gb265) (o := .cells #[.int .i64 t261, .int .i64 t262] 27 (0, 0)) (by (with_reducible repeat (first|apply xN|apply xD|apply xA)); exact BK265.out) hb); have n3_ := aM (xB (g := gb266) (o := .cells #[.int .i64 t263, .int .i64 t264] 27 (0, 0)) (by (with_reducible repeat (first|apply xN|apply xD|apply xA)); exact BK266.out) hb); have n4_ := aM (xB (g := gb270) (o := .cells #[.int .i64 t267, .int .i64 t268] 27 (0, 0)) (by (with_reducible repeat (first|apply xN|apply xD|apply xA)); exact BK270.out) hb); have n5_ := aM (below_step (by repeat (first | (with_reducible first | exact HB.out | apply yA | apply yN | apply yD | refine yS ?_ GE255.out | refine yS ?_ GE259.out | refine yS ?_ GE265.out | refine yS ?_ GE266.out | refine yS ?_ GE270.out) | exact HB.out)) hb); have n6_ := aM (hbox); have n7_ := aM ((by rw [hg]; exact (below_size (by repeat (first | (with_reducible first | exact HB.out | apply yA | apply yN | apply yD | refine yS ?_ GE255.out | refine yS ?_ GE259.out | refine yS ?_ GE265.out | refine yS ?_ GE266.out | refine yS ?_ GE270.out) | exact HB.out))) : w.heap.size ≤ gb274)); have n8_ := aM ((by rw [hg]; exact (below_size (by repeat (first | (with_reducible first | exact HB.out | apply yA | apply yN | apply yD | refine yS ?_ GE255.out | refine yS ?_ GE259.out | refine yS ?_ GE265.out | refine yS ?_ GE266.out | refine yS ?_ GE270.out) | exact HB.out))) : w.heap.size ≤ gb274)); have n9_ := aM ((by rw [hg]; exact nL (xL (g := gb255) (o := .cells #[.int .i64 t252, .int .i64 t253] 27 (0, 0)) (by (with_reducible repeat (first|apply xN|apply xD|apply xA)); exact BK255.out)) : gb255 ≠ gb274)); have n10_ := aM ((by rw [hg]; exact nG (xL (g := gb255) (o := .cells #[.int .i64 t252, .int .i64 t253] 27 (0, 0)) (by (with_reducible repeat (first|apply xN|apply xD|apply xA)); exact BK255.out)) : gb274 ≠ gb255)); have n11_ := aM ((by rw [hg]; exact nL (xL (g := gb259) (o := .cells #[.int .i64 t256, .int .i64 t257] 27 (0, 0)) (by (with_reducible repeat (first|apply xN|apply xD|apply xA)); exact BK259.out)) : gb259 ≠ gb274)); have n12_ := aM ((by rw [hg]; exact nG (xL (g := gb259) (o := .cells #[.int .i64 t256, .int .i64 t257] 27 (0, 0)) (by (with_reducible repeat (first|apply xN|apply xD|apply xA)); exact BK259.out)) : gb274 ≠ gb259)); have n13_ := aM ((by rw [hg]; exact nL (xL (g := gb265) (o := .cells #[.int .i64 t261, .int .i64 t262] 27 (0, 0)) (by (with_reducible repeat (first|apply xN|apply xD|apply xA)); exact BK265.out)) : gb265 ≠ gb274)); have n14_ := aM ((by rw [hg]; exact nG (xL (g := gb265) (o := .cells #[.int .i64 t261, .int .i64 t262] 27 (0, 0)) (by (with_reducible repeat (first|apply xN|apply xD|apply xA)); exact BK265.out)) : gb274 ≠ gb265)); have n15_ := aM ((by rw [hg]; exact nL (xL (g := gb266) (o := .cells #[.int .i64 t263, .int .i64 t264] 27 (0, 0)) (by (with_reducible repeat (first|apply xN|apply xD|apply xA)); exact BK266.out)) : gb266 ≠ gb274)); have n16_ := aM ((by rw [hg]; exact nG (xL (g := gb266) (o := .cells #[.int .i64 t263, .int .i64 t264] 27 (0, 0)) (by (with_reducible repeat (first|apply xN|apply xD|apply xA)); exact BK266.out)) : gb274 ≠ gb266)); have n17_ := aM ((by rw [hg]; exact nL (xL (g := gb270) (o := .cells #[.int .i64 t267, .int .i64 t268] 27 (0, 0)) (by (with_reducible repeat (first|apply xN|apply xD|apply xA)); exact BK270.out)) : gb270 ≠ gb274)); have n18_ := aM ((by rw [hg]; exact nG (xL (g := gb270) (o := .cells #[.int .i64 t267, .int .i64 t268] 27 (0, 0)) (by (with_reducible repeat (first|apply xN|apply xD|apply xA)); exact BK270.out)) : gb274 ≠ gb270)); clear BK255; clear BK259; clear BK265; clear BK266; clear BK270; clear HB; have BK255 := n0_; have BK259 := n1_; have BK265 := n2_; have BK266 := n3_; have BK270 := n4_; have HB := n5_; have BK274 := n6_; have GW274 := n7_; have GE274 := n8_; have NB255_274 := n9_; have NB274_255 := n10_; have NB259_274 := n11_; have NB274_259 := n12_; have NB265_274 := n13_; have NB274_265 := n14_; have NB266_274 := n15_; have NB274_266 := n16_; have NB270_274 := n17_; have NB274_270 := n18_; clear n0_ n1_ n2_ n3_ n4_ n5_ n6_ n7_ n8_ n9_ n10_ n11_ n12_ n13_ n14_ n15_ n16_ n17_ n18_; clear hb hbox hg; have hnb63 := NB274_255.out; have hnc63 := NB255_274.out; have hnb64 := NB274_259.out; have hnc64 := NB259_274.out; have hnb65 := NB274_265.out; have hnc65 := NB265_274.out; have hnb66 := NB274_266.out; have hnc66 := NB266_274.out; have hnb67 := NB274_270.out; have hnc67 := NB270_274.out; have hcz68_0 : w62.cell? ⟨gb274, 0, none⟩ = some (.int .i64 0) := (xC BK274.out 0).trans rfl; have hcz68_1 : w62.cell? ⟨gb274, 1, none⟩ = some (.int .i64 0) := (xC BK274.out 1).trans rfl; have hfz68_0 := xZ BK274.out 0; have hfz68_1 := xZ BK274.out 1; have hcz69_0 : w62.cell? ⟨gb265, 0, none⟩ = some (.int .i64 t261) := (xC BK265.out 0).trans rfl; have hcz69_1 : w62.cell? ⟨gb265, 1, none⟩ = some (.int .i64 t262) := (xC BK265.out 1).trans rfl; have hfz69_0 := xZ BK265.out 0; have hfz69_1 := xZ BK265.out 1; have hcz70_0 : w62.cell? ⟨gb266, 0, none⟩ = some (.int .i64 t263) := (xC BK266.out 0).trans rfl; have hcz70_1 : w62.cell? ⟨gb266, 1, none⟩ = some (.int .i64 t264) := (xC BK266.out 1).trans rfl; have hfz70_0 := xZ BK266.out 0; have hfz70_1 := xZ BK266.out 1) | ((with_reducible refine gate_callee (f := 11) rfl ?_); refine goesL_ (some 81) rfl rfl Tryd.func11 (by kernel_rfl) rfl #[.agg #[.int .i64 t261, .int .i64 t262], .agg #[.int .i64 t263, .int .i64 t264]] rfl (by (try simp only [List.map_toArray, List.map_cons, List.map_nil]); first | done | rfl | (simp only [List.length_drop, List.length_take]; rfl)) ?_; (with_reducible refine (impl_MulRatio.calls kj15 t261 t262 t263 t264 t275 t276 t277 _ A39.out).mono ?_); rintro e w71 ⟨rfl, hb⟩; refine ⟨_, rfl, ?_⟩; have n0_ := aM (xB (g := gb255) (o := .cells #[.int .i64 t252, .int .i64 t253] 27 (0, 0)) (by (with_reducible repeat (first|apply xN|apply xD|apply xA)); refine xF ?_ NB255_274.out _; (with_reducible repeat (first|apply xN|apply xD|apply xA)); refine xF ?_ NB255_274.out _; (with_reducible repeat (first|apply xN|apply xD|apply xA)); exact BK255.out) hb); have n1_ := aM (xB (g := gb259) (o := .cells #[.int .i64 t256, .int .i64 t257] 27 (0, 0)) (by (with_reducible repeat (first|apply xN|apply xD|apply xA)); refine xF ?_ NB259_274.out _; (with_reducible repeat (first|apply xN|apply xD|apply xA)); refine xF ?_ NB259_274.out _; (with_reducible repeat (first|apply xN|apply xD|apply xA)); exact BK259.out) hb); have n2_ := aM (xB (g := gb265) (o := .cells #[.int .i64 t261, .int .i64 t262] 27 (0, 0)) (by (with_reducible repeat (first|apply xN|apply xD|apply xA)); refine xF ?_ NB265_274.out _; (with_reducible repeat (first|apply xN|apply xD|apply xA)); refine xF ?_ NB265_274.out _; (with_reducible repeat (first|apply xN|apply xD|apply xA)); exact BK265.out) hb); have n3_ := aM (xB (g := gb266) (o := .cells #[.int .i64 t263, .int .i64 t264] 27 (0, 0)) (by (with_reducible repeat (first|apply xN|apply xD|apply xA)); refine xF ?_ NB266_274.out _; (with_reducible repeat (first|apply xN|apply xD|apply xA)); refine xF ?_ NB266_274.out _; (with_reducible repeat (first|apply xN|apply xD|apply xA)); exact BK266.out) hb); have n4_ := aM (xB (g := gb270) (o := .cells #[.int .i64 t267, .int .i64 t268] 27 (0, 0)) (by (with_reducible repeat (first|apply xN|apply xD|apply xA)); refine xF ?_ NB270_274.out _; (with_reducible repeat (first|apply xN|apply xD|apply xA)); refine xF ?_ NB270_274.out _; (with_reducible repeat (first|apply xN|apply xD|apply xA)); exact BK270.out) hb); have n5_ := aM (xB (g := gb274) (o := .cells #[.int .i64 t271, .int .i64 t272] 27 (0, 0)) (by (with_reducible repeat (first|apply xN|apply xD|apply xA)); refine xP (cs := #[.int .i64 t271, .int .i64 0]) ?_ 1 _ rfl; (with_reducible repeat (first|apply xN|apply xD|apply xA)); refine xP (cs := #[.int .i64 0, .int .i64 0]) ?_ 0 _ rfl; (with_reducible repeat (first|apply xN|apply xD|apply xA)); exact BK274.out) hb); have n6_ := aM (below_step (by repeat (first | (with_reducible first | exact HB.out | apply yA | apply yN | apply yD | refine yS ?_ GE255.out | refine yS ?_ GE259.out | refine yS ?_ GE265.out | refine yS ?_ GE266.out | refine yS ?_ GE270.out | refine yS ?_ GE274.out) | exact HB.out)) hb); clear BK255; clear BK259; clear BK265; clear BK266; clear BK270; clear BK274; clear HB; have BK255 := n0_; have BK259 := n1_; have BK265 := n2_; have BK266 := n3_; have BK270 := n4_; have BK274 := n5_; have HB := n6_; clear n0_ n1_ n2_ n3_ n4_ n5_ n6_; (try clear hb); (try clear hk); (try clear hi)) | ((with_reducible refine gate_dst (N := 15) rfl ?_); refine box_event ?hg (N := 15) ?hd (cs := #[.int .i64 0, .int .i64 0]) (t := 27) ?hr ?_; (case hd => rfl); (case hg => rfl); (case hr => first | (go_simp; done) | (go_simp; rfl)); intro gb278 hg w72 hbox hb; have n0_ := aM (xB (g := gb255) (o := .cells #[.int .i64 t252, .int .i64 t253] 27 (0, 0)) (by (with_reducible repeat (first|apply xN|apply xD|apply xA)); exact BK255.out) hb); have n1_ := aM (xB (g := gb259) (o := .cells #[.int .i64 t256, .int .i64 t257] 27 (0, 0)) (by (with_reducible repeat (first|apply xN|apply xD|apply xA)); exact BK259.out) hb); have n2_ := aM (xB (g := gb265) (o := .cells #[.int .i64 t261, .int .i64 t262] 27 (0, 0)) (by (with_reducible repeat (first|apply xN|apply xD|apply xA)); exact BK265.out) hb); have n3_ := aM (xB (g := gb266) (o := .cells #[.int .i64 t263, .int .i64 t264] 27 (0, 0)) (by (with_reducible repeat (first|apply xN|apply xD|apply xA)); exact BK266.out) hb); have n4_ := aM (xB (g := gb270) (o := .cells #[.int .i64 t267, .int .i64 t268] 27 (0, 0)) (by (with_reducible repeat (first|apply xN|apply xD|apply xA)); exact BK270.out) hb); have n5_ := aM (xB (g := gb274) (o := .cells #[.int .i64 t271, .int .i64 t272] 27 (0, 0)) (by (with_reducible repeat (first|apply xN|apply xD|apply xA)); exact BK274.out) hb); have n6_ := aM (below_step (by repeat (first | (with_reducible first | exact HB.out | apply yA | apply yN | apply yD | refine yS ?_ GE255.out | refine yS ?_ GE259.out | refine yS ?_ GE265.out | refine yS ?_ GE266.out | refine yS ?_ GE270.out | refine yS ?_ GE274.out) | exact HB.out)) hb); have n7_ := aM (hbox); have n8_ := aM ((by rw [hg]; exact (below_size (by repeat (first | (with_reducible first | exact HB.out | apply yA | apply yN | apply yD | refine yS ?_ GE255.out | refine yS ?_ GE259.out | refine yS ?_ GE265.out | refine yS ?_ GE266.out | refine yS ?_ GE270.out | refine yS ?_ GE274.out) | exact HB.out))) : w.heap.size ≤ gb278)); have n9_ := aM ((by rw [hg]; exact (below_size (by repeat (first | (with_reducible first | exact HB.out | apply yA | apply yN | apply yD | refine yS ?_ GE255.out | refine yS ?_ GE259.out | refine yS ?_ GE265.out | refine yS ?_ GE266.out | refine yS ?_ GE270.out | refine yS ?_ GE274.out) | exact HB.out))) : w.heap.size ≤ gb278)); have n10_ := aM ((by rw [hg]; exact nL (xL (g := gb255) (o := .cells #[.int .i64 t252, .int .i64 t253] 27 (0, 0)) (by (with_reducible repeat (first|apply xN|apply xD|apply xA)); exact BK255.out)) : gb255 ≠ gb278)); have n11_ := aM ((by rw [hg]; exact nG (xL (g := gb255) (o := .cells #[.int .i64 t252, .int .i64 t253] 27 (0, 0)) (by (with_reducible repeat (first|apply xN|apply xD|apply xA)); exact BK255.out)) : gb278 ≠ gb255)); have n12_ := aM ((by rw [hg]; exact nL (xL (g := gb259) (o := .cells #[.int .i64 t256, .int .i64 t257] 27 (0, 0)) (by (with_reducible repeat (first|apply xN|apply xD|apply xA)); exact BK259.out)) : gb259 ≠ gb278)); have n13_ := aM ((by rw [hg]; exact nG (xL (g := gb259) (o := .cells #[.int .i64 t256, .int .i64 t257] 27 (0, 0)) (by (with_reducible repeat (first|apply xN|apply xD|apply xA)); exact BK259.out)) : gb278 ≠ gb259)); have n14_ := aM ((by rw [hg]; exact nL (xL (g := gb265) (o := .cells #[.int .i64 t261, .int .i64 t262] 27 (0, 0)) (by (with_reducible repeat (first|apply xN|apply xD|apply xA)); exact BK265.out)) : gb265 ≠ gb278)); have n15_ := aM ((by rw [hg]; exact nG (xL (g := gb265) (o := .cells #[.int .i64 t261, .int .i64 t262] 27 (0, 0)) (by (with_reducible repeat (first|apply xN|apply xD|apply xA)); exact BK265.out)) : gb278 ≠ gb265)); have n16_ := aM ((by rw [hg]; exact nL (xL (g := gb266) (o := .cells #[.int .i64 t263, .int .i64 t264] 27 (0, 0)) (by (with_reducible repeat (first|apply xN|apply xD|apply xA)); exact BK266.out)) : gb266 ≠ gb278)); have n17_ := aM ((by rw [hg]; exact nG (xL (g := gb266) (o := .cells #[.int .i64 t263, .int .i64 t264] 27 (0, 0)) (by (with_reducible repeat (first|apply xN|apply xD|apply xA)); exact BK266.out)) : gb278 ≠ gb266)); have n18_ := aM ((by rw [hg]; exact nL (xL (g := gb270) (o := .cells #[.int .i64 t267, .int .i64 t268] 27 (0, 0)) (by (with_reducible repeat (first|apply xN|apply xD|apply xA)); exact BK270.out)) : gb270 ≠ gb278)); have n19_ := aM ((by rw [hg]; exact nG (xL (g := gb270) (o := .cells #[.int .i64 t267, .int .i64 t268] 27 (0, 0)) (by (with_reducible repeat (first|apply xN|apply xD|apply xA)); exact BK270.out)) : gb278 ≠ gb270)); have n20_ := aM ((by rw [hg]; exact nL (xL (g := gb274) (o := .cells #[.int .i64 t271, .int .i64 t272] 27 (0, 0)) (by (with_reducible repeat (first|apply xN|apply xD|apply xA)); exact BK274.out)) : gb274 ≠ gb278)); have n21_ := aM ((by rw [hg]; exact nG (xL (g := gb274) (o := .cells #[.int .i64 t271, .int .i64 t272] 27 (0, 0)) (by (with_reducible repeat (first|apply xN|apply xD|apply xA)); exact BK274.out)) : gb278 ≠ gb274)); clear BK255; clear BK259; clear BK265; clear BK266; clear BK270; clear BK274; clear HB; have BK255 := n0_; have BK259 := n1_; have BK265 := n2_; have BK266 := n3_; have BK270 := n4_; have BK274 := n5_; have HB := n6_; have BK278 := n7_; have GW278 := n8_; have GE278 := n9_; have NB255_278 := n10_; have NB278_255 := n11_; have NB259_278 := n12_; have NB278_259 := n13_; have NB265_278 := n14_; have NB278_265 := n15_; have NB266_278 := n16_; have NB278_266 := n17_; have NB270_278 := n18_; have NB278_270 := n19_; have NB274_278 := n20_; have NB278_274 := n21_; clear n0_ n1_ n2_ n3_ n4_ n5_ n6_ n7_ n8_ n9_ n10_ n11_ n12_ n13_ n14_ n15_ n16_ n17_ n18_ n19_ n20_ n21_; clear hb hbox hg; have hnb73 := NB278_255.out; have hnc73 := NB255_278.out; have hnb74 := NB278_259.out; have hnc74 := NB259_278.out; have hnb75 := NB278_265.out; have hnc75 := NB265_278.out; have hnb76 := NB278_266.out; have hnc76 := NB266_278.out; have hnb77 := NB278_270.out; have hnc77 := NB270_278.out; have hnb78 := NB278_274.out; have hnc78 := NB274_278.out; have hcz79_0 : w72.cell? ⟨gb278, 0, none⟩ = some (.int .i64 0) := (xC BK278.out 0).trans rfl; have hcz79_1 : w72.cell? ⟨gb278, 1, none⟩ = some (.int .i64 0) := (xC BK278.out 1).trans rfl; have hfz79_0 := xZ BK278.out 0; have hfz79_1 := xZ BK278.out 1; have hcz80_0 : w72.cell? ⟨gb266, 0, none⟩ = some (.int .i64 t263) := (xC BK266.out 0).trans rfl; have hcz80_1 : w72.cell? ⟨gb266, 1, none⟩ = some (.int .i64 t264) := (xC BK266.out 1).trans rfl; have hfz80_0 := xZ BK266.out 0; have hfz80_1 := xZ BK266.out 1; have hcz81_0 : w72.cell? ⟨gb265, 0, none⟩ = some (.int .i64 t261) := (xC BK265.out 0).trans rfl; have hcz81_1 : w72.cell? ⟨gb265, 1, none⟩ = some (.int .i64 t262) := (xC BK265.out 1).trans rfl; have hfz81_0 := xZ BK265.out 0; have hfz81_1 := xZ BK265.out 1) | ((with_reducible refine gate_callee (f := 11) rfl ?_); refine goesL_ (some 87) rfl rfl Tryd.func11 (by kernel_rfl) rfl #[.agg #[.int .i64 t263, .int .i64 t264], .agg #[.int .i64 t261, .int .i64 t262]] rfl (by (try simp only [List.map_toArray, List.map_cons, List.map_nil]); first | done | rfl | (simp only [List.length_drop, List.length_take]; rfl)) ?_; (with_reducible refine (impl_MulRatio.calls kj15 t263 t264 t261 t262 t279 t280 t281 _ A40.out).mono ?_); rintro e w82 ⟨rfl, hb⟩; refine ⟨_, rfl, ?_⟩; have n0_ := aM (xB (g := gb255) (o := .cells #[.int .i64 t252, .int .i64 t253] 27 (0, 0)) (by (with_reducible repeat (first|apply xN|apply xD|apply xA)); refine xF ?_ NB255_278.out _; (with_reducible repeat (first|apply xN|apply xD|apply xA)); refine xF ?_ NB255_278.out _; (with_reducible repeat (first|apply xN|apply xD|apply xA)); exact BK255.out) hb); have n1_ := aM (xB (g := gb259) (o := .cells #[.int .i64 t256, .int .i64 t257] 27 (0, 0)) (by (with_reducible repeat (first|apply xN|apply xD|apply xA)); refine xF ?_ NB259_278.out _; (with_reducible repeat (first|apply xN|apply xD|apply xA)); refine xF ?_ NB259_278.out _; (with_reducible repeat (first|apply xN|apply xD|apply xA)); exact BK259.out) hb); have n2_ := aM (xB (g := gb265) (o := .cells #[.int .i64 t261, .int .i64 t262] 27 (0, 0)) (by (with_reducible repeat (first|apply xN|apply xD|apply xA)); refine xF ?_ NB265_278.out _; (with_reducible repeat (first|apply xN|apply xD|apply xA)); refine xF ?_ NB265_278.out _; (with_reducible repeat (first|apply xN|apply xD|apply xA)); exact BK265.out) hb); have n3_ := aM (xB (g := gb266) (o := .cells #[.int .i64 t263, .int .i64 t264] 27 (0, 0)) (by (with_reducible repeat (first|apply xN|apply xD|apply xA)); refine xF ?_ NB266_278.out _; (with_reducible repeat (first|apply xN|apply xD|apply xA)); refine xF ?_ NB266_278.out _; (with_reducible repeat (first|apply xN|apply xD|apply xA)); exact BK266.out) hb); have n4_ := aM (xB (g := gb270) (o := .cells #[.int .i64 t267, .int .i64 t268] 27 (0, 0)) (by (with_reducible repeat (first|apply xN|apply xD|apply xA)); refine xF ?_ NB270_278.out _; (with_reducible repeat (first|apply xN|apply xD|apply xA)); refine xF ?_ NB270_278.out _; (with_reducible repeat (first|apply xN|apply xD|apply xA)); exact BK270.out) hb); have n5_ := aM (xB (g := gb274) (o := .cells #[.int .i64 t271, .int .i64 t272] 27 (0, 0)) (by (with_reducible repeat (first|apply xN|apply xD|apply xA)); refine xF ?_ NB274_278.out _; (with_reducible repeat (first|apply xN|apply xD|apply xA)); refine xF ?_ NB274_278.out _; (with_reducible repeat (first|apply xN|apply xD|apply xA)); exact BK274.out) hb); have n6_ := aM (xB (g := gb278) (o := .cells #[.int .i64 t275, .int .i64 t276] 27 (0, 0)) (by (with_reducible repeat (first|apply xN|apply xD|apply xA)); refine xP (cs := #[.int .i64 t275, .int .i64 0]) ?_ 1 _ rfl; (with_reducible repeat (first|apply xN|apply xD|apply xA)); refine xP (cs := #[.int .i64 0, .int .i64 0]) ?_ 0 _ rfl; (with_reducible repeat (first|apply xN|apply xD|apply xA)); exact BK278.out) hb); have n7_ := aM (below_step (by repeat (first | (with_reducible first | exact HB.out | apply yA | apply yN | apply yD | refine yS ?_ GE255.out | refine yS ?_ GE259.out | refine yS ?_ GE265.out | refine yS ?_ GE266.out | refine yS ?_ GE270.out | refine yS ?_ GE274.out | refine yS ?_ GE278.out) | exact HB.out)) hb); clear BK255; clear BK259; clear BK265; clear BK266; clear BK270; clear BK274; clear BK278; clear HB; have BK255 := n0_; have BK259 := n1_; have BK265 := n2_; have BK266 := n3_; have BK270 := n4_; have BK274 := n5_; have BK278 := n6_; have HB := n7_; clear n0_ n1_ n2_ n3_ n4_ n5_ n6_ n7_; (try clear hb); (try clear hk); (try clear hi)) | ((with_reducible refine gate_dst (N := 17) rfl ?_); refine box_event ?hg (N := 17) ?hd (cs := #[.int .i64 0, .int .i64 0]) (t := 27) ?hr ?_; (case hd => rfl); (case hg => rfl); (case hr => first | (go_simp; done) | (go_simp; rfl)); intro gb282 hg w83 hbox hb; have n0_ := aM (xB (g := gb255) (o := .cells #[.int .i64 t252, .int .i64 t253] 27 (0, 0)) (by (with_reducible repeat (first|apply xN|apply xD|apply xA)); exact BK255.out) hb); have n1_ := aM (xB (g := gb259) (o := .cells #[.int .i64 t256, .int .i64 t257] 27 (0, 0)) (by (with_reducible repeat (first|apply xN|apply xD|apply xA)); exact BK259.out) hb); have n2_ := aM (xB (g := gb265) (o := .cells #[.int .i64 t261, .int .i64 t262] 27 (0, 0)) (by (with_reducible repeat (first|apply xN|apply xD|apply xA)); exact BK265.out) hb); have n3_ := aM (xB (g := gb266) (o := .cells #[.int .i64 t263, .int .i64 t264] 27 (0, 0)) (by (with_reducible repeat (first|apply xN|apply xD|apply xA)); exact BK266.out) hb); have n4_ := aM (xB (g := gb270) (o := .cells #[.int .i64 t267, .int .i64 t268] 27 (0, 0)) (by (with_reducible repeat (first|apply xN|apply xD|apply xA)); exact BK270.out) hb); have n5_ := aM (xB (g := gb274) (o := .cells #[.int .i64 t271, .int .i64 t272] 27 (0, 0)) (by (with_reducible repeat (first|apply xN|apply xD|apply xA)); exact BK274.out) hb); have n6_ := aM (xB (g := gb278) (o := .cells #[.int .i64 t275, .int .i64 t276] 27 (0, 0)) (by (with_reducible repeat (first|apply xN|apply xD|apply xA)); exact BK278.out) hb); have n7_ := aM (below_step (by repeat (first | (with_reducible first | exact HB.out | apply yA | apply yN | apply yD | refine yS ?_ GE255.out | refine yS ?_ GE259.out | refine yS ?_ GE265.out | refine yS ?_ GE266.out | refine yS ?_ GE270.out | refine yS ?_ GE274.out | refine yS ?_ GE278.out) | exact HB.out)) hb); have n8_ := aM (hbox); have n9_ := aM ((by rw [hg]; exact (below_size (by repeat (first | (with_reducible first | exact HB.out | apply yA | apply yN | apply yD | refine yS ?_ GE255.out | refine yS ?_ GE259.out | refine yS ?_ GE265.out | refine yS ?_ GE266.out | refine yS ?_ GE270.out | refine yS ?_ GE274.out | refine yS ?_ GE278.out) | exact HB.out))) : w.heap.size ≤ gb282)); have n10_ := aM ((by rw [hg]; exact (below_size (by repeat (first | (with_reducible first | exact HB.out | apply yA | apply yN | apply yD | refine yS ?_ GE255.out | refine yS ?_ GE259.out | refine yS ?_ GE265.out | refine yS ?_ GE266.out | refine yS ?_ GE270.out | refine yS ?_ GE274.out | refine yS ?_ GE278.out) | exact HB.out))) : w.heap.size ≤ gb282)); have n11_ := aM ((by rw [hg]; exact nL (xL (g := gb255) (o := .cells #[.int .i64 t252, .int .i64 t253] 27 (0, 0)) (by (with_reducible repeat (first|apply xN|apply xD|apply xA)); exact BK255.out)) : gb255 ≠ gb282)); have n12_ := aM ((by rw [hg]; exact nG (xL (g := gb255) (o := .cells #[.int .i64 t252, .int .i64 t253] 27 (0, 0)) (by (with_reducible repeat (first|apply xN|apply xD|apply xA)); exact BK255.out)) : gb282 ≠ gb255)); have n13_ := aM ((by rw [hg]; exact nL (xL (g := gb259) (o := .cells #[.int .i64 t256, .int .i64 t257] 27 (0, 0)) (by (with_reducible repeat (first|apply xN|apply xD|apply xA)); exact BK259.out)) : gb259 ≠ gb282)); have n14_ := aM ((by rw [hg]; exact nG (xL (g := gb259) (o := .cells #[.int .i64 t256, .int .i64 t257] 27 (0, 0)) (by (with_reducible repeat (first|apply xN|apply xD|apply xA)); exact BK259.out)) : gb282 ≠ gb259)); have n15_ := aM ((by rw [hg]; exact nL (xL (g := gb265) (o := .cells #[.int .i64 t261, .int .i64 t262] 27 (0, 0)) (by (with_reducible repeat (first|apply xN|apply xD|apply xA)); exact BK265.out)) : gb265 ≠ gb282)); have n16_ := aM ((by rw [hg]; exact nG (xL (g := gb265) (o := .cells #[.int .i64 t261, .int .i64 t262] 27 (0, 0)) (by (with_reducible repeat (first|apply xN|apply xD|apply xA)); exact BK265.out)) : gb282 ≠ gb265)); have n17_ := aM ((by rw [hg]; exact nL (xL (g := gb266) (o := .cells #[.int .i64 t263, .int .i64 t264] 27 (0, 0)) (by (with_reducible repeat (first|apply xN|apply xD|apply xA)); exact BK266.out)) : gb266 ≠ gb282)); have n18_ := aM ((by rw [hg]; exact nG (xL (g := gb266) (o := .cells #[.int .i64 t263, .int .i64 t264] 27 (0, 0)) (by (with_reducible repeat (first|apply xN|apply xD|apply xA)); exact BK266.out)) : gb282 ≠ gb266)); have n19_ := aM ((by rw [hg]; exact nL (xL (g := gb270) (o := .cells #[.int .i64 t267, .int .i64 t268] 27 (0, 0)) (by (with_reducible repeat (first|apply xN|apply xD|apply xA)); exact BK270.out)) : gb270 ≠ gb282)); have n20_ := aM ((by rw [hg]; exact nG (xL (g := gb270) (o := .cells #[.int .i64 t267, .int .i64 t268] 27 (0, 0)) (by (with_reducible repeat (first|apply xN|apply xD|apply xA)); exact BK270.out)) : gb282 ≠ gb270)); have n21_ := aM ((by rw [hg]; exact nL (xL (g := gb274) (o := .cells #[.int .i64 t271, .int .i64 t272] 27 (0, 0)) (by (with_reducible repeat (first|apply xN|apply xD|apply xA)); exact BK274.out)) : gb274 ≠ gb282)); have n22_ := aM ((by rw [hg]; exact nG (xL (g := gb274) (o := .cells #[.int .i64 t271, .int .i64 t272] 27 (0, 0)) (by (with_reducible repeat (first|apply xN|apply xD|apply xA)); exact BK274.out)) : gb282 ≠ gb274)); have n23_ := aM ((by rw [hg]; exact nL (xL (g := gb278) (o := .cells #[.int .i64 t275, .int .i64 t276] 27 (0, 0)) (by (with_reducible repeat (first|apply xN|apply xD|apply xA)); exact BK278.out)) : gb278 ≠ gb282)); have n24_ := aM ((by rw [hg]; exact nG (xL (g := gb278) (o := .cells #[.int .i64 t275, .int .i64 t276] 27 (0, 0)) (by (with_reducible repeat (first|apply xN|apply xD|apply xA)); exact BK278.out)) : gb282 ≠ gb278)); clear BK255; clear BK259; clear BK265; clear BK266; clear BK270; clear BK274; clear BK278; clear HB; have BK255 := n0_; have BK259 := n1_; have BK265 := n2_; have BK266 := n3_; have BK270 := n4_; have BK274 := n5_; have BK278 := n6_; have HB := n7_; have BK282 := n8_; have GW282 := n9_; have GE282 := n10_; have NB255_282 := n11_; have NB282_255 := n12_; have NB259_282 := n13_; have NB282_259 := n14_; have NB265_282 := n15_; have NB282_265 := n16_; have NB266_282 := n17_; have NB282_266 := n18_; have NB270_282 := n19_; have NB282_270 := n20_; have NB274_282 := n21_; have NB282_274 := n22_; have NB278_282 := n23_; have NB282_278 := n24_; clear n0_ n1_ n2_ n3_ n4_ n5_ n6_ n7_ n8_ n9_ n10_ n11_ n12_ n13_ n14_ n15_ n16_ n17_ n18_ n19_ n20_ n21_ n22_ n23_ n24_; clear hb hbox hg; have hnb84 := NB282_255.out; have hnc84 := NB255_282.out; have hnb85 := NB282_259.out; have hnc85 := NB259_282.out; have hnb86 := NB282_265.out; have hnc86 := NB265_282.out; have hnb87 := NB282_266.out; have hnc87 := NB266_282.out; have hnb88 := NB282_270.out; have hnc88 := NB270_282.out; have hnb89 := NB282_274.out; have hnc89 := NB274_282.out; have hnb90 := NB282_278.out; have hnc90 := NB278_282.out; have hcz91_0 : w83.cell? ⟨gb282, 0, none⟩ = some (.int .i64 0) := (xC BK282.out 0).trans rfl; have hcz91_1 : w83.cell? ⟨gb282, 1, none⟩ = some (.int .i64 0) := (xC BK282.out 1).trans rfl; have hfz91_0 := xZ BK282.out 0; have hfz91_1 := xZ BK282.out 1))
      (try simp only [Act.put, List.setIfInBounds_toArray, List.set_cons_zero, List.set_cons_succ])
      go_cut [123] (fun v123 wc => ∃ (kq : Nat) (x123_40 : Bool), v123 = .bool x123_40 ∧ Aside0 (laws_FnRatios.j1 kq t269 x123_40 t261 t262 t263 t264 t267 t268 = some r) ∧ Aside0 (kq ≤ kj15) ∧ Aside0 (wc.heap[gb255]? = some (.cells #[.int .i64 t252, .int .i64 t253] 27 (0, 0))) ∧ Aside0 (wc.heap[gb259]? = some (.cells #[.int .i64 t256, .int .i64 t257] 27 (0, 0))) ∧ Aside0 (wc.heap[gb265]? = some (.cells #[.int .i64 t261, .int .i64 t262] 27 (0, 0))) ∧ Aside0 (wc.heap[gb266]? = some (.cells #[.int .i64 t263, .int .i64 t264] 27 (0, 0))) ∧ Aside0 (wc.heap[gb270]? = some (.cells #[.int .i64 t267, .int .i64 t268] 27 (0, 0))) ∧ Aside0 (wc.heap[gb274]? = some (.cells #[.int .i64 t271, .int .i64 t272] 27 (0, 0))) ∧ Aside0 (wc.heap[gb278]? = some (.cells #[.int .i64 t275, .int .i64 t276] 27 (0, 0))) ∧ Aside0 (wc.heap[gb282]? = some (.cells #[.int .i64 t279, .int .i64 t280] 27 (0, 0))) ∧ Aside0 (Below w.heap.size w wc))
      case first => as_aux_lemma =>
       have H := HC41.out
       clear HC41
       by_cases c92 : (t269 != t273) = true
       ·rw [if_pos c92] at H
        have c92b0 : (t269 != t273) = true := c92
        (try (have c92b1 : decide (t269 = t273) = false := by simpa using c92))
        (try (have c92b2 : (t269 == t273) = false := by simpa using c92))
        (try (have c92b3 : ¬ (t269 = t273) := by simpa using c92))
        clear c92
        (first | rw [c92b0] | (simp only [i64_w, i32_w]; rw [c92b0]) | skip)
        have H' := aM H
        clear H
        go_wp2
        go_meet
        case rel => exact ⟨_, (true), (by first | rfl | (simp; done) | (simp [*]; done)), H', ⟨by have := HJ15.out; first | omega | exact Nat.le_refl _⟩, ⟨by (with_reducible repeat (first|apply xN|apply xD|apply xA)); refine xF ?_ NB255_282.out _; (with_reducible repeat (first|apply xN|apply xD|apply xA)); refine xF ?_ NB255_282.out _; (with_reducible repeat (first|apply xN|apply xD|apply xA)); exact BK255.out⟩, ⟨by (with_reducible repeat (first|apply xN|apply xD|apply xA)); refine xF ?_ NB259_282.out _; (with_reducible repeat (first|apply xN|apply xD|apply xA)); refine xF ?_ NB259_282.out _; (with_reducible repeat (first|apply xN|apply xD|apply xA)); exact BK259.out⟩, ⟨by (with_reducible repeat (first|apply xN|apply xD|apply xA)); refine xF ?_ NB265_282.out _; (with_reducible repeat (first|apply xN|apply xD|apply xA)); refine xF ?_ NB265_282.out _; (with_reducible repeat (first|apply xN|apply xD|apply xA)); exact BK265.out⟩, ⟨by (with_reducible repeat (first|apply xN|apply xD|apply xA)); refine xF ?_ NB266_282.out _; (with_reducible repeat (first|apply xN|apply xD|apply xA)); refine xF ?_ NB266_282.out _; (with_reducible repeat (first|apply xN|apply xD|apply xA)); exact BK266.out⟩, ⟨by (with_reducible repeat (first|apply xN|apply xD|apply xA)); refine xF ?_ NB270_282.out _; (with_reducible repeat (first|apply xN|apply xD|apply xA)); refine xF ?_ NB270_282.out _; (with_reducible repeat (first|apply xN|apply xD|apply xA)); exact BK270.out⟩, ⟨by (with_reducible repeat (first|apply xN|apply xD|apply xA)); refine xF ?_ NB274_282.out _; (with_reducible repeat (first|apply xN|apply xD|apply xA)); refine xF ?_ NB274_282.out _; (with_reducible repeat (first|apply xN|apply xD|apply xA)); exact BK274.out⟩, ⟨by (with_reducible repeat (first|apply xN|apply xD|apply xA)); refine xF ?_ NB278_282.out _; (with_reducible repeat (first|apply xN|apply xD|apply xA)); refine xF ?_ NB278_282.out _; (with_reducible repeat (first|apply xN|apply xD|apply xA)); exact BK278.out⟩, ⟨by (with_reducible repeat (first|apply xN|apply xD|apply xA)); refine xP (cs := #[.int .i64 t279, .int .i64 0]) ?_ 1 _ rfl; (with_reducible repeat (first|apply xN|apply xD|apply xA)); refine xP (cs := #[.int .i64 0, .int .i64 0]) ?_ 0 _ rfl; (with_reducible repeat (first|apply xN|apply xD|apply xA)); exact BK282.out⟩, ⟨by repeat (first | (with_reducible first | exact HB.out | apply yA | apply yN | apply yD | refine yS ?_ GE255.out | refine yS ?_ GE259.out | refine yS ?_ GE265.out | refine yS ?_ GE266.out | refine yS ?_ GE270.out | refine yS ?_ GE274.out | refine yS ?_ GE278.out | refine yS ?_ GE282.out) | exact HB.out)⟩⟩
       ·rw [if_neg c92] at H
        have c92b0 : (t269 != t273) = false := by simpa using c92
        (try (have c92b1 : decide (t269 = t273) = true := by simpa using c92))
        (try (have c92b2 : (t269 == t273) = true := by simpa using c92))
        clear c92
        (first | rw [c92b0] | (simp only [i64_w, i32_w]; rw [c92b0]) | skip)
        by_cases c93 : (!(t267 == t271) || (!(t268 == t272))) = true
        ·rw [if_pos c93] at H
         have c93b0 : (!(t267 == t271) || (!(t268 == t272))) = true := c93
         clear c93
         have H' := aM H
         clear H
         have hnb100 := NB270_282.out
         have hcz101_0 : w83.cell? ⟨gb270, 0, none⟩ = some (.int .i64 t267) := (xC BK270.out 0).trans rfl
         have hcz101_1 : w83.cell? ⟨gb270, 1, none⟩ = some (.int .i64 t268) := (xC BK270.out 1).trans rfl
         have hfz101_0 := xZ BK270.out 0
         have hfz101_1 := xZ BK270.out 1
         have hnb107 := NB274_282.out
         have hcz108_0 : w83.cell? ⟨gb274, 0, none⟩ = some (.int .i64 t271) := (xC BK274.out 0).trans rfl
         have hcz108_1 : w83.cell? ⟨gb274, 1, none⟩ = some (.int .i64 t272) := (xC BK274.out 1).trans rfl
         have hfz108_0 := xZ BK274.out 0
         have hfz108_1 := xZ BK274.out 1
         go_wp2
         go_meet
         case rel => exact ⟨_, (true), (by first | rfl | (simp; done) | (simp [*]; done)), H', ⟨by have := HJ15.out; first | omega | exact Nat.le_refl _⟩, ⟨by (with_reducible repeat (first|apply xN|apply xD|apply xA)); refine xF ?_ NB255_282.out _; (with_reducible repeat (first|apply xN|apply xD|apply xA)); refine xF ?_ NB255_282.out _; (with_reducible repeat (first|apply xN|apply xD|apply xA)); exact BK255.out⟩, ⟨by (with_reducible repeat (first|apply xN|apply xD|apply xA)); refine xF ?_ NB259_282.out _; (with_reducible repeat (first|apply xN|apply xD|apply xA)); refine xF ?_ NB259_282.out _; (with_reducible repeat (first|apply xN|apply xD|apply xA)); exact BK259.out⟩, ⟨by (with_reducible repeat (first|apply xN|apply xD|apply xA)); refine xF ?_ NB265_282.out _; (with_reducible repeat (first|apply xN|apply xD|apply xA)); refine xF ?_ NB265_282.out _; (with_reducible repeat (first|apply xN|apply xD|apply xA)); exact BK265.out⟩, ⟨by (with_reducible repeat (first|apply xN|apply xD|apply xA)); refine xF ?_ NB266_282.out _; (with_reducible repeat (first|apply xN|apply xD|apply xA)); refine xF ?_ NB266_282.out _; (with_reducible repeat (first|apply xN|apply xD|apply xA)); exact BK266.out⟩, ⟨by (with_reducible repeat (first|apply xN|apply xD|apply xA)); refine xF ?_ NB270_282.out _; (with_reducible repeat (first|apply xN|apply xD|apply xA)); refine xF ?_ NB270_282.out _; (with_reducible repeat (first|apply xN|apply xD|apply xA)); exact BK270.out⟩, ⟨by (with_reducible repeat (first|apply xN|apply xD|apply xA)); refine xF ?_ NB274_282.out _; (with_reducible repeat (first|apply xN|apply xD|apply xA)); refine xF ?_ NB274_282.out _; (with_reducible repeat (first|apply xN|apply xD|apply xA)); exact BK274.out⟩, ⟨by (with_reducible repeat (first|apply xN|apply xD|apply xA)); refine xF ?_ NB278_282.out _; (with_reducible repeat (first|apply xN|apply xD|apply xA)); refine xF ?_ NB278_282.out _; (with_reducible repeat (first|apply xN|apply xD|apply xA)); exact BK278.out⟩, ⟨by (with_reducible repeat (first|apply xN|apply xD|apply xA)); refine xP (cs := #[.int .i64 t279, .int .i64 0]) ?_ 1 _ rfl; (with_reducible repeat (first|apply xN|apply xD|apply xA)); refine xP (cs := #[.int .i64 0, .int .i64 0]) ?_ 0 _ rfl; (with_reducible repeat (first|apply xN|apply xD|apply xA)); exact BK282.out⟩, ⟨by repeat (first | (with_reducible first | exact HB.out | apply yA | apply yN | apply yD | refine yS ?_ GE255.out | refine yS ?_ GE259.out | refine yS ?_ GE265.out | refine yS ?_ GE266.out | refine yS ?_ GE270.out | refine yS ?_ GE274.out | refine yS ?_ GE278.out | refine yS ?_ GE282.out) | exact HB.out)⟩⟩
        ·rw [if_neg c93] at H
         have c93b0 : (!(t267 == t271) || (!(t268 == t272))) = false := by simpa using c93
         clear c93
         by_cases c109 : (t277 != t281) = true
         ·rw [if_pos c109] at H
          have c109b0 : (t277 != t281) = true := c109
          (try (have c109b1 : decide (t277 = t281) = false := by simpa using c109))
          (try (have c109b2 : (t277 == t281) = false := by simpa using c109))
          (try (have c109b3 : ¬ (t277 = t281) := by simpa using c109))
          clear c109
          have H' := aM H
          clear H
          have hnb116 := NB270_282.out
          have hcz117_0 : w83.cell? ⟨gb270, 0, none⟩ = some (.int .i64 t267) := (xC BK270.out 0).trans rfl
          have hcz117_1 : w83.cell? ⟨gb270, 1, none⟩ = some (.int .i64 t268) := (xC BK270.out 1).trans rfl
          have hfz117_0 := xZ BK270.out 0
          have hfz117_1 := xZ BK270.out 1
          have hnb123 := NB274_282.out
          have hcz124_0 : w83.cell? ⟨gb274, 0, none⟩ = some (.int .i64 t271) := (xC BK274.out 0).trans rfl
          have hcz124_1 : w83.cell? ⟨gb274, 1, none⟩ = some (.int .i64 t272) := (xC BK274.out 1).trans rfl
          have hfz124_0 := xZ BK274.out 0
          have hfz124_1 := xZ BK274.out 1
          go_wp2
          go_meet
          case rel => exact ⟨_, (true), (by first | rfl | (simp; done) | (simp [*]; done)), H', ⟨by have := HJ15.out; first | omega | exact Nat.le_refl _⟩, ⟨by (with_reducible repeat (first|apply xN|apply xD|apply xA)); refine xF ?_ NB255_282.out _; (with_reducible repeat (first|apply xN|apply xD|apply xA)); refine xF ?_ NB255_282.out _; (with_reducible repeat (first|apply xN|apply xD|apply xA)); exact BK255.out⟩, ⟨by (with_reducible repeat (first|apply xN|apply xD|apply xA)); refine xF ?_ NB259_282.out _; (with_reducible repeat (first|apply xN|apply xD|apply xA)); refine xF ?_ NB259_282.out _; (with_reducible repeat (first|apply xN|apply xD|apply xA)); exact BK259.out⟩, ⟨by (with_reducible repeat (first|apply xN|apply xD|apply xA)); refine xF ?_ NB265_282.out _; (with_reducible repeat (first|apply xN|apply xD|apply xA)); refine xF ?_ NB265_282.out _; (with_reducible repeat (first|apply xN|apply xD|apply xA)); exact BK265.out⟩, ⟨by (with_reducible repeat (first|apply xN|apply xD|apply xA)); refine xF ?_ NB266_282.out _; (with_reducible repeat (first|apply xN|apply xD|apply xA)); refine xF ?_ NB266_282.out _; (with_reducible repeat (first|apply xN|apply xD|apply xA)); exact BK266.out⟩, ⟨by (with_reducible repeat (first|apply xN|apply xD|apply xA)); refine xF ?_ NB270_282.out _; (with_reducible repeat (first|apply xN|apply xD|apply xA)); refine xF ?_ NB270_282.out _; (with_reducible repeat (first|apply xN|apply xD|apply xA)); exact BK270.out⟩, ⟨by (with_reducible repeat (first|apply xN|apply xD|apply xA)); refine xF ?_ NB274_282.out _; (with_reducible repeat (first|apply xN|apply xD|apply xA)); refine xF ?_ NB274_282.out _; (with_reducible repeat (first|apply xN|apply xD|apply xA)); exact BK274.out⟩, ⟨by (with_reducible repeat (first|apply xN|apply xD|apply xA)); refine xF ?_ NB278_282.out _; (with_reducible repeat (first|apply xN|apply xD|apply xA)); refine xF ?_ NB278_282.out _; (with_reducible repeat (first|apply xN|apply xD|apply xA)); exact BK278.out⟩, ⟨by (with_reducible repeat (first|apply xN|apply xD|apply xA)); refine xP (cs := #[.int .i64 t279, .int .i64 0]) ?_ 1 _ rfl; (with_reducible repeat (first|apply xN|apply xD|apply xA)); refine xP (cs := #[.int .i64 0, .int .i64 0]) ?_ 0 _ rfl; (with_reducible repeat (first|apply xN|apply xD|apply xA)); exact BK282.out⟩, ⟨by repeat (first | (with_reducible first | exact HB.out | apply yA | apply yN | apply yD | refine yS ?_ GE255.out | refine yS ?_ GE259.out | refine yS ?_ GE265.out | refine yS ?_ GE266.out | refine yS ?_ GE270.out | refine yS ?_ GE274.out | refine yS ?_ GE278.out | refine yS ?_ GE282.out) | exact HB.out)⟩⟩
         ·rw [if_neg c109] at H
          have c109b0 : (t277 != t281) = false := by simpa using c109
          (try (have c109b1 : decide (t277 = t281) = true := by simpa using c109))
          (try (have c109b2 : (t277 == t281) = true := by simpa using c109))
          clear c109
          by_cases c125 : (!(t275 == t279) || (!(t276 == t280))) = true
          ·rw [if_pos c125] at H
           have c125b0 : (!(t275 == t279) || (!(t276 == t280))) = true := c125
           clear c125
           have H' := aM H
           clear H
           have hnb132 := NB270_282.out
           have hcz133_0 : w83.cell? ⟨gb270, 0, none⟩ = some (.int .i64 t267) := (xC BK270.out 0).trans rfl
           have hcz133_1 : w83.cell? ⟨gb270, 1, none⟩ = some (.int .i64 t268) := (xC BK270.out 1).trans rfl
           have hfz133_0 := xZ BK270.out 0
           have hfz133_1 := xZ BK270.out 1
           have hnb139 := NB274_282.out
           have hcz140_0 : w83.cell? ⟨gb274, 0, none⟩ = some (.int .i64 t271) := (xC BK274.out 0).trans rfl
           have hcz140_1 : w83.cell? ⟨gb274, 1, none⟩ = some (.int .i64 t272) := (xC BK274.out 1).trans rfl
           have hfz140_0 := xZ BK274.out 0
           have hfz140_1 := xZ BK274.out 1
           have hnb145 := NB278_282.out
           have hcz146_0 : w83.cell? ⟨gb278, 0, none⟩ = some (.int .i64 t275) := (xC BK278.out 0).trans rfl
           have hcz146_1 : w83.cell? ⟨gb278, 1, none⟩ = some (.int .i64 t276) := (xC BK278.out 1).trans rfl
           have hfz146_0 := xZ BK278.out 0
           have hfz146_1 := xZ BK278.out 1
           have hnb147 := NB282_255.out
           have hnb148 := NB282_259.out
           have hnb149 := NB282_265.out
           have hnb150 := NB282_266.out
           have hcz151_0 : w83.cell? ⟨gb282, 0, none⟩ = some (.int .i64 0) := (xC BK282.out 0).trans rfl
           have hcz151_1 : w83.cell? ⟨gb282, 1, none⟩ = some (.int .i64 0) := (xC BK282.out 1).trans rfl
           have hfz151_0 := xZ BK282.out 0
           have hfz151_1 := xZ BK282.out 1
           go_wp2
           go_meet
           case rel => exact ⟨_, (true), (by first | rfl | (simp; done) | (simp [*]; done)), H', ⟨by have := HJ15.out; first | omega | exact Nat.le_refl _⟩, ⟨by (with_reducible repeat (first|apply xN|apply xD|apply xA)); refine xF ?_ NB255_282.out _; (with_reducible repeat (first|apply xN|apply xD|apply xA)); refine xF ?_ NB255_282.out _; (with_reducible repeat (first|apply xN|apply xD|apply xA)); exact BK255.out⟩, ⟨by (with_reducible repeat (first|apply xN|apply xD|apply xA)); refine xF ?_ NB259_282.out _; (with_reducible repeat (first|apply xN|apply xD|apply xA)); refine xF ?_ NB259_282.out _; (with_reducible repeat (first|apply xN|apply xD|apply xA)); exact BK259.out⟩, ⟨by (with_reducible repeat (first|apply xN|apply xD|apply xA)); refine xF ?_ NB265_282.out _; (with_reducible repeat (first|apply xN|apply xD|apply xA)); refine xF ?_ NB265_282.out _; (with_reducible repeat (first|apply xN|apply xD|apply xA)); exact BK265.out⟩, ⟨by (with_reducible repeat (first|apply xN|apply xD|apply xA)); refine xF ?_ NB266_282.out _; (with_reducible repeat (first|apply xN|apply xD|apply xA)); refine xF ?_ NB266_282.out _; (with_reducible repeat (first|apply xN|apply xD|apply xA)); exact BK266.out⟩, ⟨by (with_reducible repeat (first|apply xN|apply xD|apply xA)); refine xF ?_ NB270_282.out _; (with_reducible repeat (first|apply xN|apply xD|apply xA)); refine xF ?_ NB270_282.out _; (with_reducible repeat (first|apply xN|apply xD|apply xA)); exact BK270.out⟩, ⟨by (with_reducible repeat (first|apply xN|apply xD|apply xA)); refine xF ?_ NB274_282.out _; (with_reducible repeat (first|apply xN|apply xD|apply xA)); refine xF ?_ NB274_282.out _; (with_reducible repeat (first|apply xN|apply xD|apply xA)); exact BK274.out⟩, ⟨by (with_reducible repeat (first|apply xN|apply xD|apply xA)); refine xF ?_ NB278_282.out _; (with_reducible repeat (first|apply xN|apply xD|apply xA)); refine xF ?_ NB278_282.out _; (with_reducible repeat (first|apply xN|apply xD|apply xA)); exact BK278.out⟩, ⟨by (with_reducible repeat (first|apply xN|apply xD|apply xA)); refine xP (cs := #[.int .i64 t279, .int .i64 0]) ?_ 1 _ rfl; (with_reducible repeat (first|apply xN|apply xD|apply xA)); refine xP (cs := #[.int .i64 0, .int .i64 0]) ?_ 0 _ rfl; (with_reducible repeat (first|apply xN|apply xD|apply xA)); exact BK282.out⟩, ⟨by repeat (first | (with_reducible first | exact HB.out | apply yA | apply yN | apply yD | refine yS ?_ GE255.out | refine yS ?_ GE259.out | refine yS ?_ GE265.out | refine yS ?_ GE266.out | refine yS ?_ GE270.out | refine yS ?_ GE274.out | refine yS ?_ GE278.out | refine yS ?_ GE282.out) | exact HB.out)⟩⟩
          ·rw [if_neg c125] at H
           have c125b0 : (!(t275 == t279) || (!(t276 == t280))) = false := by simpa using c125
           clear c125
           by_cases c152 : t269 = true
           ·subst c152
            replace H : ((impl_IsRatio.f kj15 t267 t268).bind fun t283 => (if t283 = true then (if t277 = true then ((impl_IsRatio.f kj15 t275 t276).bind fun t284 => (laws_FnRatios.j1 kj15 true (!t284) t261 t262 t263 t264 t267 t268)) else (laws_FnRatios.j1 kj15 true false t261 t262 t263 t264 t267 t268)) else (laws_FnRatios.j1 kj15 true true t261 t262 t263 t264 t267 t268))) = some r := by rw [if_pos rfl] at H; exact H
            replace H := Option.bind_eq_some_iff.mp H
            obtain ⟨t283, A1530, H⟩ := H
            replace H : (if t283 = true then (if t277 = true then ((impl_IsRatio.f kj15 t275 t276).bind fun t284 => (laws_FnRatios.j1 kj15 true (!t284) t261 t262 t263 t264 t267 t268)) else (laws_FnRatios.j1 kj15 true false t261 t262 t263 t264 t267 t268)) else (laws_FnRatios.j1 kj15 true true t261 t262 t263 t264 t267 t268)) = some r := H
            have A153 := aM A1530
            clear A1530
            by_cases c154 : t283 = true
            ·subst c154
             replace H : (if t277 = true then ((impl_IsRatio.f kj15 t275 t276).bind fun t284 => (laws_FnRatios.j1 kj15 true (!t284) t261 t262 t263 t264 t267 t268)) else (laws_FnRatios.j1 kj15 true false t261 t262 t263 t264 t267 t268)) = some r := by rw [if_pos rfl] at H; exact H
             by_cases c155 : t277 = true
             ·subst c155
              replace H : ((impl_IsRatio.f kj15 t275 t276).bind fun t284 => (laws_FnRatios.j1 kj15 true (!t284) t261 t262 t263 t264 t267 t268)) = some r := by rw [if_pos rfl] at H; exact H
              replace H := Option.bind_eq_some_iff.mp H
              obtain ⟨t284, A1560, H⟩ := H
              replace H : (laws_FnRatios.j1 kj15 true (!t284) t261 t262 t263 t264 t267 t268) = some r := H
              have A156 := aM A1560
              clear A1560
              have H' := aM H
              clear H
              have hnb163 := NB270_282.out
              have hcz164_0 : w83.cell? ⟨gb270, 0, none⟩ = some (.int .i64 t267) := (xC BK270.out 0).trans rfl
              have hcz164_1 : w83.cell? ⟨gb270, 1, none⟩ = some (.int .i64 t268) := (xC BK270.out 1).trans rfl
              have hfz164_0 := xZ BK270.out 0
              have hfz164_1 := xZ BK270.out 1
              have hnb170 := NB274_282.out
              have hcz171_0 : w83.cell? ⟨gb274, 0, none⟩ = some (.int .i64 t271) := (xC BK274.out 0).trans rfl
              have hcz171_1 : w83.cell? ⟨gb274, 1, none⟩ = some (.int .i64 t272) := (xC BK274.out 1).trans rfl
              have hfz171_0 := xZ BK274.out 0
              have hfz171_1 := xZ BK274.out 1
              have hnb176 := NB278_282.out
              have hcz177_0 : w83.cell? ⟨gb278, 0, none⟩ = some (.int .i64 t275) := (xC BK278.out 0).trans rfl
              have hcz177_1 : w83.cell? ⟨gb278, 1, none⟩ = some (.int .i64 t276) := (xC BK278.out 1).trans rfl
              have hfz177_0 := xZ BK278.out 0
              have hfz177_1 := xZ BK278.out 1
              have hnb178 := NB282_255.out
              have hnb179 := NB282_259.out
              have hnb180 := NB282_265.out
              have hnb181 := NB282_266.out
              have hcz182_0 : w83.cell? ⟨gb282, 0, none⟩ = some (.int .i64 0) := (xC BK282.out 0).trans rfl
              have hcz182_1 : w83.cell? ⟨gb282, 1, none⟩ = some (.int .i64 0) := (xC BK282.out 1).trans rfl
              have hfz182_0 := xZ BK282.out 0
              have hfz182_1 := xZ BK282.out 1
              go_wp2_with (first | (go_at_call 8; (with_reducible refine (impl_IsRatio.calls kj15 t267 t268 true _ A153.out).mono ?_); rintro e w183 ⟨rfl, hb⟩; have n0_ := aM (xB (g := gb255) (o := .cells #[.int .i64 t252, .int .i64 t253] 27 (0, 0)) (by (with_reducible repeat (first|apply xN|apply xD|apply xA)); refine xF ?_ NB255_282.out _; (with_reducible repeat (first|apply xN|apply xD|apply xA)); refine xF ?_ NB255_282.out _; (with_reducible repeat (first|apply xN|apply xD|apply xA)); exact BK255.out) hb); have n1_ := aM (xB (g := gb259) (o := .cells #[.int .i64 t256, .int .i64 t257] 27 (0, 0)) (by (with_reducible repeat (first|apply xN|apply xD|apply xA)); refine xF ?_ NB259_282.out _; (with_reducible repeat (first|apply xN|apply xD|apply xA)); refine xF ?_ NB259_282.out _; (with_reducible repeat (first|apply xN|apply xD|apply xA)); exact BK259.out) hb); have n2_ := aM (xB (g := gb265) (o := .cells #[.int .i64 t261, .int .i64 t262] 27 (0, 0)) (by (with_reducible repeat (first|apply xN|apply xD|apply xA)); refine xF ?_ NB265_282.out _; (with_reducible repeat (first|apply xN|apply xD|apply xA)); refine xF ?_ NB265_282.out _; (with_reducible repeat (first|apply xN|apply xD|apply xA)); exact BK265.out) hb); have n3_ := aM (xB (g := gb266) (o := .cells #[.int .i64 t263, .int .i64 t264] 27 (0, 0)) (by (with_reducible repeat (first|apply xN|apply xD|apply xA)); refine xF ?_ NB266_282.out _; (with_reducible repeat (first|apply xN|apply xD|apply xA)); refine xF ?_ NB266_282.out _; (with_reducible repeat (first|apply xN|apply xD|apply xA)); exact BK266.out) hb); have n4_ := aM (xB (g := gb270) (o := .cells #[.int .i64 t267, .int .i64 t268] 27 (0, 0)) (by (with_reducible repeat (first|apply xN|apply xD|apply xA)); refine xF ?_ NB270_282.out _; (with_reducible repeat (first|apply xN|apply xD|apply xA)); refine xF ?_ NB270_282.out _; (with_reducible repeat (first|apply xN|apply xD|apply xA)); exact BK270.out) hb); have n5_ := aM (xB (g := gb274) (o := .cells #[.int .i64 t271, .int .i64 t272] 27 (0, 0)) (by (with_reducible repeat (first|apply xN|apply xD|apply xA)); refine xF ?_ NB274_282.out _; (with_reducible repeat (first|apply xN|apply xD|apply xA)); refine xF ?_ NB274_282.out _; (with_reducible repeat (first|apply xN|apply xD|apply xA)); exact BK274.out) hb); have n6_ := aM (xB (g := gb278) (o := .cells #[.int .i64 t275, .int .i64 t276] 27 (0, 0)) (by (with_reducible repeat (first|apply xN|apply xD|apply xA)); refine xF ?_ NB278_282.out _; (with_reducible repeat (first|apply xN|apply xD|apply xA)); refine xF ?_ NB278_282.out _; (with_reducible repeat (first|apply xN|apply xD|apply xA)); exact BK278.out) hb); have n7_ := aM (xB (g := gb282) (o := .cells #[.int .i64 t279, .int .i64 t280] 27 (0, 0)) (by (with_reducible repeat (first|apply xN|apply xD|apply xA)); refine xP (cs := #[.int .i64 t279, .int .i64 0]) ?_ 1 _ rfl; (with_reducible repeat (first|apply xN|apply xD|apply xA)); refine xP (cs := #[.int .i64 0, .int .i64 0]) ?_ 0 _ rfl; (with_reducible repeat (first|apply xN|apply xD|apply xA)); exact BK282.out) hb); have n8_ := aM (below_step (by repeat (first | (with_reducible first | exact HB.out | apply yA | apply yN | apply yD | refine yS ?_ GE255.out | refine yS ?_ GE259.out | refine yS ?_ GE265.out | refine yS ?_ GE266.out | refine yS ?_ GE270.out | refine yS ?_ GE274.out | refine yS ?_ GE278.out | refine yS ?_ GE282.out) | exact HB.out)) hb); clear BK255; clear BK259; clear BK265; clear BK266; clear BK270; clear BK274; clear BK278; clear BK282; clear HB; have BK255 := n0_; have BK259 := n1_; have BK265 := n2_; have BK266 := n3_; have BK270 := n4_; have BK274 := n5_; have BK278 := n6_; have BK282 := n7_; have HB := n8_; clear n0_ n1_ n2_ n3_ n4_ n5_ n6_ n7_ n8_; (try clear hb); (try clear hk); (try clear hi); have hcz184_0 : w183.cell? ⟨gb278, 0, none⟩ = some (.int .i64 t275) := (xC BK278.out 0).trans rfl; have hcz184_1 : w183.cell? ⟨gb278, 1, none⟩ = some (.int .i64 t276) := (xC BK278.out 1).trans rfl; have hfz184_0 := xZ BK278.out 0; have hfz184_1 := xZ BK278.out 1) | (go_at_call 8; (with_reducible refine (impl_IsRatio.calls kj15 t275 t276 t284 _ A156.out).mono ?_); rintro e w185 ⟨rfl, hb⟩; have n0_ := aM (xB (g := gb255) (o := .cells #[.int .i64 t252, .int .i64 t253] 27 (0, 0)) (by (with_reducible repeat (first|apply xN|apply xD|apply xA)); exact BK255.out) hb); have n1_ := aM (xB (g := gb259) (o := .cells #[.int .i64 t256, .int .i64 t257] 27 (0, 0)) (by (with_reducible repeat (first|apply xN|apply xD|apply xA)); exact BK259.out) hb); have n2_ := aM (xB (g := gb265) (o := .cells #[.int .i64 t261, .int .i64 t262] 27 (0, 0)) (by (with_reducible repeat (first|apply xN|apply xD|apply xA)); exact BK265.out) hb); have n3_ := aM (xB (g := gb266) (o := .cells #[.int .i64 t263, .int .i64 t264] 27 (0, 0)) (by (with_reducible repeat (first|apply xN|apply xD|apply xA)); exact BK266.out) hb); have n4_ := aM (xB (g := gb270) (o := .cells #[.int .i64 t267, .int .i64 t268] 27 (0, 0)) (by (with_reducible repeat (first|apply xN|apply xD|apply xA)); exact BK270.out) hb); have n5_ := aM (xB (g := gb274) (o := .cells #[.int .i64 t271, .int .i64 t272] 27 (0, 0)) (by (with_reducible repeat (first|apply xN|apply xD|apply xA)); exact BK274.out) hb); have n6_ := aM (xB (g := gb278) (o := .cells #[.int .i64 t275, .int .i64 t276] 27 (0, 0)) (by (with_reducible repeat (first|apply xN|apply xD|apply xA)); exact BK278.out) hb); have n7_ := aM (xB (g := gb282) (o := .cells #[.int .i64 t279, .int .i64 t280] 27 (0, 0)) (by (with_reducible repeat (first|apply xN|apply xD|apply xA)); exact BK282.out) hb); have n8_ := aM (below_step (by repeat (first | (with_reducible first | exact HB.out | apply yA | apply yN | apply yD | refine yS ?_ GE255.out | refine yS ?_ GE259.out | refine yS ?_ GE265.out | refine yS ?_ GE266.out | refine yS ?_ GE270.out | refine yS ?_ GE274.out | refine yS ?_ GE278.out | refine yS ?_ GE282.out) | exact HB.out)) hb); clear BK255; clear BK259; clear BK265; clear BK266; clear BK270; clear BK274; clear BK278; clear BK282; clear HB; have BK255 := n0_; have BK259 := n1_; have BK265 := n2_; have BK266 := n3_; have BK270 := n4_; have BK274 := n5_; have BK278 := n6_; have BK282 := n7_; have HB := n8_; clear n0_ n1_ n2_ n3_ n4_ n5_ n6_ n7_ n8_; (try clear hb); (try clear hk); (try clear hi)))
              go_meet
              case rel => exact ⟨_, (!t284), (by first | rfl | (simp; done) | (simp [*]; done)), H', ⟨by have := HJ15.out; first | omega | exact Nat.le_refl _⟩, ⟨by (with_reducible repeat (first|apply xN|apply xD|apply xA)); exact BK255.out⟩, ⟨by (with_reducible repeat (first|apply xN|apply xD|apply xA)); exact BK259.out⟩, ⟨by (with_reducible repeat (first|apply xN|apply xD|apply xA)); exact BK265.out⟩, ⟨by (with_reducible repeat (first|apply xN|apply xD|apply xA)); exact BK266.out⟩, ⟨by (with_reducible repeat (first|apply xN|apply xD|apply xA)); exact BK270.out⟩, ⟨by (with_reducible repeat (first|apply xN|apply xD|apply xA)); exact BK274.out⟩, ⟨by (with_reducible repeat (first|apply xN|apply xD|apply xA)); exact BK278.out⟩, ⟨by (with_reducible repeat (first|apply xN|apply xD|apply xA)); exact BK282.out⟩, ⟨by repeat (first | (with_reducible first | exact HB.out | apply yA | apply yN | apply yD | refine yS ?_ GE255.out | refine yS ?_ GE259.out | refine yS ?_ GE265.out | refine yS ?_ GE266.out | refine yS ?_ GE270.out | refine yS ?_ GE274.out | refine yS ?_ GE278.out | refine yS ?_ GE282.out) | exact HB.out)⟩⟩
             ·replace c155 := Bool.eq_false_iff.mpr c155
              subst c155
              replace H : (laws_FnRatios.j1 kj15 true false t261 t262 t263 t264 t267 t268) = some r := by rw [if_neg (show ¬ (false = true) by decide)] at H; exact H
              have H' := aM H
              clear H
              have hnb192 := NB270_282.out
              have hcz193_0 : w83.cell? ⟨gb270, 0, none⟩ = some (.int .i64 t267) := (xC BK270.out 0).trans rfl
              have hcz193_1 : w83.cell? ⟨gb270, 1, none⟩ = some (.int .i64 t268) := (xC BK270.out 1).trans rfl
              have hfz193_0 := xZ BK270.out 0
              have hfz193_1 := xZ BK270.out 1
              have hnb199 := NB274_282.out
              have hcz200_0 : w83.cell? ⟨gb274, 0, none⟩ = some (.int .i64 t271) := (xC BK274.out 0).trans rfl
              have hcz200_1 : w83.cell? ⟨gb274, 1, none⟩ = some (.int .i64 t272) := (xC BK274.out 1).trans rfl
              have hfz200_0 := xZ BK274.out 0
              have hfz200_1 := xZ BK274.out 1
              have hnb205 := NB278_282.out
              have hcz206_0 : w83.cell? ⟨gb278, 0, none⟩ = some (.int .i64 t275) := (xC BK278.out 0).trans rfl
              have hcz206_1 : w83.cell? ⟨gb278, 1, none⟩ = some (.int .i64 t276) := (xC BK278.out 1).trans rfl
              have hfz206_0 := xZ BK278.out 0
              have hfz206_1 := xZ BK278.out 1
              have hnb207 := NB282_255.out
              have hnb208 := NB282_259.out
              have hnb209 := NB282_265.out
              have hnb210 := NB282_266.out
              have hcz211_0 : w83.cell? ⟨gb282, 0, none⟩ = some (.int .i64 0) := (xC BK282.out 0).trans rfl
              have hcz211_1 : w83.cell? ⟨gb282, 1, none⟩ = some (.int .i64 0) := (xC BK282.out 1).trans rfl
              have hfz211_0 := xZ BK282.out 0
              have hfz211_1 := xZ BK282.out 1
              go_wp2_with (first | (go_at_call 8; (with_reducible refine (impl_IsRatio.calls kj15 t267 t268 true _ A153.out).mono ?_); rintro e w212 ⟨rfl, hb⟩; have n0_ := aM (xB (g := gb255) (o := .cells #[.int .i64 t252, .int .i64 t253] 27 (0, 0)) (by (with_reducible repeat (first|apply xN|apply xD|apply xA)); refine xF ?_ NB255_282.out _; (with_reducible repeat (first|apply xN|apply xD|apply xA)); refine xF ?_ NB255_282.out _; (with_reducible repeat (first|apply xN|apply xD|apply xA)); exact BK255.out) hb); have n1_ := aM (xB (g := gb259) (o := .cells #[.int .i64 t256, .int .i64 t257] 27 (0, 0)) (by (with_reducible repeat (first|apply xN|apply xD|apply xA)); refine xF ?_ NB259_282.out _; (with_reducible repeat (first|apply xN|apply xD|apply xA)); refine xF ?_ NB259_282.out _; (with_reducible repeat (first|apply xN|apply xD|apply xA)); exact BK259.out) hb); have n2_ := aM (xB (g := gb265) (o := .cells #[.int .i64 t261, .int .i64 t262] 27 (0, 0)) (by (with_reducible repeat (first|apply xN|apply xD|apply xA)); refine xF ?_ NB265_282.out _; (with_reducible repeat (first|apply xN|apply xD|apply xA)); refine xF ?_ NB265_282.out _; (with_reducible repeat (first|apply xN|apply xD|apply xA)); exact BK265.out) hb); have n3_ := aM (xB (g := gb266) (o := .cells #[.int .i64 t263, .int .i64 t264] 27 (0, 0)) (by (with_reducible repeat (first|apply xN|apply xD|apply xA)); refine xF ?_ NB266_282.out _; (with_reducible repeat (first|apply xN|apply xD|apply xA)); refine xF ?_ NB266_282.out _; (with_reducible repeat (first|apply xN|apply xD|apply xA)); exact BK266.out) hb); have n4_ := aM (xB (g := gb270) (o := .cells #[.int .i64 t267, .int .i64 t268] 27 (0, 0)) (by (with_reducible repeat (first|apply xN|apply xD|apply xA)); refine xF ?_ NB270_282.out _; (with_reducible repeat (first|apply xN|apply xD|apply xA)); refine xF ?_ NB270_282.out _; (with_reducible repeat (first|apply xN|apply xD|apply xA)); exact BK270.out) hb); have n5_ := aM (xB (g := gb274) (o := .cells #[.int .i64 t271, .int .i64 t272] 27 (0, 0)) (by (with_reducible repeat (first|apply xN|apply xD|apply xA)); refine xF ?_ NB274_282.out _; (with_reducible repeat (first|apply xN|apply xD|apply xA)); refine xF ?_ NB274_282.out _; (with_reducible repeat (first|apply xN|apply xD|apply xA)); exact BK274.out) hb); have n6_ := aM (xB (g := gb278) (o := .cells #[.int .i64 t275, .int .i64 t276] 27 (0, 0)) (by (with_reducible repeat (first|apply xN|apply xD|apply xA)); refine xF ?_ NB278_282.out _; (with_reducible repeat (first|apply xN|apply xD|apply xA)); refine xF ?_ NB278_282.out _; (with_reducible repeat (first|apply xN|apply xD|apply xA)); exact BK278.out) hb); have n7_ := aM (xB (g := gb282) (o := .cells #[.int .i64 t279, .int .i64 t280] 27 (0, 0)) (by (with_reducible repeat (first|apply xN|apply xD|apply xA)); refine xP (cs := #[.int .i64 t279, .int .i64 0]) ?_ 1 _ rfl; (with_reducible repeat (first|apply xN|apply xD|apply xA)); refine xP (cs := #[.int .i64 0, .int .i64 0]) ?_ 0 _ rfl; (with_reducible repeat (first|apply xN|apply xD|apply xA)); exact BK282.out) hb); have n8_ := aM (below_step (by repeat (first | (with_reducible first | exact HB.out | apply yA | apply yN | apply yD | refine yS ?_ GE255.out | refine yS ?_ GE259.out | refine yS ?_ GE265.out | refine yS ?_ GE266.out | refine yS ?_ GE270.out | refine yS ?_ GE274.out | refine yS ?_ GE278.out | refine yS ?_ GE282.out) | exact HB.out)) hb); clear BK255; clear BK259; clear BK265; clear BK266; clear BK270; clear BK274; clear BK278; clear BK282; clear HB; have BK255 := n0_; have BK259 := n1_; have BK265 := n2_; have BK266 := n3_; have BK270 := n4_; have BK274 := n5_; have BK278 := n6_; have BK282 := n7_; have HB := n8_; clear n0_ n1_ n2_ n3_ n4_ n5_ n6_ n7_ n8_; (try clear hb); (try clear hk); (try clear hi)))
              go_meet
              case rel => exact ⟨_, (false), (by first | rfl | (simp; done) | (simp [*]; done)), H', ⟨by have := HJ15.out; first | omega | exact Nat.le_refl _⟩, ⟨by (with_reducible repeat (first|apply xN|apply xD|apply xA)); exact BK255.out⟩, ⟨by (with_reducible repeat (first|apply xN|apply xD|apply xA)); exact BK259.out⟩, ⟨by (with_reducible repeat (first|apply xN|apply xD|apply xA)); exact BK265.out⟩, ⟨by (with_reducible repeat (first|apply xN|apply xD|apply xA)); exact BK266.out⟩, ⟨by (with_reducible repeat (first|apply xN|apply xD|apply xA)); exact BK270.out⟩, ⟨by (with_reducible repeat (first|apply xN|apply xD|apply xA)); exact BK274.out⟩, ⟨by (with_reducible repeat (first|apply xN|apply xD|apply xA)); exact BK278.out⟩, ⟨by (with_reducible repeat (first|apply xN|apply xD|apply xA)); exact BK282.out⟩, ⟨by repeat (first | (with_reducible first | exact HB.out | apply yA | apply yN | apply yD | refine yS ?_ GE255.out | refine yS ?_ GE259.out | refine yS ?_ GE265.out | refine yS ?_ GE266.out | refine yS ?_ GE270.out | refine yS ?_ GE274.out | refine yS ?_ GE278.out | refine yS ?_ GE282.out) | exact HB.out)⟩⟩
            ·replace c154 := Bool.eq_false_iff.mpr c154
             subst c154
             replace H : (laws_FnRatios.j1 kj15 true true t261 t262 t263 t264 t267 t268) = some r := by rw [if_neg (show ¬ (false = true) by decide)] at H; exact H
             have H' := aM H
             clear H
             have hnb219 := NB270_282.out
             have hcz220_0 : w83.cell? ⟨gb270, 0, none⟩ = some (.int .i64 t267) := (xC BK270.out 0).trans rfl
             have hcz220_1 : w83.cell? ⟨gb270, 1, none⟩ = some (.int .i64 t268) := (xC BK270.out 1).trans rfl
             have hfz220_0 := xZ BK270.out 0
             have hfz220_1 := xZ BK270.out 1
             have hnb226 := NB274_282.out
             have hcz227_0 : w83.cell? ⟨gb274, 0, none⟩ = some (.int .i64 t271) := (xC BK274.out 0).trans rfl
             have hcz227_1 : w83.cell? ⟨gb274, 1, none⟩ = some (.int .i64 t272) := (xC BK274.out 1).trans rfl
             have hfz227_0 := xZ BK274.out 0
             have hfz227_1 := xZ BK274.out 1
             have hnb232 := NB278_282.out
             have hcz233_0 : w83.cell? ⟨gb278, 0, none⟩ = some (.int .i64 t275) := (xC BK278.out 0).trans rfl
             have hcz233_1 : w83.cell? ⟨gb278, 1, none⟩ = some (.int .i64 t276) := (xC BK278.out 1).trans rfl
             have hfz233_0 := xZ BK278.out 0
             have hfz233_1 := xZ BK278.out 1
             have hnb234 := NB282_255.out
             have hnb235 := NB282_259.out
             have hnb236 := NB282_265.out
             have hnb237 := NB282_266.out
             have hcz238_0 : w83.cell? ⟨gb282, 0, none⟩ = some (.int .i64 0) := (xC BK282.out 0).trans rfl
             have hcz238_1 : w83.cell? ⟨gb282, 1, none⟩ = some (.int .i64 0) := (xC BK282.out 1).trans rfl
             have hfz238_0 := xZ BK282.out 0
             have hfz238_1 := xZ BK282.out 1
             go_wp2_with (first | (go_at_call 8; (with_reducible refine (impl_IsRatio.calls kj15 t267 t268 false _ A153.out).mono ?_); rintro e w239 ⟨rfl, hb⟩; have n0_ := aM (xB (g := gb255) (o := .cells #[.int .i64 t252, .int .i64 t253] 27 (0, 0)) (by (with_reducible repeat (first|apply xN|apply xD|apply xA)); refine xF ?_ NB255_282.out _; (with_reducible repeat (first|apply xN|apply xD|apply xA)); refine xF ?_ NB255_282.out _; (with_reducible repeat (first|apply xN|apply xD|apply xA)); exact BK255.out) hb); have n1_ := aM (xB (g := gb259) (o := .cells #[.int .i64 t256, .int .i64 t257] 27 (0, 0)) (by (with_reducible repeat (first|apply xN|apply xD|apply xA)); refine xF ?_ NB259_282.out _; (with_reducible repeat (first|apply xN|apply xD|apply xA)); refine xF ?_ NB259_282.out _; (with_reducible repeat (first|apply xN|apply xD|apply xA)); exact BK259.out) hb); have n2_ := aM (xB (g := gb265) (o := .cells #[.int .i64 t261, .int .i64 t262] 27 (0, 0)) (by (with_reducible repeat (first|apply xN|apply xD|apply xA)); refine xF ?_ NB265_282.out _; (with_reducible repeat (first|apply xN|apply xD|apply xA)); refine xF ?_ NB265_282.out _; (with_reducible repeat (first|apply xN|apply xD|apply xA)); exact BK265.out) hb); have n3_ := aM (xB (g := gb266) (o := .cells #[.int .i64 t263, .int .i64 t264] 27 (0, 0)) (by (with_reducible repeat (first|apply xN|apply xD|apply xA)); refine xF ?_ NB266_282.out _; (with_reducible repeat (first|apply xN|apply xD|apply xA)); refine xF ?_ NB266_282.out _; (with_reducible repeat (first|apply xN|apply xD|apply xA)); exact BK266.out) hb); have n4_ := aM (xB (g := gb270) (o := .cells #[.int .i64 t267, .int .i64 t268] 27 (0, 0)) (by (with_reducible repeat (first|apply xN|apply xD|apply xA)); refine xF ?_ NB270_282.out _; (with_reducible repeat (first|apply xN|apply xD|apply xA)); refine xF ?_ NB270_282.out _; (with_reducible repeat (first|apply xN|apply xD|apply xA)); exact BK270.out) hb); have n5_ := aM (xB (g := gb274) (o := .cells #[.int .i64 t271, .int .i64 t272] 27 (0, 0)) (by (with_reducible repeat (first|apply xN|apply xD|apply xA)); refine xF ?_ NB274_282.out _; (with_reducible repeat (first|apply xN|apply xD|apply xA)); refine xF ?_ NB274_282.out _; (with_reducible repeat (first|apply xN|apply xD|apply xA)); exact BK274.out) hb); have n6_ := aM (xB (g := gb278) (o := .cells #[.int .i64 t275, .int .i64 t276] 27 (0, 0)) (by (with_reducible repeat (first|apply xN|apply xD|apply xA)); refine xF ?_ NB278_282.out _; (with_reducible repeat (first|apply xN|apply xD|apply xA)); refine xF ?_ NB278_282.out _; (with_reducible repeat (first|apply xN|apply xD|apply xA)); exact BK278.out) hb); have n7_ := aM (xB (g := gb282) (o := .cells #[.int .i64 t279, .int .i64 t280] 27 (0, 0)) (by (with_reducible repeat (first|apply xN|apply xD|apply xA)); refine xP (cs := #[.int .i64 t279, .int .i64 0]) ?_ 1 _ rfl; (with_reducible repeat (first|apply xN|apply xD|apply xA)); refine xP (cs := #[.int .i64 0, .int .i64 0]) ?_ 0 _ rfl; (with_reducible repeat (first|apply xN|apply xD|apply xA)); exact BK282.out) hb); have n8_ := aM (below_step (by repeat (first | (with_reducible first | exact HB.out | apply yA | apply yN | apply yD | refine yS ?_ GE255.out | refine yS ?_ GE259.out | refine yS ?_ GE265.out | refine yS ?_ GE266.out | refine yS ?_ GE270.out | refine yS ?_ GE274.out | refine yS ?_ GE278.out | refine yS ?_ GE282.out) | exact HB.out)) hb); clear BK255; clear BK259; clear BK265; clear BK266; clear BK270; clear BK274; clear BK278; clear BK282; clear HB; have BK255 := n0_; have BK259 := n1_; have BK265 := n2_; have BK266 := n3_; have BK270 := n4_; have BK274 := n5_; have BK278 := n6_; have BK282 := n7_; have HB := n8_; clear n0_ n1_ n2_ n3_ n4_ n5_ n6_ n7_ n8_; (try clear hb); (try clear hk); (try clear hi)))
             go_meet
             case rel => exact ⟨_, (true), (by first | rfl | (simp; done) | (simp [*]; done)), H', ⟨by have := HJ15.out; first | omega | exact Nat.le_refl _⟩, ⟨by (with_reducible repeat (first|apply xN|apply xD|apply xA)); exact BK255.out⟩, ⟨by (with_reducible repeat (first|apply xN|apply xD|apply xA)); exact BK259.out⟩, ⟨by (with_reducible repeat (first|apply xN|apply xD|apply xA)); exact BK265.out⟩, ⟨by (with_reducible repeat (first|apply xN|apply xD|apply xA)); exact BK266.out⟩, ⟨by (with_reducible repeat (first|apply xN|apply xD|apply xA)); exact BK270.out⟩, ⟨by (with_reducible repeat (first|apply xN|apply xD|apply xA)); exact BK274.out⟩, ⟨by (with_reducible repeat (first|apply xN|apply xD|apply xA)); exact BK278.out⟩, ⟨by (with_reducible repeat (first|apply xN|apply xD|apply xA)); exact BK282.out⟩, ⟨by repeat (first | (with_reducible first | exact HB.out | apply yA | apply yN | apply yD | refine yS ?_ GE255.out | refine yS ?_ GE259.out | refine yS ?_ GE265.out | refine yS ?_ GE266.out | refine yS ?_ GE270.out | refine yS ?_ GE274.out | refine yS ?_ GE278.out | refine yS ?_ GE282.out) | exact HB.out)⟩⟩
           ·replace c152 := Bool.eq_false_iff.mpr c152
            subst c152
            replace H : (if t277 = true then ((impl_IsRatio.f kj15 t275 t276).bind fun t285 => (laws_FnRatios.j1 kj15 false (!t285) t261 t262 t263 t264 t267 t268)) else (laws_FnRatios.j1 kj15 false false t261 t262 t263 t264 t267 t268)) = some r := by rw [if_neg (show ¬ (false = true) by decide)] at H; exact H
            by_cases c240 : t277 = true
            ·subst c240
             replace H : ((impl_IsRatio.f kj15 t275 t276).bind fun t285 => (laws_FnRatios.j1 kj15 false (!t285) t261 t262 t263 t264 t267 t268)) = some r := by rw [if_pos rfl] at H; exact H
             replace H := Option.bind_eq_some_iff.mp H
             obtain ⟨t285, A2410, H⟩ := H
             replace H : (laws_FnRatios.j1 kj15 false (!t285) t261 t262 t263 t264 t267 t268) = some r := H
             have A241 := aM A2410
             clear A2410
             have H' := aM H
             clear H
             have hnb248 := NB270_282.out
             have hcz249_0 : w83.cell? ⟨gb270, 0, none⟩ = some (.int .i64 t267) := (xC BK270.out 0).trans rfl
             have hcz249_1 : w83.cell? ⟨gb270, 1, none⟩ = some (.int .i64 t268) := (xC BK270.out 1).trans rfl
             have hfz249_0 := xZ BK270.out 0
             have hfz249_1 := xZ BK270.out 1
             have hnb255 := NB274_282.out
             have hcz256_0 : w83.cell? ⟨gb274, 0, none⟩ = some (.int .i64 t271) := (xC BK274.out 0).trans rfl
             have hcz256_1 : w83.cell? ⟨gb274, 1, none⟩ = some (.int .i64 t272) := (xC BK274.out 1).trans rfl
             have hfz256_0 := xZ BK274.out 0
             have hfz256_1 := xZ BK274.out 1
             have hnb261 := NB278_282.out
             have hcz262_0 : w83.cell? ⟨gb278, 0, none⟩ = some (.int .i64 t275) := (xC BK278.out 0).trans rfl
             have hcz262_1 : w83.cell? ⟨gb278, 1, none⟩ = some (.int .i64 t276) := (xC BK278.out 1).trans rfl
             have hfz262_0 := xZ BK278.out 0
             have hfz262_1 := xZ BK278.out 1
             have hnb263 := NB282_255.out
             have hnb264 := NB282_259.out
             have hnb265 := NB282_265.out
             have hnb266 := NB282_266.out
             have hcz267_0 : w83.cell? ⟨gb282, 0, none⟩ = some (.int .i64 0) := (xC BK282.out 0).trans rfl
             have hcz267_1 : w83.cell? ⟨gb282, 1, none⟩ = some (.int .i64 0) := (xC BK282.out 1).trans rfl
             have hfz267_0 := xZ BK282.out 0
             have hfz267_1 := xZ BK282.out 1
             go_wp2_with (first | (go_at_call 8; (with_reducible refine (impl_IsRatio.calls kj15 t275 t276 t285 _ A241.out).mono ?_); rintro e w268 ⟨rfl, hb⟩; have n0_ := aM (xB (g := gb255) (o := .cells #[.int .i64 t252, .int .i64 t253] 27 (0, 0)) (by (with_reducible repeat (first|apply xN|apply xD|apply xA)); refine xF ?_ NB255_282.out _; (with_reducible repeat (first|apply xN|apply xD|apply xA)); refine xF ?_ NB255_282.out _; (with_reducible repeat (first|apply xN|apply xD|apply xA)); exact BK255.out) hb); have n1_ := aM (xB (g := gb259) (o := .cells #[.int .i64 t256, .int .i64 t257] 27 (0, 0)) (by (with_reducible repeat (first|apply xN|apply xD|apply xA)); refine xF ?_ NB259_282.out _; (with_reducible repeat (first|apply xN|apply xD|apply xA)); refine xF ?_ NB259_282.out _; (with_reducible repeat (first|apply xN|apply xD|apply xA)); exact BK259.out) hb); have n2_ := aM (xB (g := gb265) (o := .cells #[.int .i64 t261, .int .i64 t262] 27 (0, 0)) (by (with_reducible repeat (first|apply xN|apply xD|apply xA)); refine xF ?_ NB265_282.out _; (with_reducible repeat (first|apply xN|apply xD|apply xA)); refine xF ?_ NB265_282.out _; (with_reducible repeat (first|apply xN|apply xD|apply xA)); exact BK265.out) hb); have n3_ := aM (xB (g := gb266) (o := .cells #[.int .i64 t263, .int .i64 t264] 27 (0, 0)) (by (with_reducible repeat (first|apply xN|apply xD|apply xA)); refine xF ?_ NB266_282.out _; (with_reducible repeat (first|apply xN|apply xD|apply xA)); refine xF ?_ NB266_282.out _; (with_reducible repeat (first|apply xN|apply xD|apply xA)); exact BK266.out) hb); have n4_ := aM (xB (g := gb270) (o := .cells #[.int .i64 t267, .int .i64 t268] 27 (0, 0)) (by (with_reducible repeat (first|apply xN|apply xD|apply xA)); refine xF ?_ NB270_282.out _; (with_reducible repeat (first|apply xN|apply xD|apply xA)); refine xF ?_ NB270_282.out _; (with_reducible repeat (first|apply xN|apply xD|apply xA)); exact BK270.out) hb); have n5_ := aM (xB (g := gb274) (o := .cells #[.int .i64 t271, .int .i64 t272] 27 (0, 0)) (by (with_reducible repeat (first|apply xN|apply xD|apply xA)); refine xF ?_ NB274_282.out _; (with_reducible repeat (first|apply xN|apply xD|apply xA)); refine xF ?_ NB274_282.out _; (with_reducible repeat (first|apply xN|apply xD|apply xA)); exact BK274.out) hb); have n6_ := aM (xB (g := gb278) (o := .cells #[.int .i64 t275, .int .i64 t276] 27 (0, 0)) (by (with_reducible repeat (first|apply xN|apply xD|apply xA)); refine xF ?_ NB278_282.out _; (with_reducible repeat (first|apply xN|apply xD|apply xA)); refine xF ?_ NB278_282.out _; (with_reducible repeat (first|apply xN|apply xD|apply xA)); exact BK278.out) hb); have n7_ := aM (xB (g := gb282) (o := .cells #[.int .i64 t279, .int .i64 t280] 27 (0, 0)) (by (with_reducible repeat (first|apply xN|apply xD|apply xA)); refine xP (cs := #[.int .i64 t279, .int .i64 0]) ?_ 1 _ rfl; (with_reducible repeat (first|apply xN|apply xD|apply xA)); refine xP (cs := #[.int .i64 0, .int .i64 0]) ?_ 0 _ rfl; (with_reducible repeat (first|apply xN|apply xD|apply xA)); exact BK282.out) hb); have n8_ := aM (below_step (by repeat (first | (with_reducible first | exact HB.out | apply yA | apply yN | apply yD | refine yS ?_ GE255.out | refine yS ?_ GE259.out | refine yS ?_ GE265.out | refine yS ?_ GE266.out | refine yS ?_ GE270.out | refine yS ?_ GE274.out | refine yS ?_ GE278.out | refine yS ?_ GE282.out) | exact HB.out)) hb); clear BK255; clear BK259; clear BK265; clear BK266; clear BK270; clear BK274; clear BK278; clear BK282; clear HB; have BK255 := n0_; have BK259 := n1_; have BK265 := n2_; have BK266 := n3_; have BK270 := n4_; have BK274 := n5_; have BK278 := n6_; have BK282 := n7_; have HB := n8_; clear n0_ n1_ n2_ n3_ n4_ n5_ n6_ n7_ n8_; (try clear hb); (try clear hk); (try clear hi)))
             go_meet
             case rel => exact ⟨_, (!t285), (by first | rfl | (simp; done) | (simp [*]; done)), H', ⟨by have := HJ15.out; first | omega | exact Nat.le_refl _⟩, ⟨by (with_reducible repeat (first|apply xN|apply xD|apply xA)); exact BK255.out⟩, ⟨by (with_reducible repeat (first|apply xN|apply xD|apply xA)); exact BK259.out⟩, ⟨by (with_reducible repeat (first|apply xN|apply xD|apply xA)); exact BK265.out⟩, ⟨by (with_reducible repeat (first|apply xN|apply xD|apply xA)); exact BK266.out⟩, ⟨by (with_reducible repeat (first|apply xN|apply xD|apply xA)); exact BK270.out⟩, ⟨by (with_reducible repeat (first|apply xN|apply xD|apply xA)); exact BK274.out⟩, ⟨by (with_reducible repeat (first|apply xN|apply xD|apply xA)); exact BK278.out⟩, ⟨by (with_reducible repeat (first|apply xN|apply xD|apply xA)); exact BK282.out⟩, ⟨by repeat (first | (with_reducible first | exact HB.out | apply yA | apply yN | apply yD | refine yS ?_ GE255.out | refine yS ?_ GE259.out | refine yS ?_ GE265.out | refine yS ?_ GE266.out | refine yS ?_ GE270.out | refine yS ?_ GE274.out | refine yS ?_ GE278.out | refine yS ?_ GE282.out) | exact HB.out)⟩⟩
            ·replace c240 := Bool.eq_false_iff.mpr c240
             subst c240
             replace H : (laws_FnRatios.j1 kj15 false false t261 t262 t263 t264 t267 t268) = some r := by rw [if_neg (show ¬ (false = true) by decide)] at H; exact H
             have H' := aM H
             clear H
             have hnb275 := NB270_282.out
             have hcz276_0 : w83.cell? ⟨gb270, 0, none⟩ = some (.int .i64 t267) := (xC BK270.out 0).trans rfl
             have hcz276_1 : w83.cell? ⟨gb270, 1, none⟩ = some (.int .i64 t268) := (xC BK270.out 1).trans rfl
             have hfz276_0 := xZ BK270.out 0
             have hfz276_1 := xZ BK270.out 1
             have hnb282 := NB274_282.out
             have hcz283_0 : w83.cell? ⟨gb274, 0, none⟩ = some (.int .i64 t271) := (xC BK274.out 0).trans rfl
             have hcz283_1 : w83.cell? ⟨gb274, 1, none⟩ = some (.int .i64 t272) := (xC BK274.out 1).trans rfl
             have hfz283_0 := xZ BK274.out 0
             have hfz283_1 := xZ BK274.out 1
             have hnb288 := NB278_282.out
             have hcz289_0 : w83.cell? ⟨gb278, 0, none⟩ = some (.int .i64 t275) := (xC BK278.out 0).trans rfl
             have hcz289_1 : w83.cell? ⟨gb278, 1, none⟩ = some (.int .i64 t276) := (xC BK278.out 1).trans rfl
             have hfz289_0 := xZ BK278.out 0
             have hfz289_1 := xZ BK278.out 1
             have hnb290 := NB282_255.out
             have hnb291 := NB282_259.out
             have hnb292 := NB282_265.out
             have hnb293 := NB282_266.out
             have hcz294_0 : w83.cell? ⟨gb282, 0, none⟩ = some (.int .i64 0) := (xC BK282.out 0).trans rfl
             have hcz294_1 : w83.cell? ⟨gb282, 1, none⟩ = some (.int .i64 0) := (xC BK282.out 1).trans rfl
             have hfz294_0 := xZ BK282.out 0
             have hfz294_1 := xZ BK282.out 1
             go_wp2
             go_meet
             case rel => exact ⟨_, (false), (by first | rfl | (simp; done) | (simp [*]; done)), H', ⟨by have := HJ15.out; first | omega | exact Nat.le_refl _⟩, ⟨by (with_reducible repeat (first|apply xN|apply xD|apply xA)); refine xF ?_ NB255_282.out _; (with_reducible repeat (first|apply xN|apply xD|apply xA)); refine xF ?_ NB255_282.out _; (with_reducible repeat (first|apply xN|apply xD|apply xA)); exact BK255.out⟩, ⟨by (with_reducible repeat (first|apply xN|apply xD|apply xA)); refine xF ?_ NB259_282.out _; (with_reducible repeat (first|apply xN|apply xD|apply xA)); refine xF ?_ NB259_282.out _; (with_reducible repeat (first|apply xN|apply xD|apply xA)); exact BK259.out⟩, ⟨by (with_reducible repeat (first|apply xN|apply xD|apply xA)); refine xF ?_ NB265_282.out _; (with_reducible repeat (first|apply xN|apply xD|apply xA)); refine xF ?_ NB265_282.out _; (with_reducible repeat (first|apply xN|apply xD|apply xA)); exact BK265.out⟩, ⟨by (with_reducible repeat (first|apply xN|apply xD|apply xA)); refine xF ?_ NB266_282.out _; (with_reducible repeat (first|apply xN|apply xD|apply xA)); refine xF ?_ NB266_282.out _; (with_reducible repeat (first|apply xN|apply xD|apply xA)); exact BK266.out⟩, ⟨by (with_reducible repeat (first|apply xN|apply xD|apply xA)); refine xF ?_ NB270_282.out _; (with_reducible repeat (first|apply xN|apply xD|apply xA)); refine xF ?_ NB270_282.out _; (with_reducible repeat (first|apply xN|apply xD|apply xA)); exact BK270.out⟩, ⟨by (with_reducible repeat (first|apply xN|apply xD|apply xA)); refine xF ?_ NB274_282.out _; (with_reducible repeat (first|apply xN|apply xD|apply xA)); refine xF ?_ NB274_282.out _; (with_reducible repeat (first|apply xN|apply xD|apply xA)); exact BK274.out⟩, ⟨by (with_reducible repeat (first|apply xN|apply xD|apply xA)); refine xF ?_ NB278_282.out _; (with_reducible repeat (first|apply xN|apply xD|apply xA)); refine xF ?_ NB278_282.out _; (with_reducible repeat (first|apply xN|apply xD|apply xA)); exact BK278.out⟩, ⟨by (with_reducible repeat (first|apply xN|apply xD|apply xA)); refine xP (cs := #[.int .i64 t279, .int .i64 0]) ?_ 1 _ rfl; (with_reducible repeat (first|apply xN|apply xD|apply xA)); refine xP (cs := #[.int .i64 0, .int .i64 0]) ?_ 0 _ rfl; (with_reducible repeat (first|apply xN|apply xD|apply xA)); exact BK282.out⟩, ⟨by repeat (first | (with_reducible first | exact HB.out | apply yA | apply yN | apply yD | refine yS ?_ GE255.out | refine yS ?_ GE259.out | refine yS ?_ GE265.out | refine yS ?_ GE266.out | refine yS ?_ GE270.out | refine yS ?_ GE274.out | refine yS ?_ GE278.out | refine yS ?_ GE282.out) | exact HB.out)⟩⟩
      case rest => as_aux_lemma =>
       clear HC41
       try clear c7
       try clear hcz48_0
       try clear hcz48_1
       try clear hcz51_0
       try clear hcz51_1
       try clear hcz58_0
       try clear hcz58_1
       try clear hcz59_0
       try clear hcz59_1
       try clear hcz60_0
       try clear hcz60_1
       try clear hcz68_0
       try clear hcz68_1
       try clear hcz69_0
       try clear hcz69_1
       try clear hcz70_0
       try clear hcz70_1
       try clear hcz79_0
       try clear hcz79_1
       try clear hcz80_0
       try clear hcz80_1
       try clear hcz81_0
       try clear hcz81_1
       try clear hcz91_0
       try clear hcz91_1
       try clear hfz48_0
       try clear hfz48_1
       try clear hfz51_0
       try clear hfz51_1
       try clear hfz58_0
       try clear hfz58_1
       try clear hfz59_0
       try clear hfz59_1
       try clear hfz60_0
       try clear hfz60_1
       try clear hfz68_0
       try clear hfz68_1
       try clear hfz69_0
       try clear hfz69_1
       try clear hfz70_0
       try clear hfz70_1
       try clear hfz79_0
       try clear hfz79_1
       try clear hfz80_0
       try clear hfz80_1
       try clear hfz81_0
       try clear hfz81_1
       try clear hfz91_0
       try clear hfz91_1
       obtain ⟨kq, x123_40, rfl, HA, HJ40, BK255, BK259, BK265, BK266, BK270, BK274, BK278, BK282, HB⟩ := hcut
       cases kq with
       | zero => exact absurd HA.out (by simp [laws_FnRatios.j1])
       | succ kj40 =>
        have H := HA.out
        clear HA
        simp only [laws_FnRatios.j1] at H
        by_cases c295 : x123_40 = true
        ·subst c295
         replace H : (some false) = some r := by rw [if_pos rfl] at H; exact H
         exact absurd (Option.some.inj H) (by rw [hr_]; decide)
        ·replace c295 := Bool.eq_false_iff.mpr c295
         subst c295
         replace H : (if t269 = true then ((impl_AddRatio.f kj40 t267 t268 (wrap64 (-t263)) t264).bind fun bt286 => (if bt286.2.2 = true then (if (!(bt286.1 == t261) || (!(bt286.2.1 == t262))) = true then (some false) else (laws_FnRatios.j2 kj40 t261 t262 t263 t264)) else (some false))) else (laws_FnRatios.j2 kj40 t261 t262 t263 t264)) = some r := by rw [if_neg (show ¬ (false = true) by decide)] at H; exact H
         have HC296 := aM H
         clear H
         go_upto_if 124 with (fail)
         go_cut [] (fun wc => ∃ (kq : Nat), Aside0 (laws_FnRatios.j2 kq t261 t262 t263 t264 = some r) ∧ Aside0 (kq ≤ kj40) ∧ Aside0 (wc.heap[gb255]? = some (.cells #[.int .i64 t252, .int .i64 t253] 27 (0, 0))) ∧ Aside0 (wc.heap[gb259]? = some (.cells #[.int .i64 t256, .int .i64 t257] 27 (0, 0))) ∧ Aside0 (wc.heap[gb265]? = some (.cells #[.int .i64 t261, .int .i64 t262] 27 (0, 0))) ∧ Aside0 (wc.heap[gb266]? = some (.cells #[.int .i64 t263, .int .i64 t264] 27 (0, 0))) ∧ Aside0 (wc.heap[gb270]? = some (.cells #[.int .i64 t267, .int .i64 t268] 27 (0, 0))) ∧ Aside0 (wc.heap[gb274]? = some (.cells #[.int .i64 t271, .int .i64 t272] 27 (0, 0))) ∧ Aside0 (wc.heap[gb278]? = some (.cells #[.int .i64 t275, .int .i64 t276] 27 (0, 0))) ∧ Aside0 (wc.heap[gb282]? = some (.cells #[.int .i64 t279, .int .i64 t280] 27 (0, 0))) ∧ Aside0 (Below w.heap.size w wc))
         case first => as_aux_lemma =>
          have H := HC296.out
          clear HC296
          by_cases c297 : t269 = true
          ·subst c297
           replace H : ((impl_AddRatio.f kj40 t267 t268 (wrap64 (-t263)) t264).bind fun bt286 => (if bt286.2.2 = true then (if (!(bt286.1 == t261) || (!(bt286.2.1 == t262))) = true then (some false) else (laws_FnRatios.j2 kj40 t261 t262 t263 t264)) else (some false))) = some r := by rw [if_pos rfl] at H; exact H
           replace H := Option.bind_eq_some_iff.mp H
           obtain ⟨⟨t286, t287, t288⟩, A2980, H⟩ := H
           replace H : (if t288 = true then (if (!(t286 == t261) || (!(t287 == t262))) = true then (some false) else (laws_FnRatios.j2 kj40 t261 t262 t263 t264)) else (some false)) = some r := H
           have A298 := aM A2980
           clear A2980
           by_cases c299 : t288 = true
           ·subst c299
            replace H : (if (!(t286 == t261) || (!(t287 == t262))) = true then (some false) else (laws_FnRatios.j2 kj40 t261 t262 t263 t264)) = some r := by rw [if_pos rfl] at H; exact H
            by_cases c300 : (!(t286 == t261) || (!(t287 == t262))) = true
            ·rw [if_pos c300] at H
             have c300b0 : (!(t286 == t261) || (!(t287 == t262))) = true := c300
             clear c300
             (first | rw [c300b0] | (simp only [i64_w, i32_w]; rw [c300b0]) | skip)
             exact absurd (Option.some.inj H) (by rw [hr_]; decide)
            ·rw [if_neg c300] at H
             have c300b0 : (!(t286 == t261) || (!(t287 == t262))) = false := by simpa using c300
             clear c300
             (first | rw [c300b0] | (simp only [i64_w, i32_w]; rw [c300b0]) | skip)
             have H' := aM H
             clear H
             have hcz340_0 : wc.cell? ⟨gb270, 0, none⟩ = some (.int .i64 t267) := (xC BK270.out 0).trans rfl
             have hcz340_1 : wc.cell? ⟨gb270, 1, none⟩ = some (.int .i64 t268) := (xC BK270.out 1).trans rfl
             have hfz340_0 := xZ BK270.out 0
             have hfz340_1 := xZ BK270.out 1
             have hcz347_0 : wc.cell? ⟨gb266, 0, none⟩ = some (.int .i64 t263) := (xC BK266.out 0).trans rfl
             have hcz347_1 : wc.cell? ⟨gb266, 1, none⟩ = some (.int .i64 t264) := (xC BK266.out 1).trans rfl
             have hfz347_0 := xZ BK266.out 0
             have hfz347_1 := xZ BK266.out 1
             go_wp2_with (first | ((with_reducible refine gate_callee (f := 10) rfl ?_); refine goesL_ (some 133) rfl rfl Tryd.func10 (by kernel_rfl) rfl #[.agg #[.int .i64 t267, .int .i64 t268], .agg #[.int .i64 (wrap64 (-t263)), .int .i64 t264]] rfl (by (try simp only [List.map_toArray, List.map_cons, List.map_nil]); first | done | rfl | (simp only [List.length_drop, List.length_take]; rfl)) ?_; (with_reducible refine (impl_AddRatio.calls kj40 t267 t268 (wrap64 (-t263)) t264 t286 t287 true _ A298.out).mono ?_); rintro e w348 ⟨rfl, hb⟩; refine ⟨_, rfl, ?_⟩; have n0_ := aM (xB (g := gb255) (o := .cells #[.int .i64 t252, .int .i64 t253] 27 (0, 0)) (by (with_reducible repeat (first|apply xN|apply xD|apply xA)); exact BK255.out) hb); have n1_ := aM (xB (g := gb259) (o := .cells #[.int .i64 t256, .int .i64 t257] 27 (0, 0)) (by (with_reducible repeat (first|apply xN|apply xD|apply xA)); exact BK259.out) hb); have n2_ := aM (xB (g := gb265) (o := .cells #[.int .i64 t261, .int .i64 t262] 27 (0, 0)) (by (with_reducible repeat (first|apply xN|apply xD|apply xA)); exact BK265.out) hb); have n3_ := aM (xB (g := gb266) (o := .cells #[.int .i64 t263, .int .i64 t264] 27 (0, 0)) (by (with_reducible repeat (first|apply xN|apply xD|apply xA)); exact BK266.out) hb); have n4_ := aM (xB (g := gb270) (o := .cells #[.int .i64 t267, .int .i64 t268] 27 (0, 0)) (by (with_reducible repeat (first|apply xN|apply xD|apply xA)); exact BK270.out) hb); have n5_ := aM (xB (g := gb274) (o := .cells #[.int .i64 t271, .int .i64 t272] 27 (0, 0)) (by (with_reducible repeat (first|apply xN|apply xD|apply xA)); exact BK274.out) hb); have n6_ := aM (xB (g := gb278) (o := .cells #[.int .i64 t275, .int .i64 t276] 27 (0, 0)) (by (with_reducible repeat (first|apply xN|apply xD|apply xA)); exact BK278.out) hb); have n7_ := aM (xB (g := gb282) (o := .cells #[.int .i64 t279, .int .i64 t280] 27 (0, 0)) (by (with_reducible repeat (first|apply xN|apply xD|apply xA)); exact BK282.out) hb); have n8_ := aM (below_step (by repeat (first | (with_reducible first | exact HB.out | apply yA | apply yN | apply yD | refine yS ?_ GE255.out | refine yS ?_ GE259.out | refine yS ?_ GE265.out | refine yS ?_ GE266.out | refine yS ?_ GE270.out | refine yS ?_ GE274.out | refine yS ?_ GE278.out | refine yS ?_ GE282.out) | exact HB.out)) hb); clear BK255; clear BK259; clear BK265; clear BK266; clear BK270; clear BK274; clear BK278; clear BK282; clear HB; have BK255 := n0_; have BK259 := n1_; have BK265 := n2_; have BK266 := n3_; have BK270 := n4_; have BK274 := n5_; have BK278 := n6_; have BK282 := n7_; have HB := n8_; clear n0_ n1_ n2_ n3_ n4_ n5_ n6_ n7_ n8_; (try clear hb); (try clear hk); (try clear hi)) | ((with_reducible refine gate_dst (N := 19) rfl ?_); refine box_event ?hg (N := 19) ?hd (cs := #[.int .i64 0, .int .i64 0]) (t := 27) ?hr ?_; (case hd => rfl); (case hg => rfl); (case hr => first | (go_simp; done) | (go_simp; rfl)); intro gb289 hg w349 hbox hb; have n0_ := aM (xB (g := gb255) (o := .cells #[.int .i64 t252, .int .i64 t253] 27 (0, 0)) (by (with_reducible repeat (first|apply xN|apply xD|apply xA)); exact BK255.out) hb); have n1_ := aM (xB (g := gb259) (o := .cells #[.int .i64 t256, .int .i64 t257] 27 (0, 0)) (by (with_reducible repeat (first|apply xN|apply xD|apply xA)); exact BK259.out) hb); have n2_ := aM (xB (g := gb265) (o := .cells #[.int .i64 t261, .int .i64 t262] 27 (0, 0)) (by (with_reducible repeat (first|apply xN|apply xD|apply xA)); exact BK265.out) hb); have n3_ := aM (xB (g := gb266) (o := .cells #[.int .i64 t263, .int .i64 t264] 27 (0, 0)) (by (with_reducible repeat (first|apply xN|apply xD|apply xA)); exact BK266.out) hb); have n4_ := aM (xB (g := gb270) (o := .cells #[.int .i64 t267, .int .i64 t268] 27 (0, 0)) (by (with_reducible repeat (first|apply xN|apply xD|apply xA)); exact BK270.out) hb); have n5_ := aM (xB (g := gb274) (o := .cells #[.int .i64 t271, .int .i64 t272] 27 (0, 0)) (by (with_reducible repeat (first|apply xN|apply xD|apply xA)); exact BK274.out) hb); have n6_ := aM (xB (g := gb278) (o := .cells #[.int .i64 t275, .int .i64 t276] 27 (0, 0)) (by (with_reducible repeat (first|apply xN|apply xD|apply xA)); exact BK278.out) hb); have n7_ := aM (xB (g := gb282) (o := .cells #[.int .i64 t279, .int .i64 t280] 27 (0, 0)) (by (with_reducible repeat (first|apply xN|apply xD|apply xA)); exact BK282.out) hb); have n8_ := aM (below_step (by repeat (first | (with_reducible first | exact HB.out | apply yA | apply yN | apply yD | refine yS ?_ GE255.out | refine yS ?_ GE259.out | refine yS ?_ GE265.out | refine yS ?_ GE266.out | refine yS ?_ GE270.out | refine yS ?_ GE274.out | refine yS ?_ GE278.out | refine yS ?_ GE282.out) | exact HB.out)) hb); have n9_ := aM (hbox); have n10_ := aM ((by rw [hg]; exact (below_size (by repeat (first | (with_reducible first | exact HB.out | apply yA | apply yN | apply yD | refine yS ?_ GE255.out | refine yS ?_ GE259.out | refine yS ?_ GE265.out | refine yS ?_ GE266.out | refine yS ?_ GE270.out | refine yS ?_ GE274.out | refine yS ?_ GE278.out | refine yS ?_ GE282.out) | exact HB.out))) : w.heap.size ≤ gb289)); have n11_ := aM ((by rw [hg]; exact (below_size (by repeat (first | (with_reducible first | exact HB.out | apply yA | apply yN | apply yD | refine yS ?_ GE255.out | refine yS ?_ GE259.out | refine yS ?_ GE265.out | refine yS ?_ GE266.out | refine yS ?_ GE270.out | refine yS ?_ GE274.out | refine yS ?_ GE278.out | refine yS ?_ GE282.out) | exact HB.out))) : w.heap.size ≤ gb289)); have n12_ := aM ((by rw [hg]; exact nL (xL (g := gb255) (o := .cells #[.int .i64 t252, .int .i64 t253] 27 (0, 0)) (by (with_reducible repeat (first|apply xN|apply xD|apply xA)); exact BK255.out)) : gb255 ≠ gb289)); have n13_ := aM ((by rw [hg]; exact nG (xL (g := gb255) (o := .cells #[.int .i64 t252, .int .i64 t253] 27 (0, 0)) (by (with_reducible repeat (first|apply xN|apply xD|apply xA)); exact BK255.out)) : gb289 ≠ gb255)); have n14_ := aM ((by rw [hg]; exact nL (xL (g := gb259) (o := .cells #[.int .i64 t256, .int .i64 t257] 27 (0, 0)) (by (with_reducible repeat (first|apply xN|apply xD|apply xA)); exact BK259.out)) : gb259 ≠ gb289)); have n15_ := aM ((by rw [hg]; exact nG (xL (g := gb259) (o := .cells #[.int .i64 t256, .int .i64 t257] 27 (0, 0)) (by (with_reducible repeat (first|apply xN|apply xD|apply xA)); exact BK259.out)) : gb289 ≠ gb259)); have n16_ := aM ((by rw [hg]; exact nL (xL (g := gb265) (o := .cells #[.int .i64 t261, .int .i64 t262] 27 (0, 0)) (by (with_reducible repeat (first|apply xN|apply xD|apply xA)); exact BK265.out)) : gb265 ≠ gb289)); have n17_ := aM ((by rw [hg]; exact nG (xL (g := gb265) (o := .cells #[.int .i64 t261, .int .i64 t262] 27 (0, 0)) (by (with_reducible repeat (first|apply xN|apply xD|apply xA)); exact BK265.out)) : gb289 ≠ gb265)); have n18_ := aM ((by rw [hg]; exact nL (xL (g := gb266) (o := .cells #[.int .i64 t263, .int .i64 t264] 27 (0, 0)) (by (with_reducible repeat (first|apply xN|apply xD|apply xA)); exact BK266.out)) : gb266 ≠ gb289)); have n19_ := aM ((by rw [hg]; exact nG (xL (g := gb266) (o := .cells #[.int .i64 t263, .int .i64 t264] 27 (0, 0)) (by (with_reducible repeat (first|apply xN|apply xD|apply xA)); exact BK266.out)) : gb289 ≠ gb266)); have n20_ := aM ((by rw [hg]; exact nL (xL (g := gb270) (o := .cells #[.int .i64 t267, .int .i64 t268] 27 (0, 0)) (by (with_reducible repeat (first|apply xN|apply xD|apply xA)); exact BK270.out)) : gb270 ≠ gb289)); have n21_ := aM ((by rw [hg]; exact nG (xL (g := gb270) (o := .cells #[.int .i64 t267, .int .i64 t268] 27 (0, 0)) (by (with_reducible repeat (first|apply xN|apply xD|apply xA)); exact BK270.out)) : gb289 ≠ gb270)); have n22_ := aM ((by rw [hg]; exact nL (xL (g := gb274) (o := .cells #[.int .i64 t271, .int .i64 t272] 27 (0, 0)) (by (with_reducible repeat (first|apply xN|apply xD|apply xA)); exact BK274.out)) : gb274 ≠ gb289)); have n23_ := aM ((by rw [hg]; exact nG (xL (g := gb274) (o := .cells #[.int .i64 t271, .int .i64 t272] 27 (0, 0)) (by (with_reducible repeat (first|apply xN|apply xD|apply xA)); exact BK274.out)) : gb289 ≠ gb274)); have n24_ := aM ((by rw [hg]; exact nL (xL (g := gb278) (o := .cells #[.int .i64 t275, .int .i64 t276] 27 (0, 0)) (by (with_reducible repeat (first|apply xN|apply xD|apply xA)); exact BK278.out)) : gb278 ≠ gb289)); have n25_ := aM ((by rw [hg]; exact nG (xL (g := gb278) (o := .cells #[.int .i64 t275, .int .i64 t276] 27 (0, 0)) (by (with_reducible repeat (first|apply xN|apply xD|apply xA)); exact BK278.out)) : gb289 ≠ gb278)); have n26_ := aM ((by rw [hg]; exact nL (xL (g := gb282) (o := .cells #[.int .i64 t279, .int .i64 t280] 27 (0, 0)) (by (with_reducible repeat (first|apply xN|apply xD|apply xA)); exact BK282.out)) : gb282 ≠ gb289)); have n27_ := aM ((by rw [hg]; exact nG (xL (g := gb282) (o := .cells #[.int .i64 t279, .int .i64 t280] 27 (0, 0)) (by (with_reducible repeat (first|apply xN|apply xD|apply xA)); exact BK282.out)) : gb289 ≠ gb282)); clear BK255; clear BK259; clear BK265; clear BK266; clear BK270; clear BK274; clear BK278; clear BK282; clear HB; have BK255 := n0_; have BK259 := n1_; have BK265 := n2_; have BK266 := n3_; have BK270 := n4_; have BK274 := n5_; have BK278 := n6_; have BK282 := n7_; have HB := n8_; have BK289 := n9_; have GW289 := n10_; have GE289 := n11_; have NB255_289 := n12_; have NB289_255 := n13_; have NB259_289 := n14_; have NB289_259 := n15_; have NB265_289 := n16_; have NB289_265 := n17_; have NB266_289 := n18_; have NB289_266 := n19_; have NB270_289 := n20_; have NB289_270 := n21_; have NB274_289 := n22_; have NB289_274 := n23_; have NB278_289 := n24_; have NB289_278 := n25_; have NB282_289 := n26_; have NB289_282 := n27_; clear n0_ n1_ n2_ n3_ n4_ n5_ n6_ n7_ n8_ n9_ n10_ n11_ n12_ n13_ n14_ n15_ n16_ n17_ n18_ n19_ n20_ n21_ n22_ n23_ n24_ n25_ n26_ n27_; clear hb hbox hg; have hnb350 := NB289_255.out; have hnc350 := NB255_289.out; have hnb351 := NB289_259.out; have hnc351 := NB259_289.out; have hnb352 := NB289_265.out; have hnc352 := NB265_289.out; have hnb353 := NB289_266.out; have hnc353 := NB266_289.out; have hnb354 := NB289_270.out; have hnc354 := NB270_289.out; have hnb355 := NB289_274.out; have hnc355 := NB274_289.out; have hnb356 := NB289_278.out; have hnc356 := NB278_289.out; have hnb357 := NB289_282.out; have hnc357 := NB282_289.out; have hcz358_0 : w349.cell? ⟨gb289, 0, none⟩ = some (.int .i64 0) := (xC BK289.out 0).trans rfl; have hcz358_1 : w349.cell? ⟨gb289, 1, none⟩ = some (.int .i64 0) := (xC BK289.out 1).trans rfl; have hfz358_0 := xZ BK289.out 0; have hfz358_1 := xZ BK289.out 1; have hnb359 := NB265_255.out; have hnc359 := NB255_265.out; have hnb360 := NB265_259.out; have hnc360 := NB259_265.out; have hnb361 := NB265_274.out; have hnc361 := NB274_265.out; have hnb362 := NB265_278.out; have hnc362 := NB278_265.out; have hnb363 := NB265_282.out; have hnc363 := NB282_265.out; have hcz364_0 : w349.cell? ⟨gb265, 0, none⟩ = some (.int .i64 t261) := (xC BK265.out 0).trans rfl; have hcz364_1 : w349.cell? ⟨gb265, 1, none⟩ = some (.int .i64 t262) := (xC BK265.out 1).trans rfl; have hfz364_0 := xZ BK265.out 0; have hfz364_1 := xZ BK265.out 1))
             go_meet
             case rel => exact ⟨_, H', ⟨by have := HJ15.out; have := HJ40.out; first | omega | exact Nat.le_refl _⟩, ⟨by (with_reducible repeat (first|apply xN|apply xD|apply xA)); refine xF ?_ NB255_289.out _; (with_reducible repeat (first|apply xN|apply xD|apply xA)); refine xF ?_ NB255_289.out _; (with_reducible repeat (first|apply xN|apply xD|apply xA)); exact BK255.out⟩, ⟨by (with_reducible repeat (first|apply xN|apply xD|apply xA)); refine xF ?_ NB259_289.out _; (with_reducible repeat (first|apply xN|apply xD|apply xA)); refine xF ?_ NB259_289.out _; (with_reducible repeat (first|apply xN|apply xD|apply xA)); exact BK259.out⟩, ⟨by (with_reducible repeat (first|apply xN|apply xD|apply xA)); refine xF ?_ NB265_289.out _; (with_reducible repeat (first|apply xN|apply xD|apply xA)); refine xF ?_ NB265_289.out _; (with_reducible repeat (first|apply xN|apply xD|apply xA)); exact BK265.out⟩, ⟨by (with_reducible repeat (first|apply xN|apply xD|apply xA)); refine xF ?_ NB266_289.out _; (with_reducible repeat (first|apply xN|apply xD|apply xA)); refine xF ?_ NB266_289.out _; (with_reducible repeat (first|apply xN|apply xD|apply xA)); exact BK266.out⟩, ⟨by (with_reducible repeat (first|apply xN|apply xD|apply xA)); refine xF ?_ NB270_289.out _; (with_reducible repeat (first|apply xN|apply xD|apply xA)); refine xF ?_ NB270_289.out _; (with_reducible repeat (first|apply xN|apply xD|apply xA)); exact BK270.out⟩, ⟨by (with_reducible repeat (first|apply xN|apply xD|apply xA)); refine xF ?_ NB274_289.out _; (with_reducible repeat (first|apply xN|apply xD|apply xA)); refine xF ?_ NB274_289.out _; (with_reducible repeat (first|apply xN|apply xD|apply xA)); exact BK274.out⟩, ⟨by (with_reducible repeat (first|apply xN|apply xD|apply xA)); refine xF ?_ NB278_289.out _; (with_reducible repeat (first|apply xN|apply xD|apply xA)); refine xF ?_ NB278_289.out _; (with_reducible repeat (first|apply xN|apply xD|apply xA)); exact BK278.out⟩, ⟨by (with_reducible repeat (first|apply xN|apply xD|apply xA)); refine xF ?_ NB282_289.out _; (with_reducible repeat (first|apply xN|apply xD|apply xA)); refine xF ?_ NB282_289.out _; (with_reducible repeat (first|apply xN|apply xD|apply xA)); exact BK282.out⟩, ⟨by repeat (first | (with_reducible first | exact HB.out | apply yA | apply yN | apply yD | refine yS ?_ GE255.out | refine yS ?_ GE259.out | refine yS ?_ GE265.out | refine yS ?_ GE266.out | refine yS ?_ GE270.out | refine yS ?_ GE274.out | refine yS ?_ GE278.out | refine yS ?_ GE282.out | refine yS ?_ GE289.out) | exact HB.out)⟩⟩
           ·replace c299 := Bool.eq_false_iff.mpr c299
            subst c299
            replace H : (some false) = some r := by rw [if_neg (show ¬ (false = true) by decide)] at H; exact H
            exact absurd (Option.some.inj H) (by rw [hr_]; decide)
          ·replace c297 := Bool.eq_false_iff.mpr c297
           subst c297
           replace H : (laws_FnRatios.j2 kj40 t261 t262 t263 t264) = some r := by rw [if_neg (show ¬ (false = true) by decide)] at H; exact H
           have H' := aM H
           clear H
           go_wp2
           go_meet
           case rel => exact ⟨_, H', ⟨by have := HJ15.out; have := HJ40.out; first | omega | exact Nat.le_refl _⟩, ⟨by (with_reducible repeat (first|apply xN|apply xD|apply xA)); exact BK255.out⟩, ⟨by (with_reducible repeat (first|apply xN|apply xD|apply xA)); exact BK259.out⟩, ⟨by (with_reducible repeat (first|apply xN|apply xD|apply xA)); exact BK265.out⟩, ⟨by (with_reducible repeat (first|apply xN|apply xD|apply xA)); exact BK266.out⟩, ⟨by (with_reducible repeat (first|apply xN|apply xD|apply xA)); exact BK270.out⟩, ⟨by (with_reducible repeat (first|apply xN|apply xD|apply xA)); exact BK274.out⟩, ⟨by (with_reducible repeat (first|apply xN|apply xD|apply xA)); exact BK278.out⟩, ⟨by (with_reducible repeat (first|apply xN|apply xD|apply xA)); exact BK282.out⟩, ⟨by repeat (first | (with_reducible first | exact HB.out | apply yA | apply yN | apply yD | refine yS ?_ GE255.out | refine yS ?_ GE259.out | refine yS ?_ GE265.out | refine yS ?_ GE266.out | refine yS ?_ GE270.out | refine yS ?_ GE274.out | refine yS ?_ GE278.out | refine yS ?_ GE282.out) | exact HB.out)⟩⟩
         case rest => as_aux_lemma =>
          clear HC296
          try clear c3
          try clear c7
          try clear c35
          try clear c295
          try clear hcz48_0
          try clear hcz48_1
          try clear hcz51_0
          try clear hcz51_1
          try clear hcz58_0
          try clear hcz58_1
          try clear hcz59_0
          try clear hcz59_1
          try clear hcz60_0
          try clear hcz60_1
          try clear hcz68_0
          try clear hcz68_1
          try clear hcz69_0
          try clear hcz69_1
          try clear hcz70_0
          try clear hcz70_1
          try clear hcz79_0
          try clear hcz79_1
          try clear hcz80_0
          try clear hcz80_1
          try clear hcz81_0
          try clear hcz81_1
          try clear hcz91_0
          try clear hcz91_1
          try clear hfz48_0
          try clear hfz48_1
          try clear hfz51_0
          try clear hfz51_1
          try clear hfz58_0
          try clear hfz58_1
          try clear hfz59_0
          try clear hfz59_1
          try clear hfz60_0
          try clear hfz60_1
          try clear hfz68_0
          try clear hfz68_1
          try clear hfz69_0
          try clear hfz69_1
          try clear hfz70_0
          try clear hfz70_1
          try clear hfz79_0
          try clear hfz79_1
          try clear hfz80_0
          try clear hfz80_1
          try clear hfz81_0
          try clear hfz81_1
          try clear hfz91_0
          try clear hfz91_1
          obtain ⟨kq, HA, HJ295, BK255, BK259, BK265, BK266, BK270, BK274, BK278, BK282, HB⟩ := hcut
          cases kq with
          | zero => exact absurd HA.out (by simp [laws_FnRatios.j2])
          | succ kj295 =>
           have H := HA.out
           clear HA
           simp only [laws_FnRatios.j2] at H
           have HC391 := aM H
           clear H
           go_upto_region 21 with (fail)
           go_cut [162] (fun v162 wc => ∃ (kq : Nat) (x162_390 : Bool), v162 = .bool x162_390 ∧ Aside0 (laws_FnRatios.j3 kq x162_390 t261 t262 = some r) ∧ Aside0 (kq ≤ kj295) ∧ Aside0 (wc.heap[gb255]? = some (.cells #[.int .i64 t252, .int .i64 t253] 27 (0, 0))) ∧ Aside0 (wc.heap[gb259]? = some (.cells #[.int .i64 t256, .int .i64 t257] 27 (0, 0))) ∧ Aside0 (wc.heap[gb265]? = some (.cells #[.int .i64 t261, .int .i64 t262] 27 (0, 0))) ∧ Aside0 (wc.heap[gb266]? = some (.cells #[.int .i64 t263, .int .i64 t264] 27 (0, 0))) ∧ Aside0 (wc.heap[gb270]? = some (.cells #[.int .i64 t267, .int .i64 t268] 27 (0, 0))) ∧ Aside0 (wc.heap[gb274]? = some (.cells #[.int .i64 t271, .int .i64 t272] 27 (0, 0))) ∧ Aside0 (wc.heap[gb278]? = some (.cells #[.int .i64 t275, .int .i64 t276] 27 (0, 0))) ∧ Aside0 (wc.heap[gb282]? = some (.cells #[.int .i64 t279, .int .i64 t280] 27 (0, 0))) ∧ Aside0 (Below w.heap.size w wc))
           case first => as_aux_lemma =>
            have H := HC391.out
            clear HC391
            replace H := Option.bind_eq_some_iff.mp H
            obtain ⟨t290, A3920, H⟩ := H
            replace H : (if t290 = true then ((impl_IsRatio.f kj295 t263 t264).bind fun t291 => (if t291 = true then ((impl_LessRatio.f kj295 t261 t262 t263 t264).bind fun t292 => ((impl_LessRatio.f kj295 t263 t264 t261 t262).bind fun t293 => (if t293 = true then (laws_FnRatios.j3 kj295 (t292 == true) t261 t262) else (laws_FnRatios.j3 kj295 (t292 == (t261 == t263 && (t262 == t264))) t261 t262)))) else (laws_FnRatios.j3 kj295 false t261 t262))) else (laws_FnRatios.j3 kj295 false t261 t262)) = some r := H
            have A392 := aM A3920
            clear A3920
            by_cases c393 : t290 = true
            ·subst c393
             replace H : ((impl_IsRatio.f kj295 t263 t264).bind fun t291 => (if t291 = true then ((impl_LessRatio.f kj295 t261 t262 t263 t264).bind fun t292 => ((impl_LessRatio.f kj295 t263 t264 t261 t262).bind fun t293 => (if t293 = true then (laws_FnRatios.j3 kj295 (t292 == true) t261 t262) else (laws_FnRatios.j3 kj295 (t292 == (t261 == t263 && (t262 == t264))) t261 t262)))) else (laws_FnRatios.j3 kj295 false t261 t262))) = some r := by rw [if_pos rfl] at H; exact H
             replace H := Option.bind_eq_some_iff.mp H
             obtain ⟨t291, A3940, H⟩ := H
             replace H : (if t291 = true then ((impl_LessRatio.f kj295 t261 t262 t263 t264).bind fun t292 => ((impl_LessRatio.f kj295 t263 t264 t261 t262).bind fun t293 => (if t293 = true then (laws_FnRatios.j3 kj295 (t292 == true) t261 t262) else (laws_FnRatios.j3 kj295 (t292 == (t261 == t263 && (t262 == t264))) t261 t262)))) else (laws_FnRatios.j3 kj295 false t261 t262)) = some r := H
             have A394 := aM A3940
             clear A3940
             by_cases c395 : t291 = true
             ·subst c395
              replace H : ((impl_LessRatio.f kj295 t261 t262 t263 t264).bind fun t292 => ((impl_LessRatio.f kj295 t263 t264 t261 t262).bind fun t293 => (if t293 = true then (laws_FnRatios.j3 kj295 (t292 == true) t261 t262) else (laws_FnRatios.j3 kj295 (t292 == (t261 == t263 && (t262 == t264))) t261 t262)))) = some r := by rw [if_pos rfl] at H; exact H
              replace H := Option.bind_eq_some_iff.mp H
              obtain ⟨t292, A3960, H⟩ := H
              replace H : ((impl_LessRatio.f kj295 t263 t264 t261 t262).bind fun t293 => (if t293 = true then (laws_FnRatios.j3 kj295 (t292 == true) t261 t262) else (laws_FnRatios.j3 kj295 (t292 == (t261 == t263 && (t262 == t264))) t261 t262))) = some r := H
              have A396 := aM A3960
              clear A3960
              replace H := Option.bind_eq_some_iff.mp H
              obtain ⟨t293, A3970, H⟩ := H
              replace H : (if t293 = true then (laws_FnRatios.j3 kj295 (t292 == true) t261 t262) else (laws_FnRatios.j3 kj295 (t292 == (t261 == t263 && (t262 == t264))) t261 t262)) = some r := H
              have A397 := aM A3970
              clear A3970
              by_cases c398 : t293 = true
              ·subst c398
               replace H : (laws_FnRatios.j3 kj295 (t292 == true) t261 t262) = some r := by rw [if_pos rfl] at H; exact H
               have H' := aM H
               clear H
               try go_wp2
               have n0_ := aM (xD BK255.out)
               have n1_ := aM (xD BK259.out)
               have n2_ := aM (xD BK265.out)
               have n3_ := aM (xD BK266.out)
               have n4_ := aM (xD BK270.out)
               have n5_ := aM (xD BK274.out)
               have n6_ := aM (xD BK278.out)
               have n7_ := aM (xD BK282.out)
               have n8_ := aM (yD HB.out)
               clear BK255
               clear BK259
               clear BK265
               clear BK266
               clear BK270
               clear BK274
               clear BK278
               clear BK282
               clear HB
               have BK255 := n0_
               have BK259 := n1_
               have BK265 := n2_
               have BK266 := n3_
               have BK270 := n4_
               have BK274 := n5_
               have BK278 := n6_
               have BK282 := n7_
               have HB := n8_
               clear n0_ n1_ n2_ n3_ n4_ n5_ n6_ n7_ n8_
               refine start_ (n := 20) (S := fun w' => w'.cell? ⟨gb265, 0, none⟩ = some (.int .i64 t261) ∧ w'.cell? ⟨gb265, 1, none⟩ = some (.int .i64 t262) ∧ w'.cell? ⟨gb266, 0, none⟩ = some (.int .i64 t263) ∧ w'.cell? ⟨gb266, 1, none⟩ = some (.int .i64 t264)) (ds := []) #[false, false, false, false, false, false, false, false, false, false, false, false, false, false, false, false, false, false, false, false] (by kernel_rfl) rfl rfl ⟨(xC BK265.out 0).trans rfl, (xC BK265.out 1).trans rfl, (xC BK266.out 0).trans rfl, (xC BK266.out 1).trans rfl⟩ (fun hHeld => ?_); refine with_tabW laws_FnRatios.tab21 laws_FnRatios.bits21 (fun HT_ HW_ => ?_)
               generalize wc.drew = w399 at BK255 BK259 BK265 BK266 BK270 BK274 BK278 BK282 HB hHeld ⊢
               refine take_ (i := 0) (N := some 143) (v := ?_) (a' := ?_) #[true, false, false, false, false, false, false, false, false, false, false, false, false, false, false, false, false, false, false, false] rfl rfl (take_ofW HT_.out HW_.out (by kernel_rfl)) (fun _ _ _ h => h) (Or.inl ⟨by rfl, ?_⟩) hHeld ?_ ?_
               rotate_left
               ·rintro w' ⟨s0, s1, s2, s3⟩
                go_simp
                with_reducible rfl
               rotate_left
               ·simp only [Act.put, List.setIfInBounds_toArray, List.set_cons_zero, List.set_cons_succ, i64_w, i32_w]
                rfl
               refine one_ (i := 1) (N := some 144) #[true, true, false, false, false, false, false, false, false, false, false, false, false, false, false, false, false, false, false, false] rfl rfl (one_of HT_.out (by kernel_rfl)) (by decide) (fun K hK => ?_)
               refine goes_ Tryd.func8 (by kernel_rfl) rfl #[.agg #[.int .i64 t261, .int .i64 t262]] (by rfl) rfl rfl (by (try simp only [List.map_toArray, List.map_cons, List.map_nil]); first | done | rfl | (simp only [List.length_drop, List.length_take]; rfl)) ?_
               with_reducible refine (impl_IsRatio.calls kj295 t261 t262 true _ A392.out).mono ?_
               rintro e w400 ⟨rfl, hb⟩
               refine ⟨_, rfl, ?_⟩
               have n0_ := aM (xB (g := gb255) (o := .cells #[.int .i64 t252, .int .i64 t253] 27 (0, 0)) (by (with_reducible repeat (first|apply xN|apply xD|apply xA)); exact BK255.out) hb)
               have n1_ := aM (xB (g := gb259) (o := .cells #[.int .i64 t256, .int .i64 t257] 27 (0, 0)) (by (with_reducible repeat (first|apply xN|apply xD|apply xA)); exact BK259.out) hb)
               have n2_ := aM (xB (g := gb265) (o := .cells #[.int .i64 t261, .int .i64 t262] 27 (0, 0)) (by (with_reducible repeat (first|apply xN|apply xD|apply xA)); exact BK265.out) hb)
               have n3_ := aM (xB (g := gb266) (o := .cells #[.int .i64 t263, .int .i64 t264] 27 (0, 0)) (by (with_reducible repeat (first|apply xN|apply xD|apply xA)); exact BK266.out) hb)
               have n4_ := aM (xB (g := gb270) (o := .cells #[.int .i64 t267, .int .i64 t268] 27 (0, 0)) (by (with_reducible repeat (first|apply xN|apply xD|apply xA)); exact BK270.out) hb)
               have n5_ := aM (xB (g := gb274) (o := .cells #[.int .i64 t271, .int .i64 t272] 27 (0, 0)) (by (with_reducible repeat (first|apply xN|apply xD|apply xA)); exact BK274.out) hb)
               have n6_ := aM (xB (g := gb278) (o := .cells #[.int .i64 t275, .int .i64 t276] 27 (0, 0)) (by (with_reducible repeat (first|apply xN|apply xD|apply xA)); exact BK278.out) hb)
               have n7_ := aM (xB (g := gb282) (o := .cells #[.int .i64 t279, .int .i64 t280] 27 (0, 0)) (by (with_reducible repeat (first|apply xN|apply xD|apply xA)); exact BK282.out) hb)
               have n8_ := aM (below_step (by repeat (first | (with_reducible first | exact HB.out | apply yA | apply yN | apply yD | refine yS ?_ GE255.out | refine yS ?_ GE259.out | refine yS ?_ GE265.out | refine yS ?_ GE266.out | refine yS ?_ GE270.out | refine yS ?_ GE274.out | refine yS ?_ GE278.out | refine yS ?_ GE282.out) | exact HB.out)) hb)
               clear BK255
               clear BK259
               clear BK265
               clear BK266
               clear BK270
               clear BK274
               clear BK278
               clear BK282
               clear HB
               have BK255 := n0_
               have BK259 := n1_
               have BK265 := n2_
               have BK266 := n3_
               have BK270 := n4_
               have BK274 := n5_
               have BK278 := n6_
               have BK282 := n7_
               have HB := n8_
               clear n0_ n1_ n2_ n3_ n4_ n5_ n6_ n7_ n8_
               (try clear hb)
               (try clear hk)
               refine hK.out _ _ ⟨(xC BK265.out 0).trans rfl, (xC BK265.out 1).trans rfl, (xC BK266.out 0).trans rfl, (xC BK266.out 1).trans rfl⟩ (fun hHeld => ?_)
               clear hK K
               refine norm_ (a' := ?_) ?_ ?_
               rotate_left
               ·show Act.put _ (some 144) _ = _
                simp only [Act.put, List.setIfInBounds_toArray, List.set_cons_zero, List.set_cons_succ, i64_w, i32_w]
                rfl
               refine pure_ (i := 2) (N := some 145) (v := ?_) (a' := ?_) #[true, true, true, false, false, false, false, false, false, false, false, false, false, false, false, false, false, false, false, false] rfl rfl (any_of HT_.out (by kernel_rfl)) (fun _ _ _ h => h) (Or.inl ⟨by rfl, ?_⟩) ?_ ?_
               rotate_left
               ·intro w'
                go_simp
                with_reducible rfl
               rotate_left
               ·simp only [Act.put, List.setIfInBounds_toArray, List.set_cons_zero, List.set_cons_succ, i64_w, i32_w]
                rfl
               refine take_ (i := 3) (N := some 146) (v := ?_) (a' := ?_) #[true, true, true, true, false, false, false, false, false, false, false, false, false, false, false, false, false, false, false, false] rfl rfl (take_ofW HT_.out HW_.out (by kernel_rfl)) (fun _ _ _ h => h) (Or.inl ⟨by rfl, ?_⟩) hHeld ?_ ?_
               rotate_left
               ·rintro w' ⟨s0, s1, s2, s3⟩
                go_simp
                with_reducible rfl
               rotate_left
               ·simp only [Act.put, List.setIfInBounds_toArray, List.set_cons_zero, List.set_cons_succ, i64_w, i32_w]
                rfl
               refine one_ (i := 4) (N := some 147) #[true, true, true, true, true, false, false, false, false, false, false, false, false, false, false, false, false, false, false, false] rfl rfl (one_of HT_.out (by kernel_rfl)) (by decide) (fun K hK => ?_)
               refine goes_ Tryd.func8 (by kernel_rfl) rfl #[.agg #[.int .i64 t263, .int .i64 t264]] (by rfl) rfl rfl (by (try simp only [List.map_toArray, List.map_cons, List.map_nil]); first | done | rfl | (simp only [List.length_drop, List.length_take]; rfl)) ?_
               with_reducible refine (impl_IsRatio.calls kj295 t263 t264 true _ A394.out).mono ?_
               rintro e w401 ⟨rfl, hb⟩
               refine ⟨_, rfl, ?_⟩
               have n0_ := aM (xB (g := gb255) (o := .cells #[.int .i64 t252, .int .i64 t253] 27 (0, 0)) (by (with_reducible repeat (first|apply xN|apply xD|apply xA)); exact BK255.out) hb)
               have n1_ := aM (xB (g := gb259) (o := .cells #[.int .i64 t256, .int .i64 t257] 27 (0, 0)) (by (with_reducible repeat (first|apply xN|apply xD|apply xA)); exact BK259.out) hb)
               have n2_ := aM (xB (g := gb265) (o := .cells #[.int .i64 t261, .int .i64 t262] 27 (0, 0)) (by (with_reducible repeat (first|apply xN|apply xD|apply xA)); exact BK265.out) hb)
               have n3_ := aM (xB (g := gb266) (o := .cells #[.int .i64 t263, .int .i64 t264] 27 (0, 0)) (by (with_reducible repeat (first|apply xN|apply xD|apply xA)); exact BK266.out) hb)
               have n4_ := aM (xB (g := gb270) (o := .cells #[.int .i64 t267, .int .i64 t268] 27 (0, 0)) (by (with_reducible repeat (first|apply xN|apply xD|apply xA)); exact BK270.out) hb)
               have n5_ := aM (xB (g := gb274) (o := .cells #[.int .i64 t271, .int .i64 t272] 27 (0, 0)) (by (with_reducible repeat (first|apply xN|apply xD|apply xA)); exact BK274.out) hb)
               have n6_ := aM (xB (g := gb278) (o := .cells #[.int .i64 t275, .int .i64 t276] 27 (0, 0)) (by (with_reducible repeat (first|apply xN|apply xD|apply xA)); exact BK278.out) hb)
               have n7_ := aM (xB (g := gb282) (o := .cells #[.int .i64 t279, .int .i64 t280] 27 (0, 0)) (by (with_reducible repeat (first|apply xN|apply xD|apply xA)); exact BK282.out) hb)
               have n8_ := aM (below_step (by repeat (first | (with_reducible first | exact HB.out | apply yA | apply yN | apply yD | refine yS ?_ GE255.out | refine yS ?_ GE259.out | refine yS ?_ GE265.out | refine yS ?_ GE266.out | refine yS ?_ GE270.out | refine yS ?_ GE274.out | refine yS ?_ GE278.out | refine yS ?_ GE282.out) | exact HB.out)) hb)
               clear BK255
               clear BK259
               clear BK265
               clear BK266
               clear BK270
               clear BK274
               clear BK278
               clear BK282
               clear HB
               have BK255 := n0_
               have BK259 := n1_
               have BK265 := n2_
               have BK266 := n3_
               have BK270 := n4_
               have BK274 := n5_
               have BK278 := n6_
               have BK282 := n7_
               have HB := n8_
               clear n0_ n1_ n2_ n3_ n4_ n5_ n6_ n7_ n8_
               (try clear hb)
               (try clear hk)
               refine hK.out _ _ ⟨(xC BK265.out 0).trans rfl, (xC BK265.out 1).trans rfl, (xC BK266.out 0).trans rfl, (xC BK266.out 1).trans rfl⟩ (fun hHeld => ?_)
               clear hK K
               refine norm_ (a' := ?_) ?_ ?_
               rotate_left
               ·show Act.put _ (some 147) _ = _
                simp only [Act.put, List.setIfInBounds_toArray, List.set_cons_zero, List.set_cons_succ, i64_w, i32_w]
                rfl
               refine pure_ (i := 5) (N := some 148) (v := ?_) (a' := ?_) #[true, true, true, true, true, true, false, false, false, false, false, false, false, false, false, false, false, false, false, false] rfl rfl (any_of HT_.out (by kernel_rfl)) (fun _ _ _ h => h) (Or.inl ⟨by rfl, ?_⟩) ?_ ?_
               rotate_left
               ·intro w'
                go_simp
                with_reducible rfl
               rotate_left
               ·simp only [Act.put, List.setIfInBounds_toArray, List.set_cons_zero, List.set_cons_succ, i64_w, i32_w]
                rfl
               refine pure_ (i := 6) (N := some 149) (v := ?_) (a' := ?_) #[true, true, true, true, true, true, true, false, false, false, false, false, false, false, false, false, false, false, false, false] rfl rfl (any_of HT_.out (by kernel_rfl)) (fun _ _ _ h => h) (Or.inl ⟨by rfl, ?_⟩) ?_ ?_
               rotate_left
               ·intro w'
                go_simp
                with_reducible rfl
               rotate_left
               ·simp only [Act.put, List.setIfInBounds_toArray, List.set_cons_zero, List.set_cons_succ, i64_w, i32_w]
                rfl
               refine take_ (i := 7) (N := some 150) (v := ?_) (a' := ?_) #[true, true, true, true, true, true, true, true, false, false, false, false, false, false, false, false, false, false, false, false] rfl rfl (take_ofW HT_.out HW_.out (by kernel_rfl)) (fun _ _ _ h => h) (Or.inl ⟨by rfl, ?_⟩) hHeld ?_ ?_
               rotate_left
               ·rintro w' ⟨s0, s1, s2, s3⟩
                go_simp
                with_reducible rfl
               rotate_left
               ·simp only [Act.put, List.setIfInBounds_toArray, List.set_cons_zero, List.set_cons_succ, i64_w, i32_w]
                rfl
               refine take_ (i := 8) (N := some 151) (v := ?_) (a' := ?_) #[true, true, true, true, true, true, true, true, true, false, false, false, false, false, false, false, false, false, false, false] rfl rfl (take_ofW HT_.out HW_.out (by kernel_rfl)) (fun _ _ _ h => h) (Or.inl ⟨by rfl, ?_⟩) hHeld ?_ ?_
               rotate_left
               ·rintro w' ⟨s0, s1, s2, s3⟩
                go_simp
                with_reducible rfl
               rotate_left
               ·simp only [Act.put, List.setIfInBounds_toArray, List.set_cons_zero, List.set_cons_succ, i64_w, i32_w]
                rfl
               refine take_ (i := 10) (N := some 153) (v := ?_) (a' := ?_) #[true, true, true, true, true, true, true, true, true, false, true, false, false, false, false, false, false, false, false, false] rfl rfl (take_ofW HT_.out HW_.out (by kernel_rfl)) (fun _ _ _ h => h) (Or.inl ⟨by rfl, ?_⟩) hHeld ?_ ?_
               rotate_left
               ·rintro w' ⟨s0, s1, s2, s3⟩
                go_simp
                with_reducible rfl
               rotate_left
               ·simp only [Act.put, List.setIfInBounds_toArray, List.set_cons_zero, List.set_cons_succ, i64_w, i32_w]
                rfl
               refine take_ (i := 11) (N := some 154) (v := ?_) (a' := ?_) #[true, true, true, true, true, true, true, true, true, false, true, true, false, false, false, false, false, false, false, false] rfl rfl (take_ofW HT_.out HW_.out (by kernel_rfl)) (fun _ _ _ h => h) (Or.inl ⟨by rfl, ?_⟩) hHeld ?_ ?_
               rotate_left
               ·rintro w' ⟨s0, s1, s2, s3⟩
                go_simp
                with_reducible rfl
               rotate_left
               ·simp only [Act.put, List.setIfInBounds_toArray, List.set_cons_zero, List.set_cons_succ, i64_w, i32_w]
                rfl
               refine one_ (i := 9) (N := some 152) #[true, true, true, true, true, true, true, true, true, true, true, true, false, false, false, false, false, false, false, false] rfl rfl (one_of HT_.out (by kernel_rfl)) (by decide) (fun K hK => ?_)
               refine goes_ Tryd.func12 (by kernel_rfl) rfl #[.agg #[.int .i64 t261, .int .i64 t262], .agg #[.int .i64 t263, .int .i64 t264]] (by rfl) rfl rfl (by (try simp only [List.map_toArray, List.map_cons, List.map_nil]); first | done | rfl | (simp only [List.length_drop, List.length_take]; rfl)) ?_
               with_reducible refine (impl_LessRatio.calls kj295 t261 t262 t263 t264 t292 _ A396.out).mono ?_
               rintro e w402 ⟨rfl, hb⟩
               refine ⟨_, rfl, ?_⟩
               have n0_ := aM (xB (g := gb255) (o := .cells #[.int .i64 t252, .int .i64 t253] 27 (0, 0)) (by (with_reducible repeat (first|apply xN|apply xD|apply xA)); exact BK255.out) hb)
               have n1_ := aM (xB (g := gb259) (o := .cells #[.int .i64 t256, .int .i64 t257] 27 (0, 0)) (by (with_reducible repeat (first|apply xN|apply xD|apply xA)); exact BK259.out) hb)
               have n2_ := aM (xB (g := gb265) (o := .cells #[.int .i64 t261, .int .i64 t262] 27 (0, 0)) (by (with_reducible repeat (first|apply xN|apply xD|apply xA)); exact BK265.out) hb)
               have n3_ := aM (xB (g := gb266) (o := .cells #[.int .i64 t263, .int .i64 t264] 27 (0, 0)) (by (with_reducible repeat (first|apply xN|apply xD|apply xA)); exact BK266.out) hb)
               have n4_ := aM (xB (g := gb270) (o := .cells #[.int .i64 t267, .int .i64 t268] 27 (0, 0)) (by (with_reducible repeat (first|apply xN|apply xD|apply xA)); exact BK270.out) hb)
               have n5_ := aM (xB (g := gb274) (o := .cells #[.int .i64 t271, .int .i64 t272] 27 (0, 0)) (by (with_reducible repeat (first|apply xN|apply xD|apply xA)); exact BK274.out) hb)
               have n6_ := aM (xB (g := gb278) (o := .cells #[.int .i64 t275, .int .i64 t276] 27 (0, 0)) (by (with_reducible repeat (first|apply xN|apply xD|apply xA)); exact BK278.out) hb)
               have n7_ := aM (xB (g := gb282) (o := .cells #[.int .i64 t279, .int .i64 t280] 27 (0, 0)) (by (with_reducible repeat (first|apply xN|apply xD|apply xA)); exact BK282.out) hb)
               have n8_ := aM (below_step (by repeat (first | (with_reducible first | exact HB.out | apply yA | apply yN | apply yD | refine yS ?_ GE255.out | refine yS ?_ GE259.out | refine yS ?_ GE265.out | refine yS ?_ GE266.out | refine yS ?_ GE270.out | refine yS ?_ GE274.out | refine yS ?_ GE278.out | refine yS ?_ GE282.out) | exact HB.out)) hb)
               clear BK255
               clear BK259
               clear BK265
               clear BK266
               clear BK270
               clear BK274
               clear BK278
               clear BK282
               clear HB
               have BK255 := n0_
               have BK259 := n1_
               have BK265 := n2_
               have BK266 := n3_
               have BK270 := n4_
               have BK274 := n5_
               have BK278 := n6_
               have BK282 := n7_
               have HB := n8_
               clear n0_ n1_ n2_ n3_ n4_ n5_ n6_ n7_ n8_
               (try clear hb)
               (try clear hk)
               refine hK.out _ _ ⟨(xC BK265.out 0).trans rfl, (xC BK265.out 1).trans rfl, (xC BK266.out 0).trans rfl, (xC BK266.out 1).trans rfl⟩ (fun hHeld => ?_)
               clear hK K
               refine norm_ (a' := ?_) ?_ ?_
               rotate_left
               ·show Act.put _ (some 152) _ = _
                simp only [Act.put, List.setIfInBounds_toArray, List.set_cons_zero, List.set_cons_succ, i64_w, i32_w]
                rfl
               refine one_ (i := 12) (N := some 155) #[true, true, true, true, true, true, true, true, true, true, true, true, true, false, false, false, false, false, false, false] rfl rfl (one_of HT_.out (by kernel_rfl)) (by decide) (fun K hK => ?_)
               refine goes_ Tryd.func12 (by kernel_rfl) rfl #[.agg #[.int .i64 t263, .int .i64 t264], .agg #[.int .i64 t261, .int .i64 t262]] (by rfl) rfl rfl (by (try simp only [List.map_toArray, List.map_cons, List.map_nil]); first | done | rfl | (simp only [List.length_drop, List.length_take]; rfl)) ?_
               with_reducible refine (impl_LessRatio.calls kj295 t263 t264 t261 t262 true _ A397.out).mono ?_
               rintro e w403 ⟨rfl, hb⟩
               refine ⟨_, rfl, ?_⟩
               have n0_ := aM (xB (g := gb255) (o := .cells #[.int .i64 t252, .int .i64 t253] 27 (0, 0)) (by (with_reducible repeat (first|apply xN|apply xD|apply xA)); exact BK255.out) hb)
               have n1_ := aM (xB (g := gb259) (o := .cells #[.int .i64 t256, .int .i64 t257] 27 (0, 0)) (by (with_reducible repeat (first|apply xN|apply xD|apply xA)); exact BK259.out) hb)
               have n2_ := aM (xB (g := gb265) (o := .cells #[.int .i64 t261, .int .i64 t262] 27 (0, 0)) (by (with_reducible repeat (first|apply xN|apply xD|apply xA)); exact BK265.out) hb)
               have n3_ := aM (xB (g := gb266) (o := .cells #[.int .i64 t263, .int .i64 t264] 27 (0, 0)) (by (with_reducible repeat (first|apply xN|apply xD|apply xA)); exact BK266.out) hb)
               have n4_ := aM (xB (g := gb270) (o := .cells #[.int .i64 t267, .int .i64 t268] 27 (0, 0)) (by (with_reducible repeat (first|apply xN|apply xD|apply xA)); exact BK270.out) hb)
               have n5_ := aM (xB (g := gb274) (o := .cells #[.int .i64 t271, .int .i64 t272] 27 (0, 0)) (by (with_reducible repeat (first|apply xN|apply xD|apply xA)); exact BK274.out) hb)
               have n6_ := aM (xB (g := gb278) (o := .cells #[.int .i64 t275, .int .i64 t276] 27 (0, 0)) (by (with_reducible repeat (first|apply xN|apply xD|apply xA)); exact BK278.out) hb)
               have n7_ := aM (xB (g := gb282) (o := .cells #[.int .i64 t279, .int .i64 t280] 27 (0, 0)) (by (with_reducible repeat (first|apply xN|apply xD|apply xA)); exact BK282.out) hb)
               have n8_ := aM (below_step (by repeat (first | (with_reducible first | exact HB.out | apply yA | apply yN | apply yD | refine yS ?_ GE255.out | refine yS ?_ GE259.out | refine yS ?_ GE265.out | refine yS ?_ GE266.out | refine yS ?_ GE270.out | refine yS ?_ GE274.out | refine yS ?_ GE278.out | refine yS ?_ GE282.out) | exact HB.out)) hb)
               clear BK255
               clear BK259
               clear BK265
               clear BK266
               clear BK270
               clear BK274
               clear BK278
               clear BK282
               clear HB
               have BK255 := n0_
               have BK259 := n1_
               have BK265 := n2_
               have BK266 := n3_
               have BK270 := n4_
               have BK274 := n5_
               have BK278 := n6_
               have BK282 := n7_
               have HB := n8_
               clear n0_ n1_ n2_ n3_ n4_ n5_ n6_ n7_ n8_
               (try clear hb)
               (try clear hk)
               refine hK.out _ _ ⟨(xC BK265.out 0).trans rfl, (xC BK265.out 1).trans rfl, (xC BK266.out 0).trans rfl, (xC BK266.out 1).trans rfl⟩ (fun hHeld => ?_)
               clear hK K
               refine norm_ (a' := ?_) ?_ ?_
               rotate_left
               ·show Act.put _ (some 155) _ = _
                simp only [Act.put, List.setIfInBounds_toArray, List.set_cons_zero, List.set_cons_succ, i64_w, i32_w]
                rfl
               refine pure_ (i := 13) (N := some 156) (v := ?_) (a' := ?_) #[true, true, true, true, true, true, true, true, true, true, true, true, true, true, false, false, false, false, false, false] rfl rfl (any_of HT_.out (by kernel_rfl)) (fun _ _ _ h => h) (Or.inl ⟨by rfl, ?_⟩) ?_ ?_
               rotate_left
               ·intro w'
                go_simp
                with_reducible rfl
               rotate_left
               ·simp only [Act.put, List.setIfInBounds_toArray, List.set_cons_zero, List.set_cons_succ, i64_w, i32_w]
                rfl
               refine pure_ (i := 14) (N := some 157) (v := undef) (a' := ?_) #[true, true, true, true, true, true, true, true, true, true, true, true, true, true, true, false, false, false, false, false] rfl rfl (any_of HT_.out (by kernel_rfl)) (fun _ _ _ h => h) (Or.inr ⟨by rfl, rfl⟩) ?_ ?_
               rotate_left
               ·simp only [Act.put, List.setIfInBounds_toArray, List.set_cons_zero, List.set_cons_succ, i64_w, i32_w]
                rfl
               refine pure_ (i := 15) (N := some 158) (v := undef) (a' := ?_) #[true, true, true, true, true, true, true, true, true, true, true, true, true, true, true, true, false, false, false, false] rfl rfl (any_of HT_.out (by kernel_rfl)) (fun _ _ _ h => h) (Or.inr ⟨by rfl, rfl⟩) ?_ ?_
               rotate_left
               ·simp only [Act.put, List.setIfInBounds_toArray, List.set_cons_zero, List.set_cons_succ, i64_w, i32_w]
                rfl
               refine pure_ (i := 16) (N := some 159) (v := undef) (a' := ?_) #[true, true, true, true, true, true, true, true, true, true, true, true, true, true, true, true, true, false, false, false] rfl rfl (any_of HT_.out (by kernel_rfl)) (fun _ _ _ h => h) (Or.inr ⟨by rfl, rfl⟩) ?_ ?_
               rotate_left
               ·simp only [Act.put, List.setIfInBounds_toArray, List.set_cons_zero, List.set_cons_succ, i64_w, i32_w]
                rfl
               refine pure_ (i := 17) (N := some 160) (v := ?_) (a' := ?_) #[true, true, true, true, true, true, true, true, true, true, true, true, true, true, true, true, true, true, false, false] rfl rfl (any_of HT_.out (by kernel_rfl)) (fun _ _ _ h => h) (Or.inl ⟨by rfl, ?_⟩) ?_ ?_
               rotate_left
               ·intro w'
                go_simp
                with_reducible rfl
               rotate_left
               ·simp only [Act.put, List.setIfInBounds_toArray, List.set_cons_zero, List.set_cons_succ, i64_w, i32_w]
                rfl
               refine pure_ (i := 18) (N := some 161) (v := ?_) (a' := ?_) #[true, true, true, true, true, true, true, true, true, true, true, true, true, true, true, true, true, true, true, false] rfl rfl (any_of HT_.out (by kernel_rfl)) (fun _ _ _ h => h) (Or.inl ⟨by rfl, ?_⟩) ?_ ?_
               rotate_left
               ·intro w'
                go_simp
                with_reducible rfl
               rotate_left
               ·simp only [Act.put, List.setIfInBounds_toArray, List.set_cons_zero, List.set_cons_succ, i64_w, i32_w]
                rfl
               refine pure_ (i := 19) (N := some 162) (v := ?_) (a' := ?_) #[true, true, true, true, true, true, true, true, true, true, true, true, true, true, true, true, true, true, true, true] rfl rfl (any_of HT_.out (by kernel_rfl)) (fun _ _ _ h => h) (Or.inl ⟨by rfl, ?_⟩) ?_ ?_
               rotate_left
               ·intro w'
                go_simp
                with_reducible rfl
               rotate_left
               ·simp only [Act.put, List.setIfInBounds_toArray, List.set_cons_zero, List.set_cons_succ, i64_w, i32_w]
                rfl
               refine done_ (done_of HT_.out (by kernel_rfl)) ?_
               try go_wp2
               go_meet
               case rel => exact ⟨_, ((t292 == true)), (by first | rfl | (simp; done) | (simp [*]; done)), H', ⟨by have := HJ15.out; have := HJ40.out; have := HJ295.out; first | omega | exact Nat.le_refl _⟩, ⟨by (with_reducible repeat (first|apply xN|apply xD|apply xA)); exact BK255.out⟩, ⟨by (with_reducible repeat (first|apply xN|apply xD|apply xA)); exact BK259.out⟩, ⟨by (with_reducible repeat (first|apply xN|apply xD|apply xA)); exact BK265.out⟩, ⟨by (with_reducible repeat (first|apply xN|apply xD|apply xA)); exact BK266.out⟩, ⟨by (with_reducible repeat (first|apply xN|apply xD|apply xA)); exact BK270.out⟩, ⟨by (with_reducible repeat (first|apply xN|apply xD|apply xA)); exact BK274.out⟩, ⟨by (with_reducible repeat (first|apply xN|apply xD|apply xA)); exact BK278.out⟩, ⟨by (with_reducible repeat (first|apply xN|apply xD|apply xA)); exact BK282.out⟩, ⟨by repeat (first | (with_reducible first | exact HB.out | apply yA | apply yN | apply yD | refine yS ?_ GE255.out | refine yS ?_ GE259.out | refine yS ?_ GE265.out | refine yS ?_ GE266.out | refine yS ?_ GE270.out | refine yS ?_ GE274.out | refine yS ?_ GE278.out | refine yS ?_ GE282.out) | exact HB.out)⟩⟩
              ·replace c398 := Bool.eq_false_iff.mpr c398
               subst c398
               replace H : (laws_FnRatios.j3 kj295 (t292 == (t261 == t263 && (t262 == t264))) t261 t262) = some r := by rw [if_neg (show ¬ (false = true) by decide)] at H; exact H
               have H' := aM H
               clear H
               try go_wp2
               have n0_ := aM (xD BK255.out)
               have n1_ := aM (xD BK259.out)
               have n2_ := aM (xD BK265.out)
               have n3_ := aM (xD BK266.out)
               have n4_ := aM (xD BK270.out)
               have n5_ := aM (xD BK274.out)
               have n6_ := aM (xD BK278.out)
               have n7_ := aM (xD BK282.out)
               have n8_ := aM (yD HB.out)
               clear BK255
               clear BK259
               clear BK265
               clear BK266
               clear BK270
               clear BK274
               clear BK278
               clear BK282
               clear HB
               have BK255 := n0_
               have BK259 := n1_
               have BK265 := n2_
               have BK266 := n3_
               have BK270 := n4_
               have BK274 := n5_
               have BK278 := n6_
               have BK282 := n7_
               have HB := n8_
               clear n0_ n1_ n2_ n3_ n4_ n5_ n6_ n7_ n8_
               refine start_ (n := 20) (S := fun w' => w'.cell? ⟨gb265, 0, none⟩ = some (.int .i64 t261) ∧ w'.cell? ⟨gb265, 1, none⟩ = some (.int .i64 t262) ∧ w'.cell? ⟨gb266, 0, none⟩ = some (.int .i64 t263) ∧ w'.cell? ⟨gb266, 1, none⟩ = some (.int .i64 t264)) (ds := []) #[false, false, false, false, false, false, false, false, false, false, false, false, false, false, false, false, false, false, false, false] (by kernel_rfl) rfl rfl ⟨(xC BK265.out 0).trans rfl, (xC BK265.out 1).trans rfl, (xC BK266.out 0).trans rfl, (xC BK266.out 1).trans rfl⟩ (fun hHeld => ?_); refine with_tabW laws_FnRatios.tab21 laws_FnRatios.bits21 (fun HT_ HW_ => ?_)
               generalize wc.drew = w404 at BK255 BK259 BK265 BK266 BK270 BK274 BK278 BK282 HB hHeld ⊢
               refine take_ (i := 0) (N := some 143) (v := ?_) (a' := ?_) #[true, false, false, false, false, false, false, false, false, false, false, false, false, false, false, false, false, false, false, false] rfl rfl (take_ofW HT_.out HW_.out (by kernel_rfl)) (fun _ _ _ h => h) (Or.inl ⟨by rfl, ?_⟩) hHeld ?_ ?_
               rotate_left
               ·rintro w' ⟨s0, s1, s2, s3⟩
                go_simp
                with_reducible rfl
               rotate_left
               ·simp only [Act.put, List.setIfInBounds_toArray, List.set_cons_zero, List.set_cons_succ, i64_w, i32_w]
                rfl
               refine one_ (i := 1) (N := some 144) #[true, true, false, false, false, false, false, false, false, false, false, false, false, false, false, false, false, false, false, false] rfl rfl (one_of HT_.out (by kernel_rfl)) (by decide) (fun K hK => ?_)
               refine goes_ Tryd.func8 (by kernel_rfl) rfl #[.agg #[.int .i64 t261, .int .i64 t262]] (by rfl) rfl rfl (by (try simp only [List.map_toArray, List.map_cons, List.map_nil]); first | done | rfl | (simp only [List.length_drop, List.length_take]; rfl)) ?_
               with_reducible refine (impl_IsRatio.calls kj295 t261 t262 true _ A392.out).mono ?_
               rintro e w405 ⟨rfl, hb⟩
               refine ⟨_, rfl, ?_⟩
               have n0_ := aM (xB (g := gb255) (o := .cells #[.int .i64 t252, .int .i64 t253] 27 (0, 0)) (by (with_reducible repeat (first|apply xN|apply xD|apply xA)); exact BK255.out) hb)
               have n1_ := aM (xB (g := gb259) (o := .cells #[.int .i64 t256, .int .i64 t257] 27 (0, 0)) (by (with_reducible repeat (first|apply xN|apply xD|apply xA)); exact BK259.out) hb)
               have n2_ := aM (xB (g := gb265) (o := .cells #[.int .i64 t261, .int .i64 t262] 27 (0, 0)) (by (with_reducible repeat (first|apply xN|apply xD|apply xA)); exact BK265.out) hb)
               have n3_ := aM (xB (g := gb266) (o := .cells #[.int .i64 t263, .int .i64 t264] 27 (0, 0)) (by (with_reducible repeat (first|apply xN|apply xD|apply xA)); exact BK266.out) hb)
               have n4_ := aM (xB (g := gb270) (o := .cells #[.int .i64 t267, .int .i64 t268] 27 (0, 0)) (by (with_reducible repeat (first|apply xN|apply xD|apply xA)); exact BK270.out) hb)
               have n5_ := aM (xB (g := gb274) (o := .cells #[.int .i64 t271, .int .i64 t272] 27 (0, 0)) (by (with_reducible repeat (first|apply xN|apply xD|apply xA)); exact BK274.out) hb)
               have n6_ := aM (xB (g := gb278) (o := .cells #[.int .i64 t275, .int .i64 t276] 27 (0, 0)) (by (with_reducible repeat (first|apply xN|apply xD|apply xA)); exact BK278.out) hb)
               have n7_ := aM (xB (g := gb282) (o := .cells #[.int .i64 t279, .int .i64 t280] 27 (0, 0)) (by (with_reducible repeat (first|apply xN|apply xD|apply xA)); exact BK282.out) hb)
               have n8_ := aM (below_step (by repeat (first | (with_reducible first | exact HB.out | apply yA | apply yN | apply yD | refine yS ?_ GE255.out | refine yS ?_ GE259.out | refine yS ?_ GE265.out | refine yS ?_ GE266.out | refine yS ?_ GE270.out | refine yS ?_ GE274.out | refine yS ?_ GE278.out | refine yS ?_ GE282.out) | exact HB.out)) hb)
               clear BK255
               clear BK259
               clear BK265
               clear BK266
               clear BK270
               clear BK274
               clear BK278
               clear BK282
               clear HB
               have BK255 := n0_
               have BK259 := n1_
               have BK265 := n2_
               have BK266 := n3_
               have BK270 := n4_
               have BK274 := n5_
               have BK278 := n6_
               have BK282 := n7_
               have HB := n8_
               clear n0_ n1_ n2_ n3_ n4_ n5_ n6_ n7_ n8_
               (try clear hb)
               (try clear hk)
               refine hK.out _ _ ⟨(xC BK265.out 0).trans rfl, (xC BK265.out 1).trans rfl, (xC BK266.out 0).trans rfl, (xC BK266.out 1).trans rfl⟩ (fun hHeld => ?_)
               clear hK K
               refine norm_ (a' := ?_) ?_ ?_
               rotate_left
               ·show Act.put _ (some 144) _ = _
                simp only [Act.put, List.setIfInBounds_toArray, List.set_cons_zero, List.set_cons_succ, i64_w, i32_w]
                rfl
               refine pure_ (i := 2) (N := some 145) (v := ?_) (a' := ?_) #[true, true, true, false, false, false, false, false, false, false, false, false, false, false, false, false, false, false, false, false] rfl rfl (any_of HT_.out (by kernel_rfl)) (fun _ _ _ h => h) (Or.inl ⟨by rfl, ?_⟩) ?_ ?_
               rotate_left
               ·intro w'
                go_simp
                with_reducible rfl
               rotate_left
               ·simp only [Act.put, List.setIfInBounds_toArray, List.set_cons_zero, List.set_cons_succ, i64_w, i32_w]
                rfl
               refine take_ (i := 3) (N := some 146) (v := ?_) (a' := ?_) #[true, true, true, true, false, false, false, false, false, false, false, false, false, false, false, false, false, false, false, false] rfl rfl (take_ofW HT_.out HW_.out (by kernel_rfl)) (fun _ _ _ h => h) (Or.inl ⟨by rfl, ?_⟩) hHeld ?_ ?_
               rotate_left
               ·rintro w' ⟨s0, s1, s2, s3⟩
                go_simp
                with_reducible rfl
               rotate_left
               ·simp only [Act.put, List.setIfInBounds_toArray, List.set_cons_zero, List.set_cons_succ, i64_w, i32_w]
                rfl
               refine one_ (i := 4) (N := some 147) #[true, true, true, true, true, false, false, false, false, false, false, false, false, false, false, false, false, false, false, false] rfl rfl (one_of HT_.out (by kernel_rfl)) (by decide) (fun K hK => ?_)
               refine goes_ Tryd.func8 (by kernel_rfl) rfl #[.agg #[.int .i64 t263, .int .i64 t264]] (by rfl) rfl rfl (by (try simp only [List.map_toArray, List.map_cons, List.map_nil]); first | done | rfl | (simp only [List.length_drop, List.length_take]; rfl)) ?_
               with_reducible refine (impl_IsRatio.calls kj295 t263 t264 true _ A394.out).mono ?_
               rintro e w406 ⟨rfl, hb⟩
               refine ⟨_, rfl, ?_⟩
               have n0_ := aM (xB (g := gb255) (o := .cells #[.int .i64 t252, .int .i64 t253] 27 (0, 0)) (by (with_reducible repeat (first|apply xN|apply xD|apply xA)); exact BK255.out) hb)
               have n1_ := aM (xB (g := gb259) (o := .cells #[.int .i64 t256, .int .i64 t257] 27 (0, 0)) (by (with_reducible repeat (first|apply xN|apply xD|apply xA)); exact BK259.out) hb)
               have n2_ := aM (xB (g := gb265) (o := .cells #[.int .i64 t261, .int .i64 t262] 27 (0, 0)) (by (with_reducible repeat (first|apply xN|apply xD|apply xA)); exact BK265.out) hb)
               have n3_ := aM (xB (g := gb266) (o := .cells #[.int .i64 t263, .int .i64 t264] 27 (0, 0)) (by (with_reducible repeat (first|apply xN|apply xD|apply xA)); exact BK266.out) hb)
               have n4_ := aM (xB (g := gb270) (o := .cells #[.int .i64 t267, .int .i64 t268] 27 (0, 0)) (by (with_reducible repeat (first|apply xN|apply xD|apply xA)); exact BK270.out) hb)
               have n5_ := aM (xB (g := gb274) (o := .cells #[.int .i64 t271, .int .i64 t272] 27 (0, 0)) (by (with_reducible repeat (first|apply xN|apply xD|apply xA)); exact BK274.out) hb)
               have n6_ := aM (xB (g := gb278) (o := .cells #[.int .i64 t275, .int .i64 t276] 27 (0, 0)) (by (with_reducible repeat (first|apply xN|apply xD|apply xA)); exact BK278.out) hb)
               have n7_ := aM (xB (g := gb282) (o := .cells #[.int .i64 t279, .int .i64 t280] 27 (0, 0)) (by (with_reducible repeat (first|apply xN|apply xD|apply xA)); exact BK282.out) hb)
               have n8_ := aM (below_step (by repeat (first | (with_reducible first | exact HB.out | apply yA | apply yN | apply yD | refine yS ?_ GE255.out | refine yS ?_ GE259.out | refine yS ?_ GE265.out | refine yS ?_ GE266.out | refine yS ?_ GE270.out | refine yS ?_ GE274.out | refine yS ?_ GE278.out | refine yS ?_ GE282.out) | exact HB.out)) hb)
               clear BK255
               clear BK259
               clear BK265
               clear BK266
               clear BK270
               clear BK274
               clear BK278
               clear BK282
               clear HB
               have BK255 := n0_
               have BK259 := n1_
               have BK265 := n2_
               have BK266 := n3_
               have BK270 := n4_
               have BK274 := n5_
               have BK278 := n6_
               have BK282 := n7_
               have HB := n8_
               clear n0_ n1_ n2_ n3_ n4_ n5_ n6_ n7_ n8_
               (try clear hb)
               (try clear hk)
               refine hK.out _ _ ⟨(xC BK265.out 0).trans rfl, (xC BK265.out 1).trans rfl, (xC BK266.out 0).trans rfl, (xC BK266.out 1).trans rfl⟩ (fun hHeld => ?_)
               clear hK K
               refine norm_ (a' := ?_) ?_ ?_
               rotate_left
               ·show Act.put _ (some 147) _ = _
                simp only [Act.put, List.setIfInBounds_toArray, List.set_cons_zero, List.set_cons_succ, i64_w, i32_w]
                rfl
               refine pure_ (i := 5) (N := some 148) (v := ?_) (a' := ?_) #[true, true, true, true, true, true, false, false, false, false, false, false, false, false, false, false, false, false, false, false] rfl rfl (any_of HT_.out (by kernel_rfl)) (fun _ _ _ h => h) (Or.inl ⟨by rfl, ?_⟩) ?_ ?_
               rotate_left
               ·intro w'
                go_simp
                with_reducible rfl
               rotate_left
               ·simp only [Act.put, List.setIfInBounds_toArray, List.set_cons_zero, List.set_cons_succ, i64_w, i32_w]
                rfl
               refine pure_ (i := 6) (N := some 149) (v := ?_) (a' := ?_) #[true, true, true, true, true, true, true, false, false, false, false, false, false, false, false, false, false, false, false, false] rfl rfl (any_of HT_.out (by kernel_rfl)) (fun _ _ _ h => h) (Or.inl ⟨by rfl, ?_⟩) ?_ ?_
               rotate_left
               ·intro w'
                go_simp
                with_reducible rfl
               rotate_left
               ·simp only [Act.put, List.setIfInBounds_toArray, List.set_cons_zero, List.set_cons_succ, i64_w, i32_w]
                rfl
               refine take_ (i := 7) (N := some 150) (v := ?_) (a' := ?_) #[true, true, true, true, true, true, true, true, false, false, false, false, false, false, false, false, false, false, false, false] rfl rfl (take_ofW HT_.out HW_.out (by kernel_rfl)) (fun _ _ _ h => h) (Or.inl ⟨by rfl, ?_⟩) hHeld ?_ ?_
               rotate_left
               ·rintro w' ⟨s0, s1, s2, s3⟩
                go_simp
                with_reducible rfl
               rotate_left
               ·simp only [Act.put, List.setIfInBounds_toArray, List.set_cons_zero, List.set_cons_succ, i64_w, i32_w]
                rfl
               refine take_ (i := 8) (N := some 151) (v := ?_) (a' := ?_) #[true, true, true, true, true, true, true, true, true, false, false, false, false, false, false, false, false, false, false, false] rfl rfl (take_ofW HT_.out HW_.out (by kernel_rfl)) (fun _ _ _ h => h) (Or.inl ⟨by rfl, ?_⟩) hHeld ?_ ?_
               rotate_left
               ·rintro w' ⟨s0, s1, s2, s3⟩
                go_simp
                with_reducible rfl
               rotate_left
               ·simp only [Act.put, List.setIfInBounds_toArray, List.set_cons_zero, List.set_cons_succ, i64_w, i32_w]
                rfl
               refine take_ (i := 10) (N := some 153) (v := ?_) (a' := ?_) #[true, true, true, true, true, true, true, true, true, false, true, false, false, false, false, false, false, false, false, false] rfl rfl (take_ofW HT_.out HW_.out (by kernel_rfl)) (fun _ _ _ h => h) (Or.inl ⟨by rfl, ?_⟩) hHeld ?_ ?_
               rotate_left
               ·rintro w' ⟨s0, s1, s2, s3⟩
                go_simp
                with_reducible rfl
               rotate_left
               ·simp only [Act.put, List.setIfInBounds_toArray, List.set_cons_zero, List.set_cons_succ, i64_w, i32_w]
                rfl
               refine take_ (i := 11) (N := some 154) (v := ?_) (a' := ?_) #[true, true, true, true, true, true, true, true, true, false, true, true, false, false, false, false, false, false, false, false] rfl rfl (take_ofW HT_.out HW_.out (by kernel_rfl)) (fun _ _ _ h => h) (Or.inl ⟨by rfl, ?_⟩) hHeld ?_ ?_
               rotate_left
               ·rintro w' ⟨s0, s1, s2, s3⟩
                go_simp
                with_reducible rfl
               rotate_left
               ·simp only [Act.put, List.setIfInBounds_toArray, List.set_cons_zero, List.set_cons_succ, i64_w, i32_w]
                rfl
               refine one_ (i := 9) (N := some 152) #[true, true, true, true, true, true, true, true, true, true, true, true, false, false, false, false, false, false, false, false] rfl rfl (one_of HT_.out (by kernel_rfl)) (by decide) (fun K hK => ?_)
               refine goes_ Tryd.func12 (by kernel_rfl) rfl #[.agg #[.int .i64 t261, .int .i64 t262], .agg #[.int .i64 t263, .int .i64 t264]] (by rfl) rfl rfl (by (try simp only [List.map_toArray, List.map_cons, List.map_nil]); first | done | rfl | (simp only [List.length_drop, List.length_take]; rfl)) ?_
               with_reducible refine (impl_LessRatio.calls kj295 t261 t262 t263 t264 t292 _ A396.out).mono ?_
               rintro e w407 ⟨rfl, hb⟩
               refine ⟨_, rfl, ?_⟩
               have n0_ := aM (xB (g := gb255) (o := .cells #[.int .i64 t252, .int .i64 t253] 27 (0, 0)) (by (with_reducible repeat (first|apply xN|apply xD|apply xA)); exact BK255.out) hb)
               have n1_ := aM (xB (g := gb259) (o := .cells #[.int .i64 t256, .int .i64 t257] 27 (0, 0)) (by (with_reducible repeat (first|apply xN|apply xD|apply xA)); exact BK259.out) hb)
               have n2_ := aM (xB (g := gb265) (o := .cells #[.int .i64 t261, .int .i64 t262] 27 (0, 0)) (by (with_reducible repeat (first|apply xN|apply xD|apply xA)); exact BK265.out) hb)
               have n3_ := aM (xB (g := gb266) (o := .cells #[.int .i64 t263, .int .i64 t264] 27 (0, 0)) (by (with_reducible repeat (first|apply xN|apply xD|apply xA)); exact BK266.out) hb)
               have n4_ := aM (xB (g := gb270) (o := .cells #[.int .i64 t267, .int .i64 t268] 27 (0, 0)) (by (with_reducible repeat (first|apply xN|apply xD|apply xA)); exact BK270.out) hb)
               have n5_ := aM (xB (g := gb274) (o := .cells #[.int .i64 t271, .int .i64 t272] 27 (0, 0)) (by (with_reducible repeat (first|apply xN|apply xD|apply xA)); exact BK274.out) hb)
               have n6_ := aM (xB (g := gb278) (o := .cells #[.int .i64 t275, .int .i64 t276] 27 (0, 0)) (by (with_reducible repeat (first|apply xN|apply xD|apply xA)); exact BK278.out) hb)
               have n7_ := aM (xB (g := gb282) (o := .cells #[.int .i64 t279, .int .i64 t280] 27 (0, 0)) (by (with_reducible repeat (first|apply xN|apply xD|apply xA)); exact BK282.out) hb)
               have n8_ := aM (below_step (by repeat (first | (with_reducible first | exact HB.out | apply yA | apply yN | apply yD | refine yS ?_ GE255.out | refine yS ?_ GE259.out | refine yS ?_ GE265.out | refine yS ?_ GE266.out | refine yS ?_ GE270.out | refine yS ?_ GE274.out | refine yS ?_ GE278.out | refine yS ?_ GE282.out) | exact HB.out)) hb)
               clear BK255
               clear BK259
               clear BK265
               clear BK266
               clear BK270
               clear BK274
               clear BK278
               clear BK282
               clear HB
               have BK255 := n0_
               have BK259 := n1_
               have BK265 := n2_
               have BK266 := n3_
               have BK270 := n4_
               have BK274 := n5_
               have BK278 := n6_
               have BK282 := n7_
               have HB := n8_
               clear n0_ n1_ n2_ n3_ n4_ n5_ n6_ n7_ n8_
               (try clear hb)
               (try clear hk)
               refine hK.out _ _ ⟨(xC BK265.out 0).trans rfl, (xC BK265.out 1).trans rfl, (xC BK266.out 0).trans rfl, (xC BK266.out 1).trans rfl⟩ (fun hHeld => ?_)
               clear hK K
               refine norm_ (a' := ?_) ?_ ?_
               rotate_left
               ·show Act.put _ (some 152) _ = _
                simp only [Act.put, List.setIfInBounds_toArray, List.set_cons_zero, List.set_cons_succ, i64_w, i32_w]
                rfl
               refine one_ (i := 12) (N := some 155) #[true, true, true, true, true, true, true, true, true, true, true, true, true, false, false, false, false, false, false, false] rfl rfl (one_of HT_.out (by kernel_rfl)) (by decide) (fun K hK => ?_)
               refine goes_ Tryd.func12 (by kernel_rfl) rfl #[.agg #[.int .i64 t263, .int .i64 t264], .agg #[.int .i64 t261, .int .i64 t262]] (by rfl) rfl rfl (by (try simp only [List.map_toArray, List.map_cons, List.map_nil]); first | done | rfl | (simp only [List.length_drop, List.length_take]; rfl)) ?_
               with_reducible refine (impl_LessRatio.calls kj295 t263 t264 t261 t262 false _ A397.out).mono ?_
               rintro e w408 ⟨rfl, hb⟩
               refine ⟨_, rfl, ?_⟩
               have n0_ := aM (xB (g := gb255) (o := .cells #[.int .i64 t252, .int .i64 t253] 27 (0, 0)) (by (with_reducible repeat (first|apply xN|apply xD|apply xA)); exact BK255.out) hb)
               have n1_ := aM (xB (g := gb259) (o := .cells #[.int .i64 t256, .int .i64 t257] 27 (0, 0)) (by (with_reducible repeat (first|apply xN|apply xD|apply xA)); exact BK259.out) hb)
               have n2_ := aM (xB (g := gb265) (o := .cells #[.int .i64 t261, .int .i64 t262] 27 (0, 0)) (by (with_reducible repeat (first|apply xN|apply xD|apply xA)); exact BK265.out) hb)
               have n3_ := aM (xB (g := gb266) (o := .cells #[.int .i64 t263, .int .i64 t264] 27 (0, 0)) (by (with_reducible repeat (first|apply xN|apply xD|apply xA)); exact BK266.out) hb)
               have n4_ := aM (xB (g := gb270) (o := .cells #[.int .i64 t267, .int .i64 t268] 27 (0, 0)) (by (with_reducible repeat (first|apply xN|apply xD|apply xA)); exact BK270.out) hb)
               have n5_ := aM (xB (g := gb274) (o := .cells #[.int .i64 t271, .int .i64 t272] 27 (0, 0)) (by (with_reducible repeat (first|apply xN|apply xD|apply xA)); exact BK274.out) hb)
               have n6_ := aM (xB (g := gb278) (o := .cells #[.int .i64 t275, .int .i64 t276] 27 (0, 0)) (by (with_reducible repeat (first|apply xN|apply xD|apply xA)); exact BK278.out) hb)
               have n7_ := aM (xB (g := gb282) (o := .cells #[.int .i64 t279, .int .i64 t280] 27 (0, 0)) (by (with_reducible repeat (first|apply xN|apply xD|apply xA)); exact BK282.out) hb)
               have n8_ := aM (below_step (by repeat (first | (with_reducible first | exact HB.out | apply yA | apply yN | apply yD | refine yS ?_ GE255.out | refine yS ?_ GE259.out | refine yS ?_ GE265.out | refine yS ?_ GE266.out | refine yS ?_ GE270.out | refine yS ?_ GE274.out | refine yS ?_ GE278.out | refine yS ?_ GE282.out) | exact HB.out)) hb)
               clear BK255
               clear BK259
               clear BK265
               clear BK266
               clear BK270
               clear BK274
               clear BK278
               clear BK282
               clear HB
               have BK255 := n0_
               have BK259 := n1_
               have BK265 := n2_
               have BK266 := n3_
               have BK270 := n4_
               have BK274 := n5_
               have BK278 := n6_
               have BK282 := n7_
               have HB := n8_
               clear n0_ n1_ n2_ n3_ n4_ n5_ n6_ n7_ n8_
               (try clear hb)
               (try clear hk)
               refine hK.out _ _ ⟨(xC BK265.out 0).trans rfl, (xC BK265.out 1).trans rfl, (xC BK266.out 0).trans rfl, (xC BK266.out 1).trans rfl⟩ (fun hHeld => ?_)
               clear hK K
               refine norm_ (a' := ?_) ?_ ?_
               rotate_left
               ·show Act.put _ (some 155) _ = _
                simp only [Act.put, List.setIfInBounds_toArray, List.set_cons_zero, List.set_cons_succ, i64_w, i32_w]
                rfl
               refine pure_ (i := 13) (N := some 156) (v := ?_) (a' := ?_) #[true, true, true, true, true, true, true, true, true, true, true, true, true, true, false, false, false, false, false, false] rfl rfl (any_of HT_.out (by kernel_rfl)) (fun _ _ _ h => h) (Or.inl ⟨by rfl, ?_⟩) ?_ ?_
               rotate_left
               ·intro w'
                go_simp
                with_reducible rfl
               rotate_left
               ·simp only [Act.put, List.setIfInBounds_toArray, List.set_cons_zero, List.set_cons_succ, i64_w, i32_w]
                rfl
               refine take_ (i := 14) (N := some 157) (v := ?_) (a' := ?_) #[true, true, true, true, true, true, true, true, true, true, true, true, true, true, true, false, false, false, false, false] rfl rfl (take_ofW HT_.out HW_.out (by kernel_rfl)) (fun _ _ _ h => h) (Or.inl ⟨by rfl, ?_⟩) hHeld ?_ ?_
               rotate_left
               ·rintro w' ⟨s0, s1, s2, s3⟩
                go_simp
                with_reducible rfl
               rotate_left
               ·simp only [Act.put, List.setIfInBounds_toArray, List.set_cons_zero, List.set_cons_succ, i64_w, i32_w]
                rfl
               refine take_ (i := 15) (N := some 158) (v := ?_) (a' := ?_) #[true, true, true, true, true, true, true, true, true, true, true, true, true, true, true, true, false, false, false, false] rfl rfl (take_ofW HT_.out HW_.out (by kernel_rfl)) (fun _ _ _ h => h) (Or.inl ⟨by rfl, ?_⟩) hHeld ?_ ?_
               rotate_left
               ·rintro w' ⟨s0, s1, s2, s3⟩
                go_simp
                with_reducible rfl
               rotate_left
               ·simp only [Act.put, List.setIfInBounds_toArray, List.set_cons_zero, List.set_cons_succ, i64_w, i32_w]
                rfl
               refine pure_ (i := 16) (N := some 159) (v := ?_) (a' := ?_) #[true, true, true, true, true, true, true, true, true, true, true, true, true, true, true, true, true, false, false, false] rfl rfl (any_of HT_.out (by kernel_rfl)) (fun _ _ _ h => h) (Or.inl ⟨by rfl, ?_⟩) ?_ ?_
               rotate_left
               ·intro w'
                go_simp
                with_reducible rfl
               rotate_left
               ·simp only [Act.put, List.setIfInBounds_toArray, List.set_cons_zero, List.set_cons_succ, i64_w, i32_w]
                rfl
               refine pure_ (i := 17) (N := some 160) (v := ?_) (a' := ?_) #[true, true, true, true, true, true, true, true, true, true, true, true, true, true, true, true, true, true, false, false] rfl rfl (any_of HT_.out (by kernel_rfl)) (fun _ _ _ h => h) (Or.inl ⟨by rfl, ?_⟩) ?_ ?_
               rotate_left
               ·intro w'
                go_simp
                with_reducible rfl
               rotate_left
               ·simp only [Act.put, List.setIfInBounds_toArray, List.set_cons_zero, List.set_cons_succ, i64_w, i32_w]
                rfl
               refine pure_ (i := 18) (N := some 161) (v := ?_) (a' := ?_) #[true, true, true, true, true, true, true, true, true, true, true, true, true, true, true, true, true, true, true, false] rfl rfl (any_of HT_.out (by kernel_rfl)) (fun _ _ _ h => h) (Or.inl ⟨by rfl, ?_⟩) ?_ ?_
               rotate_left
               ·intro w'
                go_simp
                with_reducible rfl
               rotate_left
               ·simp only [Act.put, List.setIfInBounds_toArray, List.set_cons_zero, List.set_cons_succ, i64_w, i32_w]
                rfl
               refine pure_ (i := 19) (N := some 162) (v := ?_) (a' := ?_) #[true, true, true, true, true, true, true, true, true, true, true, true, true, true, true, true, true, true, true, true] rfl rfl (any_of HT_.out (by kernel_rfl)) (fun _ _ _ h => h) (Or.inl ⟨by rfl, ?_⟩) ?_ ?_
               rotate_left
               ·intro w'
                go_simp
                with_reducible rfl
               rotate_left
               ·simp only [Act.put, List.setIfInBounds_toArray, List.set_cons_zero, List.set_cons_succ, i64_w, i32_w]
                rfl
               refine done_ (done_of HT_.out (by kernel_rfl)) ?_
               try go_wp2
               go_meet
               case rel => exact ⟨_, ((t292 == (t261 == t263 && (t262 == t264)))), (by first | rfl | (simp; done) | (simp [*]; done)), H', ⟨by have := HJ15.out; have := HJ40.out; have := HJ295.out; first | omega | exact Nat.le_refl _⟩, ⟨by (with_reducible repeat (first|apply xN|apply xD|apply xA)); exact BK255.out⟩, ⟨by (with_reducible repeat (first|apply xN|apply xD|apply xA)); exact BK259.out⟩, ⟨by (with_reducible repeat (first|apply xN|apply xD|apply xA)); exact BK265.out⟩, ⟨by (with_reducible repeat (first|apply xN|apply xD|apply xA)); exact BK266.out⟩, ⟨by (with_reducible repeat (first|apply xN|apply xD|apply xA)); exact BK270.out⟩, ⟨by (with_reducible repeat (first|apply xN|apply xD|apply xA)); exact BK274.out⟩, ⟨by (with_reducible repeat (first|apply xN|apply xD|apply xA)); exact BK278.out⟩, ⟨by (with_reducible repeat (first|apply xN|apply xD|apply xA)); exact BK282.out⟩, ⟨by repeat (first | (with_reducible first | exact HB.out | apply yA | apply yN | apply yD | refine yS ?_ GE255.out | refine yS ?_ GE259.out | refine yS ?_ GE265.out | refine yS ?_ GE266.out | refine yS ?_ GE270.out | refine yS ?_ GE274.out | refine yS ?_ GE278.out | refine yS ?_ GE282.out) | exact HB.out)⟩⟩
             ·replace c395 := Bool.eq_false_iff.mpr c395
              subst c395
              replace H : (laws_FnRatios.j3 kj295 false t261 t262) = some r := by rw [if_neg (show ¬ (false = true) by decide)] at H; exact H
              have H' := aM H
              clear H
              try go_wp2
              have n0_ := aM (xD BK255.out)
              have n1_ := aM (xD BK259.out)
              have n2_ := aM (xD BK265.out)
              have n3_ := aM (xD BK266.out)
              have n4_ := aM (xD BK270.out)
              have n5_ := aM (xD BK274.out)
              have n6_ := aM (xD BK278.out)
              have n7_ := aM (xD BK282.out)
              have n8_ := aM (yD HB.out)
              clear BK255
              clear BK259
              clear BK265
              clear BK266
              clear BK270
              clear BK274
              clear BK278
              clear BK282
              clear HB
              have BK255 := n0_
              have BK259 := n1_
              have BK265 := n2_
              have BK266 := n3_
              have BK270 := n4_
              have BK274 := n5_
              have BK278 := n6_
              have BK282 := n7_
              have HB := n8_
              clear n0_ n1_ n2_ n3_ n4_ n5_ n6_ n7_ n8_
              refine start_ (n := 20) (S := fun w' => w'.cell? ⟨gb265, 0, none⟩ = some (.int .i64 t261) ∧ w'.cell? ⟨gb265, 1, none⟩ = some (.int .i64 t262) ∧ w'.cell? ⟨gb266, 0, none⟩ = some (.int .i64 t263) ∧ w'.cell? ⟨gb266, 1, none⟩ = some (.int .i64 t264)) (ds := []) #[false, false, false, false, false, false, false, false, false, false, false, false, false, false, false, false, false, false, false, false] (by kernel_rfl) rfl rfl ⟨(xC BK265.out 0).trans rfl, (xC BK265.out 1).trans rfl, (xC BK266.out 0).trans rfl, (xC BK266.out 1).trans rfl⟩ (fun hHeld => ?_); refine with_tabW laws_FnRatios.tab21 laws_FnRatios.bits21 (fun HT_ HW_ => ?_)
              generalize wc.drew = w409 at BK255 BK259 BK265 BK266 BK270 BK274 BK278 BK282 HB hHeld ⊢
              refine take_ (i := 0) (N := some 143) (v := ?_) (a' := ?_) #[true, false, false, false, false, false, false, false, false, false, false, false, false, false, false, false, false, false, false, false] rfl rfl (take_ofW HT_.out HW_.out (by kernel_rfl)) (fun _ _ _ h => h) (Or.inl ⟨by rfl, ?_⟩) hHeld ?_ ?_
              rotate_left
              ·rintro w' ⟨s0, s1, s2, s3⟩
               go_simp
               with_reducible rfl
              rotate_left
              ·simp only [Act.put, List.setIfInBounds_toArray, List.set_cons_zero, List.set_cons_succ, i64_w, i32_w]
               rfl
              refine one_ (i := 1) (N := some 144) #[true, true, false, false, false, false, false, false, false, false, false, false, false, false, false, false, false, false, false, false] rfl rfl (one_of HT_.out (by kernel_rfl)) (by decide) (fun K hK => ?_)
              refine goes_ Tryd.func8 (by kernel_rfl) rfl #[.agg #[.int .i64 t261, .int .i64 t262]] (by rfl) rfl rfl (by (try simp only [List.map_toArray, List.map_cons, List.map_nil]); first | done | rfl | (simp only [List.length_drop, List.length_take]; rfl)) ?_
              with_reducible refine (impl_IsRatio.calls kj295 t261 t262 true _ A392.out).mono ?_
              rintro e w410 ⟨rfl, hb⟩
              refine ⟨_, rfl, ?_⟩
              have n0_ := aM (xB (g := gb255) (o := .cells #[.int .i64 t252, .int .i64 t253] 27 (0, 0)) (by (with_reducible repeat (first|apply xN|apply xD|apply xA)); exact BK255.out) hb)
              have n1_ := aM (xB (g := gb259) (o := .cells #[.int .i64 t256, .int .i64 t257] 27 (0, 0)) (by (with_reducible repeat (first|apply xN|apply xD|apply xA)); exact BK259.out) hb)
              have n2_ := aM (xB (g := gb265) (o := .cells #[.int .i64 t261, .int .i64 t262] 27 (0, 0)) (by (with_reducible repeat (first|apply xN|apply xD|apply xA)); exact BK265.out) hb)
              have n3_ := aM (xB (g := gb266) (o := .cells #[.int .i64 t263, .int .i64 t264] 27 (0, 0)) (by (with_reducible repeat (first|apply xN|apply xD|apply xA)); exact BK266.out) hb)
              have n4_ := aM (xB (g := gb270) (o := .cells #[.int .i64 t267, .int .i64 t268] 27 (0, 0)) (by (with_reducible repeat (first|apply xN|apply xD|apply xA)); exact BK270.out) hb)
              have n5_ := aM (xB (g := gb274) (o := .cells #[.int .i64 t271, .int .i64 t272] 27 (0, 0)) (by (with_reducible repeat (first|apply xN|apply xD|apply xA)); exact BK274.out) hb)
              have n6_ := aM (xB (g := gb278) (o := .cells #[.int .i64 t275, .int .i64 t276] 27 (0, 0)) (by (with_reducible repeat (first|apply xN|apply xD|apply xA)); exact BK278.out) hb)
              have n7_ := aM (xB (g := gb282) (o := .cells #[.int .i64 t279, .int .i64 t280] 27 (0, 0)) (by (with_reducible repeat (first|apply xN|apply xD|apply xA)); exact BK282.out) hb)
              have n8_ := aM (below_step (by repeat (first | (with_reducible first | exact HB.out | apply yA | apply yN | apply yD | refine yS ?_ GE255.out | refine yS ?_ GE259.out | refine yS ?_ GE265.out | refine yS ?_ GE266.out | refine yS ?_ GE270.out | refine yS ?_ GE274.out | refine yS ?_ GE278.out | refine yS ?_ GE282.out) | exact HB.out)) hb)
              clear BK255
              clear BK259
              clear BK265
              clear BK266
              clear BK270
              clear BK274
              clear BK278
              clear BK282
              clear HB
              have BK255 := n0_
              have BK259 := n1_
              have BK265 := n2_
              have BK266 := n3_
              have BK270 := n4_
              have BK274 := n5_
              have BK278 := n6_
              have BK282 := n7_
              have HB := n8_
              clear n0_ n1_ n2_ n3_ n4_ n5_ n6_ n7_ n8_
              (try clear hb)
              (try clear hk)
              refine hK.out _ _ ⟨(xC BK265.out 0).trans rfl, (xC BK265.out 1).trans rfl, (xC BK266.out 0).trans rfl, (xC BK266.out 1).trans rfl⟩ (fun hHeld => ?_)
              clear hK K
              refine norm_ (a' := ?_) ?_ ?_
              rotate_left
              ·show Act.put _ (some 144) _ = _
               simp only [Act.put, List.setIfInBounds_toArray, List.set_cons_zero, List.set_cons_succ, i64_w, i32_w]
               rfl
              refine pure_ (i := 2) (N := some 145) (v := ?_) (a' := ?_) #[true, true, true, false, false, false, false, false, false, false, false, false, false, false, false, false, false, false, false, false] rfl rfl (any_of HT_.out (by kernel_rfl)) (fun _ _ _ h => h) (Or.inl ⟨by rfl, ?_⟩) ?_ ?_
              rotate_left
              ·intro w'
               go_simp
               with_reducible rfl
              rotate_left
              ·simp only [Act.put, List.setIfInBounds_toArray, List.set_cons_zero, List.set_cons_succ, i64_w, i32_w]
               rfl
              refine take_ (i := 3) (N := some 146) (v := ?_) (a' := ?_) #[true, true, true, true, false, false, false, false, false, false, false, false, false, false, false, false, false, false, false, false] rfl rfl (take_ofW HT_.out HW_.out (by kernel_rfl)) (fun _ _ _ h => h) (Or.inl ⟨by rfl, ?_⟩) hHeld ?_ ?_
              rotate_left
              ·rintro w' ⟨s0, s1, s2, s3⟩
               go_simp
               with_reducible rfl
              rotate_left
              ·simp only [Act.put, List.setIfInBounds_toArray, List.set_cons_zero, List.set_cons_succ, i64_w, i32_w]
               rfl
              refine one_ (i := 4) (N := some 147) #[true, true, true, true, true, false, false, false, false, false, false, false, false, false, false, false, false, false, false, false] rfl rfl (one_of HT_.out (by kernel_rfl)) (by decide) (fun K hK => ?_)
              refine goes_ Tryd.func8 (by kernel_rfl) rfl #[.agg #[.int .i64 t263, .int .i64 t264]] (by rfl) rfl rfl (by (try simp only [List.map_toArray, List.map_cons, List.map_nil]); first | done | rfl | (simp only [List.length_drop, List.length_take]; rfl)) ?_
              with_reducible refine (impl_IsRatio.calls kj295 t263 t264 false _ A394.out).mono ?_
              rintro e w411 ⟨rfl, hb⟩
              refine ⟨_, rfl, ?_⟩
              have n0_ := aM (xB (g := gb255) (o := .cells #[.int .i64 t252, .int .i64 t253] 27 (0, 0)) (by (with_reducible repeat (first|apply xN|apply xD|apply xA)); exact BK255.out) hb)
              have n1_ := aM (xB (g := gb259) (o := .cells #[.int .i64 t256, .int .i64 t257] 27 (0, 0)) (by (with_reducible repeat (first|apply xN|apply xD|apply xA)); exact BK259.out) hb)
              have n2_ := aM (xB (g := gb265) (o := .cells #[.int .i64 t261, .int .i64 t262] 27 (0, 0)) (by (with_reducible repeat (first|apply xN|apply xD|apply xA)); exact BK265.out) hb)
              have n3_ := aM (xB (g := gb266) (o := .cells #[.int .i64 t263, .int .i64 t264] 27 (0, 0)) (by (with_reducible repeat (first|apply xN|apply xD|apply xA)); exact BK266.out) hb)
              have n4_ := aM (xB (g := gb270) (o := .cells #[.int .i64 t267, .int .i64 t268] 27 (0, 0)) (by (with_reducible repeat (first|apply xN|apply xD|apply xA)); exact BK270.out) hb)
              have n5_ := aM (xB (g := gb274) (o := .cells #[.int .i64 t271, .int .i64 t272] 27 (0, 0)) (by (with_reducible repeat (first|apply xN|apply xD|apply xA)); exact BK274.out) hb)
              have n6_ := aM (xB (g := gb278) (o := .cells #[.int .i64 t275, .int .i64 t276] 27 (0, 0)) (by (with_reducible repeat (first|apply xN|apply xD|apply xA)); exact BK278.out) hb)
              have n7_ := aM (xB (g := gb282) (o := .cells #[.int .i64 t279, .int .i64 t280] 27 (0, 0)) (by (with_reducible repeat (first|apply xN|apply xD|apply xA)); exact BK282.out) hb)
              have n8_ := aM (below_step (by repeat (first | (with_reducible first | exact HB.out | apply yA | apply yN | apply yD | refine yS ?_ GE255.out | refine yS ?_ GE259.out | refine yS ?_ GE265.out | refine yS ?_ GE266.out | refine yS ?_ GE270.out | refine yS ?_ GE274.out | refine yS ?_ GE278.out | refine yS ?_ GE282.out) | exact HB.out)) hb)
              clear BK255
              clear BK259
              clear BK265
              clear BK266
              clear BK270
              clear BK274
              clear BK278
              clear BK282
              clear HB
              have BK255 := n0_
              have BK259 := n1_
              have BK265 := n2_
              have BK266 := n3_
              have BK270 := n4_
              have BK274 := n5_
              have BK278 := n6_
              have BK282 := n7_
              have HB := n8_
              clear n0_ n1_ n2_ n3_ n4_ n5_ n6_ n7_ n8_
              (try clear hb)
              (try clear hk)
              refine hK.out _ _ ⟨(xC BK265.out 0).trans rfl, (xC BK265.out 1).trans rfl, (xC BK266.out 0).trans rfl, (xC BK266.out 1).trans rfl⟩ (fun hHeld => ?_)
              clear hK K
              refine norm_ (a' := ?_) ?_ ?_
              rotate_left
              ·show Act.put _ (some 147) _ = _
               simp only [Act.put, List.setIfInBounds_toArray, List.set_cons_zero, List.set_cons_succ, i64_w, i32_w]
               rfl
              refine pure_ (i := 5) (N := some 148) (v := ?_) (a' := ?_) #[true, true, true, true, true, true, false, false, false, false, false, false, false, false, false, false, false, false, false, false] rfl rfl (any_of HT_.out (by kernel_rfl)) (fun _ _ _ h => h) (Or.inl ⟨by rfl, ?_⟩) ?_ ?_
              rotate_left
              ·intro w'
               go_simp
               with_reducible rfl
              rotate_left
              ·simp only [Act.put, List.setIfInBounds_toArray, List.set_cons_zero, List.set_cons_succ, i64_w, i32_w]
               rfl
              refine pure_ (i := 6) (N := some 149) (v := ?_) (a' := ?_) #[true, true, true, true, true, true, true, false, false, false, false, false, false, false, false, false, false, false, false, false] rfl rfl (any_of HT_.out (by kernel_rfl)) (fun _ _ _ h => h) (Or.inl ⟨by rfl, ?_⟩) ?_ ?_
              rotate_left
              ·intro w'
               go_simp
               with_reducible rfl
              rotate_left
              ·simp only [Act.put, List.setIfInBounds_toArray, List.set_cons_zero, List.set_cons_succ, i64_w, i32_w]
               rfl
              refine pure_ (i := 7) (N := some 150) (v := undef) (a' := ?_) #[true, true, true, true, true, true, true, true, false, false, false, false, false, false, false, false, false, false, false, false] rfl rfl (any_of HT_.out (by kernel_rfl)) (fun _ _ _ h => h) (Or.inr ⟨by rfl, rfl⟩) ?_ ?_
              rotate_left
              ·simp only [Act.put, List.setIfInBounds_toArray, List.set_cons_zero, List.set_cons_succ, i64_w, i32_w]
               rfl
              refine pure_ (i := 8) (N := some 151) (v := undef) (a' := ?_) #[true, true, true, true, true, true, true, true, true, false, false, false, false, false, false, false, false, false, false, false] rfl rfl (any_of HT_.out (by kernel_rfl)) (fun _ _ _ h => h) (Or.inr ⟨by rfl, rfl⟩) ?_ ?_
              rotate_left
              ·simp only [Act.put, List.setIfInBounds_toArray, List.set_cons_zero, List.set_cons_succ, i64_w, i32_w]
               rfl
              refine pure_ (i := 9) (N := some 152) (v := undef) (a' := ?_) #[true, true, true, true, true, true, true, true, true, true, false, false, false, false, false, false, false, false, false, false] rfl rfl (any_of HT_.out (by kernel_rfl)) (fun _ _ _ h => h) (Or.inr ⟨by rfl, rfl⟩) ?_ ?_
              rotate_left
              ·simp only [Act.put, List.setIfInBounds_toArray, List.set_cons_zero, List.set_cons_succ, i64_w, i32_w]
               rfl
              refine pure_ (i := 10) (N := some 153) (v := undef) (a' := ?_) #[true, true, true, true, true, true, true, true, true, true, true, false, false, false, false, false, false, false, false, false] rfl rfl (any_of HT_.out (by kernel_rfl)) (fun _ _ _ h => h) (Or.inr ⟨by rfl, rfl⟩) ?_ ?_
              rotate_left
              ·simp only [Act.put, List.setIfInBounds_toArray, List.set_cons_zero, List.set_cons_succ, i64_w, i32_w]
               rfl
              refine pure_ (i := 11) (N := some 154) (v := undef) (a' := ?_) #[true, true, true, true, true, true, true, true, true, true, true, true, false, false, false, false, false, false, false, false] rfl rfl (any_of HT_.out (by kernel_rfl)) (fun _ _ _ h => h) (Or.inr ⟨by rfl, rfl⟩) ?_ ?_
              rotate_left
              ·simp only [Act.put, List.setIfInBounds_toArray, List.set_cons_zero, List.set_cons_succ, i64_w, i32_w]
               rfl
              refine pure_ (i := 12) (N := some 155) (v := undef) (a' := ?_) #[true, true, true, true, true, true, true, true, true, true, true, true, true, false, false, false, false, false, false, false] rfl rfl (any_of HT_.out (by kernel_rfl)) (fun _ _ _ h => h) (Or.inr ⟨by rfl, rfl⟩) ?_ ?_
              rotate_left
              ·simp only [Act.put, List.setIfInBounds_toArray, List.set_cons_zero, List.set_cons_succ, i64_w, i32_w]
               rfl
              refine pure_ (i := 13) (N := some 156) (v := undef) (a' := ?_) #[true, true, true, true, true, true, true, true, true, true, true, true, true, true, false, false, false, false, false, false] rfl rfl (any_of HT_.out (by kernel_rfl)) (fun _ _ _ h => h) (Or.inr ⟨by rfl, rfl⟩) ?_ ?_
              rotate_left
              ·simp only [Act.put, List.setIfInBounds_toArray, List.set_cons_zero, List.set_cons_succ, i64_w, i32_w]
               rfl
              refine pure_ (i := 14) (N := some 157) (v := undef) (a' := ?_) #[true, true, true, true, true, true, true, true, true, true, true, true, true, true, true, false, false, false, false, false] rfl rfl (any_of HT_.out (by kernel_rfl)) (fun _ _ _ h => h) (Or.inr ⟨by rfl, rfl⟩) ?_ ?_
              rotate_left
              ·simp only [Act.put, List.setIfInBounds_toArray, List.set_cons_zero, List.set_cons_succ, i64_w, i32_w]
               rfl
              refine pure_ (i := 15) (N := some 158) (v := undef) (a' := ?_) #[true, true, true, true, true, true, true, true, true, true, true, true, true, true, true, true, false, false, false, false] rfl rfl (any_of HT_.out (by kernel_rfl)) (fun _ _ _ h => h) (Or.inr ⟨by rfl, rfl⟩) ?_ ?_
              rotate_left
              ·simp only [Act.put, List.setIfInBounds_toArray, List.set_cons_zero, List.set_cons_succ, i64_w, i32_w]
               rfl
              refine pure_ (i := 16) (N := some 159) (v := undef) (a' := ?_) #[true, true, true, true, true, true, true, true, true, true, true, true, true, true, true, true, true, false, false, false] rfl rfl (any_of HT_.out (by kernel_rfl)) (fun _ _ _ h => h) (Or.inr ⟨by rfl, rfl⟩) ?_ ?_
              rotate_left
              ·simp only [Act.put, List.setIfInBounds_toArray, List.set_cons_zero, List.set_cons_succ, i64_w, i32_w]
               rfl
              refine pure_ (i := 17) (N := some 160) (v := undef) (a' := ?_) #[true, true, true, true, true, true, true, true, true, true, true, true, true, true, true, true, true, true, false, false] rfl rfl (any_of HT_.out (by kernel_rfl)) (fun _ _ _ h => h) (Or.inr ⟨by rfl, rfl⟩) ?_ ?_
              rotate_left
              ·simp only [Act.put, List.setIfInBounds_toArray, List.set_cons_zero, List.set_cons_succ, i64_w, i32_w]
               rfl
              refine pure_ (i := 18) (N := some 161) (v := undef) (a' := ?_) #[true, true, true, true, true, true, true, true, true, true, true, true, true, true, true, true, true, true, true, false] rfl rfl (any_of HT_.out (by kernel_rfl)) (fun _ _ _ h => h) (Or.inr ⟨by rfl, rfl⟩) ?_ ?_
              rotate_left
              ·simp only [Act.put, List.setIfInBounds_toArray, List.set_cons_zero, List.set_cons_succ, i64_w, i32_w]
               rfl
              refine pure_ (i := 19) (N := some 162) (v := ?_) (a' := ?_) #[true, true, true, true, true, true, true, true, true, true, true, true, true, true, true, true, true, true, true, true] rfl rfl (any_of HT_.out (by kernel_rfl)) (fun _ _ _ h => h) (Or.inl ⟨by rfl, ?_⟩) ?_ ?_
              rotate_left
              ·intro w'
               go_simp
               with_reducible rfl
              rotate_left
              ·simp only [Act.put, List.setIfInBounds_toArray, List.set_cons_zero, List.set_cons_succ, i64_w, i32_w]
               rfl
              refine done_ (done_of HT_.out (by kernel_rfl)) ?_
              try go_wp2
              go_meet
              case rel => exact ⟨_, (false), (by first | rfl | (simp; done) | (simp [*]; done)), H', ⟨by have := HJ15.out; have := HJ40.out; have := HJ295.out; first | omega | exact Nat.le_refl _⟩, ⟨by (with_reducible repeat (first|apply xN|apply xD|apply xA)); exact BK255.out⟩, ⟨by (with_reducible repeat (first|apply xN|apply xD|apply xA)); exact BK259.out⟩, ⟨by (with_reducible repeat (first|apply xN|apply xD|apply xA)); exact BK265.out⟩, ⟨by (with_reducible repeat (first|apply xN|apply xD|apply xA)); exact BK266.out⟩, ⟨by (with_reducible repeat (first|apply xN|apply xD|apply xA)); exact BK270.out⟩, ⟨by (with_reducible repeat (first|apply xN|apply xD|apply xA)); exact BK274.out⟩, ⟨by (with_reducible repeat (first|apply xN|apply xD|apply xA)); exact BK278.out⟩, ⟨by (with_reducible repeat (first|apply xN|apply xD|apply xA)); exact BK282.out⟩, ⟨by repeat (first | (with_reducible first | exact HB.out | apply yA | apply yN | apply yD | refine yS ?_ GE255.out | refine yS ?_ GE259.out | refine yS ?_ GE265.out | refine yS ?_ GE266.out | refine yS ?_ GE270.out | refine yS ?_ GE274.out | refine yS ?_ GE278.out | refine yS ?_ GE282.out) | exact HB.out)⟩⟩
            ·replace c393 := Bool.eq_false_iff.mpr c393
             subst c393
             replace H : (laws_FnRatios.j3 kj295 false t261 t262) = some r := by rw [if_neg (show ¬ (false = true) by decide)] at H; exact H
             have H' := aM H
             clear H
             try go_wp2
             have n0_ := aM (xD BK255.out)
             have n1_ := aM (xD BK259.out)
             have n2_ := aM (xD BK265.out)
             have n3_ := aM (xD BK266.out)
             have n4_ := aM (xD BK270.out)
             have n5_ := aM (xD BK274.out)
             have n6_ := aM (xD BK278.out)
             have n7_ := aM (xD BK282.out)
             have n8_ := aM (yD HB.out)
             clear BK255
             clear BK259
             clear BK265
             clear BK266
             clear BK270
             clear BK274
             clear BK278
             clear BK282
             clear HB
             have BK255 := n0_
             have BK259 := n1_
             have BK265 := n2_
             have BK266 := n3_
             have BK270 := n4_
             have BK274 := n5_
             have BK278 := n6_
             have BK282 := n7_
             have HB := n8_
             clear n0_ n1_ n2_ n3_ n4_ n5_ n6_ n7_ n8_
             refine start_ (n := 20) (S := fun w' => w'.cell? ⟨gb265, 0, none⟩ = some (.int .i64 t261) ∧ w'.cell? ⟨gb265, 1, none⟩ = some (.int .i64 t262)) (ds := []) #[false, false, false, false, false, false, false, false, false, false, false, false, false, false, false, false, false, false, false, false] (by kernel_rfl) rfl rfl ⟨(xC BK265.out 0).trans rfl, (xC BK265.out 1).trans rfl⟩ (fun hHeld => ?_); refine with_tabW laws_FnRatios.tab21 laws_FnRatios.bits21 (fun HT_ HW_ => ?_)
             generalize wc.drew = w412 at BK255 BK259 BK265 BK266 BK270 BK274 BK278 BK282 HB hHeld ⊢
             refine take_ (i := 0) (N := some 143) (v := ?_) (a' := ?_) #[true, false, false, false, false, false, false, false, false, false, false, false, false, false, false, false, false, false, false, false] rfl rfl (take_ofW HT_.out HW_.out (by kernel_rfl)) (fun _ _ _ h => h) (Or.inl ⟨by rfl, ?_⟩) hHeld ?_ ?_
             rotate_left
             ·rintro w' ⟨s0, s1⟩
              go_simp
              with_reducible rfl
             rotate_left
             ·simp only [Act.put, List.setIfInBounds_toArray, List.set_cons_zero, List.set_cons_succ, i64_w, i32_w]
              rfl
             refine one_ (i := 1) (N := some 144) #[true, true, false, false, false, false, false, false, false, false, false, false, false, false, false, false, false, false, false, false] rfl rfl (one_of HT_.out (by kernel_rfl)) (by decide) (fun K hK => ?_)
             refine goes_ Tryd.func8 (by kernel_rfl) rfl #[.agg #[.int .i64 t261, .int .i64 t262]] (by rfl) rfl rfl (by (try simp only [List.map_toArray, List.map_cons, List.map_nil]); first | done | rfl | (simp only [List.length_drop, List.length_take]; rfl)) ?_
             with_reducible refine (impl_IsRatio.calls kj295 t261 t262 false _ A392.out).mono ?_
             rintro e w413 ⟨rfl, hb⟩
             refine ⟨_, rfl, ?_⟩
             have n0_ := aM (xB (g := gb255) (o := .cells #[.int .i64 t252, .int .i64 t253] 27 (0, 0)) (by (with_reducible repeat (first|apply xN|apply xD|apply xA)); exact BK255.out) hb)
             have n1_ := aM (xB (g := gb259) (o := .cells #[.int .i64 t256, .int .i64 t257] 27 (0, 0)) (by (with_reducible repeat (first|apply xN|apply xD|apply xA)); exact BK259.out) hb)
             have n2_ := aM (xB (g := gb265) (o := .cells #[.int .i64 t261, .int .i64 t262] 27 (0, 0)) (by (with_reducible repeat (first|apply xN|apply xD|apply xA)); exact BK265.out) hb)
             have n3_ := aM (xB (g := gb266) (o := .cells #[.int .i64 t263, .int .i64 t264] 27 (0, 0)) (by (with_reducible repeat (first|apply xN|apply xD|apply xA)); exact BK266.out) hb)
             have n4_ := aM (xB (g := gb270) (o := .cells #[.int .i64 t267, .int .i64 t268] 27 (0, 0)) (by (with_reducible repeat (first|apply xN|apply xD|apply xA)); exact BK270.out) hb)
             have n5_ := aM (xB (g := gb274) (o := .cells #[.int .i64 t271, .int .i64 t272] 27 (0, 0)) (by (with_reducible repeat (first|apply xN|apply xD|apply xA)); exact BK274.out) hb)
             have n6_ := aM (xB (g := gb278) (o := .cells #[.int .i64 t275, .int .i64 t276] 27 (0, 0)) (by (with_reducible repeat (first|apply xN|apply xD|apply xA)); exact BK278.out) hb)
             have n7_ := aM (xB (g := gb282) (o := .cells #[.int .i64 t279, .int .i64 t280] 27 (0, 0)) (by (with_reducible repeat (first|apply xN|apply xD|apply xA)); exact BK282.out) hb)
             have n8_ := aM (below_step (by repeat (first | (with_reducible first | exact HB.out | apply yA | apply yN | apply yD | refine yS ?_ GE255.out | refine yS ?_ GE259.out | refine yS ?_ GE265.out | refine yS ?_ GE266.out | refine yS ?_ GE270.out | refine yS ?_ GE274.out | refine yS ?_ GE278.out | refine yS ?_ GE282.out) | exact HB.out)) hb)
             clear BK255
             clear BK259
             clear BK265
             clear BK266
             clear BK270
             clear BK274
             clear BK278
             clear BK282
             clear HB
             have BK255 := n0_
             have BK259 := n1_
             have BK265 := n2_
             have BK266 := n3_
             have BK270 := n4_
             have BK274 := n5_
             have BK278 := n6_
             have BK282 := n7_
             have HB := n8_
             clear n0_ n1_ n2_ n3_ n4_ n5_ n6_ n7_ n8_
             (try clear hb)
             (try clear hk)
             refine hK.out _ _ ⟨(xC BK265.out 0).trans rfl, (xC BK265.out 1).trans rfl⟩ (fun hHeld => ?_)
             clear hK K
             refine norm_ (a' := ?_) ?_ ?_
             rotate_left
             ·show Act.put _ (some 144) _ = _
              simp only [Act.put, List.setIfInBounds_toArray, List.set_cons_zero, List.set_cons_succ, i64_w, i32_w]
              rfl
             refine pure_ (i := 2) (N := some 145) (v := ?_) (a' := ?_) #[true, true, true, false, false, false, false, false, false, false, false, false, false, false, false, false, false, false, false, false] rfl rfl (any_of HT_.out (by kernel_rfl)) (fun _ _ _ h => h) (Or.inl ⟨by rfl, ?_⟩) ?_ ?_
             rotate_left
             ·intro w'
              go_simp
              with_reducible rfl
             rotate_left
             ·simp only [Act.put, List.setIfInBounds_toArray, List.set_cons_zero, List.set_cons_succ, i64_w, i32_w]
              rfl
             refine pure_ (i := 3) (N := some 146) (v := undef) (a' := ?_) #[true, true, true, true, false, false, false, false, false, false, false, false, false, false, false, false, false, false, false, false] rfl rfl (any_of HT_.out (by kernel_rfl)) (fun _ _ _ h => h) (Or.inr ⟨by rfl, rfl⟩) ?_ ?_
             rotate_left
             ·simp only [Act.put, List.setIfInBounds_toArray, List.set_cons_zero, List.set_cons_succ, i64_w, i32_w]
              rfl
             refine pure_ (i := 4) (N := some 147) (v := undef) (a' := ?_) #[true, true, true, true, true, false, false, false, false, false, false, false, false, false, false, false, false, false, false, false] rfl rfl (any_of HT_.out (by kernel_rfl)) (fun _ _ _ h => h) (Or.inr ⟨by rfl, rfl⟩) ?_ ?_
             rotate_left
             ·simp only [Act.put, List.setIfInBounds_toArray, List.set_cons_zero, List.set_cons_succ, i64_w, i32_w]
              rfl
             refine pure_ (i := 5) (N := some 148) (v := ?_) (a' := ?_) #[true, true, true, true, true, true, false, false, false, false, false, false, false, false, false, false, false, false, false, false] rfl rfl (any_of HT_.out (by kernel_rfl)) (fun _ _ _ h => h) (Or.inl ⟨by rfl, ?_⟩) ?_ ?_
             rotate_left
             ·intro w'
              go_simp
              with_reducible rfl
             rotate_left
             ·simp only [Act.put, List.setIfInBounds_toArray, List.set_cons_zero, List.set_cons_succ, i64_w, i32_w]
              rfl
             refine pure_ (i := 6) (N := some 149) (v := ?_) (a' := ?_) #[true, true, true, true, true, true, true, false, false, false, false, false, false, false, false, false, false, false, false, false] rfl rfl (any_of HT_.out (by kernel_rfl)) (fun _ _ _ h => h) (Or.inl ⟨by rfl, ?_⟩) ?_ ?_
             rotate_left
             ·intro w'
              go_simp
              with_reducible rfl
             rotate_left
             ·simp only [Act.put, List.setIfInBounds_toArray, List.set_cons_zero, List.set_cons_succ, i64_w, i32_w]
              rfl
             refine pure_ (i := 7) (N := some 150) (v := undef) (a' := ?_) #[true, true, true, true, true, true, true, true, false, false, false, false, false, false, false, false, false, false, false, false] rfl rfl (any_of HT_.out (by kernel_rfl)) (fun _ _ _ h => h) (Or.inr ⟨by rfl, rfl⟩) ?_ ?_
             rotate_left
             ·simp only [Act.put, List.setIfInBounds_toArray, List.set_cons_zero, List.set_cons_succ, i64_w, i32_w]
              rfl
             refine pure_ (i := 8) (N := some 151) (v := undef) (a' := ?_) #[true, true, true, true, true, true, true, true, true, false, false, false, false, false, false, false, false, false, false, false] rfl rfl (any_of HT_.out (by kernel_rfl)) (fun _ _ _ h => h) (Or.inr ⟨by rfl, rfl⟩) ?_ ?_
             rotate_left
             ·simp only [Act.put, List.setIfInBounds_toArray, List.set_cons_zero, List.set_cons_succ, i64_w, i32_w]
              rfl
             refine pure_ (i := 9) (N := some 152) (v := undef) (a' := ?_) #[true, true, true, true, true, true, true, true, true, true, false, false, false, false, false, false, false, false, false, false] rfl rfl (any_of HT_.out (by kernel_rfl)) (fun _ _ _ h => h) (Or.inr ⟨by rfl, rfl⟩) ?_ ?_
             rotate_left
             ·simp only [Act.put, List.setIfInBounds_toArray, List.set_cons_zero, List.set_cons_succ, i64_w, i32_w]
              rfl
             refine pure_ (i := 10) (N := some 153) (v := undef) (a' := ?_) #[true, true, true, true, true, true, true, true, true, true, true, false, false, false, false, false, false, false, false, false] rfl rfl (any_of HT_.out (by kernel_rfl)) (fun _ _ _ h => h) (Or.inr ⟨by rfl, rfl⟩) ?_ ?_
             rotate_left
             ·simp only [Act.put, List.setIfInBounds_toArray, List.set_cons_zero, List.set_cons_succ, i64_w, i32_w]
              rfl
             refine pure_ (i := 11) (N := some 154) (v := undef) (a' := ?_) #[true, true, true, true, true, true, true, true, true, true, true, true, false, false, false, false, false, false, false, false] rfl rfl (any_of HT_.out (by kernel_rfl)) (fun _ _ _ h => h) (Or.inr ⟨by rfl, rfl⟩) ?_ ?_
             rotate_left
             ·simp only [Act.put, List.setIfInBounds_toArray, List.set_cons_zero, List.set_cons_succ, i64_w, i32_w]
              rfl
             refine pure_ (i := 12) (N := some 155) (v := undef) (a' := ?_) #[true, true, true, true, true, true, true, true, true, true, true, true, true, false, false, false, false, false, false, false] rfl rfl (any_of HT_.out (by kernel_rfl)) (fun _ _ _ h => h) (Or.inr ⟨by rfl, rfl⟩) ?_ ?_
             rotate_left
             ·simp only [Act.put, List.setIfInBounds_toArray, List.set_cons_zero, List.set_cons_succ, i64_w, i32_w]
              rfl
             refine pure_ (i := 13) (N := some 156) (v := undef) (a' := ?_) #[true, true, true, true, true, true, true, true, true, true, true, true, true, true, false, false, false, false, false, false] rfl rfl (any_of HT_.out (by kernel_rfl)) (fun _ _ _ h => h) (Or.inr ⟨by rfl, rfl⟩) ?_ ?_
             rotate_left
             ·simp only [Act.put, List.setIfInBounds_toArray, List.set_cons_zero, List.set_cons_succ, i64_w, i32_w]
              rfl
             refine pure_ (i := 14) (N := some 157) (v := undef) (a' := ?_) #[true, true, true, true, true, true, true, true, true, true, true, true, true, true, true, false, false, false, false, false] rfl rfl (any_of HT_.out (by kernel_rfl)) (fun _ _ _ h => h) (Or.inr ⟨by rfl, rfl⟩) ?_ ?_
             rotate_left
             ·simp only [Act.put, List.setIfInBounds_toArray, List.set_cons_zero, List.set_cons_succ, i64_w, i32_w]
              rfl
             refine pure_ (i := 15) (N := some 158) (v := undef) (a' := ?_) #[true, true, true, true, true, true, true, true, true, true, true, true, true, true, true, true, false, false, false, false] rfl rfl (any_of HT_.out (by kernel_rfl)) (fun _ _ _ h => h) (Or.inr ⟨by rfl, rfl⟩) ?_ ?_
             rotate_left
             ·simp only [Act.put, List.setIfInBounds_toArray, List.set_cons_zero, List.set_cons_succ, i64_w, i32_w]
              rfl
             refine pure_ (i := 16) (N := some 159) (v := undef) (a' := ?_) #[true, true, true, true, true, true, true, true, true, true, true, true, true, true, true, true, true, false, false, false] rfl rfl (any_of HT_.out (by kernel_rfl)) (fun _ _ _ h => h) (Or.inr ⟨by rfl, rfl⟩) ?_ ?_
             rotate_left
             ·simp only [Act.put, List.setIfInBounds_toArray, List.set_cons_zero, List.set_cons_succ, i64_w, i32_w]
              rfl
             refine pure_ (i := 17) (N := some 160) (v := undef) (a' := ?_) #[true, true, true, true, true, true, true, true, true, true, true, true, true, true, true, true, true, true, false, false] rfl rfl (any_of HT_.out (by kernel_rfl)) (fun _ _ _ h => h) (Or.inr ⟨by rfl, rfl⟩) ?_ ?_
             rotate_left
             ·simp only [Act.put, List.setIfInBounds_toArray, List.set_cons_zero, List.set_cons_succ, i64_w, i32_w]
              rfl
             refine pure_ (i := 18) (N := some 161) (v := undef) (a' := ?_) #[true, true, true, true, true, true, true, true, true, true, true, true, true, true, true, true, true, true, true, false] rfl rfl (any_of HT_.out (by kernel_rfl)) (fun _ _ _ h => h) (Or.inr ⟨by rfl, rfl⟩) ?_ ?_
             rotate_left
             ·simp only [Act.put, List.setIfInBounds_toArray, List.set_cons_zero, List.set_cons_succ, i64_w, i32_w]
              rfl
             refine pure_ (i := 19) (N := some 162) (v := ?_) (a' := ?_) #[true, true, true, true, true, true, true, true, true, true, true, true, true, true, true, true, true, true, true, true] rfl rfl (any_of HT_.out (by kernel_rfl)) (fun _ _ _ h => h) (Or.inl ⟨by rfl, ?_⟩) ?_ ?_
             rotate_left
             ·intro w'
              go_simp
              with_reducible rfl
             rotate_left
             ·simp only [Act.put, List.setIfInBounds_toArray, List.set_cons_zero, List.set_cons_succ, i64_w, i32_w]
              rfl
             refine done_ (done_of HT_.out (by kernel_rfl)) ?_
             try go_wp2
             go_meet
             case rel => exact ⟨_, (false), (by first | rfl | (simp; done) | (simp [*]; done)), H', ⟨by have := HJ15.out; have := HJ40.out; have := HJ295.out; first | omega | exact Nat.le_refl _⟩, ⟨by (with_reducible repeat (first|apply xN|apply xD|apply xA)); exact BK255.out⟩, ⟨by (with_reducible repeat (first|apply xN|apply xD|apply xA)); exact BK259.out⟩, ⟨by (with_reducible repeat (first|apply xN|apply xD|apply xA)); exact BK265.out⟩, ⟨by (with_reducible repeat (first|apply xN|apply xD|apply xA)); exact BK266.out⟩, ⟨by (with_reducible repeat (first|apply xN|apply xD|apply xA)); exact BK270.out⟩, ⟨by (with_reducible repeat (first|apply xN|apply xD|apply xA)); exact BK274.out⟩, ⟨by (with_reducible repeat (first|apply xN|apply xD|apply xA)); exact BK278.out⟩, ⟨by (with_reducible repeat (first|apply xN|apply xD|apply xA)); exact BK282.out⟩, ⟨by repeat (first | (with_reducible first | exact HB.out | apply yA | apply yN | apply yD | refine yS ?_ GE255.out | refine yS ?_ GE259.out | refine yS ?_ GE265.out | refine yS ?_ GE266.out | refine yS ?_ GE270.out | refine yS ?_ GE274.out | refine yS ?_ GE278.out | refine yS ?_ GE282.out) | exact HB.out)⟩⟩
           case rest => as_aux_lemma =>
            clear HC391
            try clear c3
            obtain ⟨kq, x162_390, rfl, HA, HJ390, BK255, BK259, BK265, BK266, BK270, BK274, BK278, BK282, HB⟩ := hcut
            cases kq with
            | zero => exact absurd HA.out (by simp [laws_FnRatios.j3])
            | succ kj390 =>
             have H := HA.out
             clear HA
             simp only [laws_FnRatios.j3] at H
             by_cases c414 : x162_390 = true
             ·subst c414
              replace H : (some false) = some r := by rw [if_pos rfl] at H; exact H
              exact absurd (Option.some.inj H) (by rw [hr_]; decide)
             ·replace c414 := Bool.eq_false_iff.mpr c414
              subst c414
              replace H : ((impl_FloorRatio.f kj390 t261 t262).bind fun t294 => ((impl_IsRatio.f kj390 t261 t262).bind fun t295 => (if t295 = true then (if (wrap64 (t294 * t262)) ≤ t261 then (if t261 < (wrap64 ((wrap64 (t294 + 1)) * t262)) then ((impl_RatioText.f kj390 t261 t262).bind fun t296 => (some (t296.toList != ([] : List UInt8)))) else (some false)) else (some false)) else (some true)))) = some r := by rw [if_neg (show ¬ (false = true) by decide)] at H; exact H
              replace H := Option.bind_eq_some_iff.mp H
              obtain ⟨t294, A4150, H⟩ := H
              replace H : ((impl_IsRatio.f kj390 t261 t262).bind fun t295 => (if t295 = true then (if (wrap64 (t294 * t262)) ≤ t261 then (if t261 < (wrap64 ((wrap64 (t294 + 1)) * t262)) then ((impl_RatioText.f kj390 t261 t262).bind fun t296 => (some (t296.toList != ([] : List UInt8)))) else (some false)) else (some false)) else (some true))) = some r := H
              have A415 := aM A4150
              clear A4150
              replace H := Option.bind_eq_some_iff.mp H
              obtain ⟨t295, A4160, H⟩ := H
              replace H : (if t295 = true then (if (wrap64 (t294 * t262)) ≤ t261 then (if t261 < (wrap64 ((wrap64 (t294 + 1)) * t262)) then ((impl_RatioText.f kj390 t261 t262).bind fun t296 => (some (t296.toList != ([] : List UInt8)))) else (some false)) else (some false)) else (some true)) = some r := H
              have A416 := aM A4160
              clear A4160
              by_cases c417 : t295 = true
              ·subst c417
               replace H : (if (wrap64 (t294 * t262)) ≤ t261 then (if t261 < (wrap64 ((wrap64 (t294 + 1)) * t262)) then ((impl_RatioText.f kj390 t261 t262).bind fun t296 => (some (t296.toList != ([] : List UInt8)))) else (some false)) else (some false)) = some r := by rw [if_pos rfl] at H; exact H
               by_cases c418 : (wrap64 (t294 * t262)) ≤ t261
               ·rw [if_pos c418] at H
                have c418b0 : decide ((wrap64 (t294 * t262)) ≤ t261) = true := decide_eq_true c418
                clear c418
                by_cases c419 : t261 < (wrap64 ((wrap64 (t294 + 1)) * t262))
                ·rw [if_pos c419] at H
                 have c419b0 : decide (t261 < (wrap64 ((wrap64 (t294 + 1)) * t262))) = true := decide_eq_true c419
                 clear c419
                 replace H := Option.bind_eq_some_iff.mp H
                 obtain ⟨t296, A4200, H⟩ := H
                 replace H : (some (t296.toList != ([] : List UInt8))) = some r := H
                 have A420 := aM A4200
                 clear A4200
                 obtain rfl := Option.some.inj H
                 have hnb421 := NB265_255.out
                 have hnc421 := NB255_265.out
                 have hnb422 := NB265_259.out
                 have hnc422 := NB259_265.out
                 have hnb423 := NB265_266.out
                 have hnc423 := NB266_265.out
                 have hnb424 := NB265_270.out
                 have hnc424 := NB270_265.out
                 have hnb425 := NB265_274.out
                 have hnc425 := NB274_265.out
                 have hnb426 := NB265_278.out
                 have hnc426 := NB278_265.out
                 have hnb427 := NB265_282.out
                 have hnc427 := NB282_265.out
                 have hcz428_0 : wc.cell? ⟨gb265, 0, none⟩ = some (.int .i64 t261) := (xC BK265.out 0).trans rfl
                 have hcz428_1 : wc.cell? ⟨gb265, 1, none⟩ = some (.int .i64 t262) := (xC BK265.out 1).trans rfl
                 have hfz428_0 := xZ BK265.out 0
                 have hfz428_1 := xZ BK265.out 1
                 go_wp2_with (first | ((with_reducible refine gate_callee (f := 13) rfl ?_); refine goesL_ (some 164) rfl rfl Tryd.func13 (by kernel_rfl) rfl #[.agg #[.int .i64 t261, .int .i64 t262]] rfl (by (try simp only [List.map_toArray, List.map_cons, List.map_nil]); first | done | rfl | (simp only [List.length_drop, List.length_take]; rfl)) ?_; (with_reducible refine (impl_FloorRatio.calls kj390 t261 t262 t294 _ A415.out).mono ?_); rintro e w429 ⟨rfl, hb⟩; refine ⟨_, rfl, ?_⟩; have n0_ := aM (xB (g := gb255) (o := .cells #[.int .i64 t252, .int .i64 t253] 27 (0, 0)) (by (with_reducible repeat (first|apply xN|apply xD|apply xA)); exact BK255.out) hb); have n1_ := aM (xB (g := gb259) (o := .cells #[.int .i64 t256, .int .i64 t257] 27 (0, 0)) (by (with_reducible repeat (first|apply xN|apply xD|apply xA)); exact BK259.out) hb); have n2_ := aM (xB (g := gb265) (o := .cells #[.int .i64 t261, .int .i64 t262] 27 (0, 0)) (by (with_reducible repeat (first|apply xN|apply xD|apply xA)); exact BK265.out) hb); have n3_ := aM (xB (g := gb266) (o := .cells #[.int .i64 t263, .int .i64 t264] 27 (0, 0)) (by (with_reducible repeat (first|apply xN|apply xD|apply xA)); exact BK266.out) hb); have n4_ := aM (xB (g := gb270) (o := .cells #[.int .i64 t267, .int .i64 t268] 27 (0, 0)) (by (with_reducible repeat (first|apply xN|apply xD|apply xA)); exact BK270.out) hb); have n5_ := aM (xB (g := gb274) (o := .cells #[.int .i64 t271, .int .i64 t272] 27 (0, 0)) (by (with_reducible repeat (first|apply xN|apply xD|apply xA)); exact BK274.out) hb); have n6_ := aM (xB (g := gb278) (o := .cells #[.int .i64 t275, .int .i64 t276] 27 (0, 0)) (by (with_reducible repeat (first|apply xN|apply xD|apply xA)); exact BK278.out) hb); have n7_ := aM (xB (g := gb282) (o := .cells #[.int .i64 t279, .int .i64 t280] 27 (0, 0)) (by (with_reducible repeat (first|apply xN|apply xD|apply xA)); exact BK282.out) hb); have n8_ := aM (below_step (by repeat (first | (with_reducible first | exact HB.out | apply yA | apply yN | apply yD | refine yS ?_ GE255.out | refine yS ?_ GE259.out | refine yS ?_ GE265.out | refine yS ?_ GE266.out | refine yS ?_ GE270.out | refine yS ?_ GE274.out | refine yS ?_ GE278.out | refine yS ?_ GE282.out) | exact HB.out)) hb); clear BK255; clear BK259; clear BK265; clear BK266; clear BK270; clear BK274; clear BK278; clear BK282; clear HB; have BK255 := n0_; have BK259 := n1_; have BK265 := n2_; have BK266 := n3_; have BK270 := n4_; have BK274 := n5_; have BK278 := n6_; have BK282 := n7_; have HB := n8_; clear n0_ n1_ n2_ n3_ n4_ n5_ n6_ n7_ n8_; (try clear hb); (try clear hk); (try clear hi); have hcz430_0 : w429.cell? ⟨gb265, 0, none⟩ = some (.int .i64 t261) := (xC BK265.out 0).trans rfl; have hcz430_1 : w429.cell? ⟨gb265, 1, none⟩ = some (.int .i64 t262) := (xC BK265.out 1).trans rfl; have hfz430_0 := xZ BK265.out 0; have hfz430_1 := xZ BK265.out 1) | ((with_reducible refine gate_callee (f := 8) rfl ?_); refine goesL_ (some 166) rfl rfl Tryd.func8 (by kernel_rfl) rfl #[.agg #[.int .i64 t261, .int .i64 t262]] rfl (by (try simp only [List.map_toArray, List.map_cons, List.map_nil]); first | done | rfl | (simp only [List.length_drop, List.length_take]; rfl)) ?_; (with_reducible refine (impl_IsRatio.calls kj390 t261 t262 true _ A416.out).mono ?_); rintro e w431 ⟨rfl, hb⟩; refine ⟨_, rfl, ?_⟩; have n0_ := aM (xB (g := gb255) (o := .cells #[.int .i64 t252, .int .i64 t253] 27 (0, 0)) (by (with_reducible repeat (first|apply xN|apply xD|apply xA)); exact BK255.out) hb); have n1_ := aM (xB (g := gb259) (o := .cells #[.int .i64 t256, .int .i64 t257] 27 (0, 0)) (by (with_reducible repeat (first|apply xN|apply xD|apply xA)); exact BK259.out) hb); have n2_ := aM (xB (g := gb265) (o := .cells #[.int .i64 t261, .int .i64 t262] 27 (0, 0)) (by (with_reducible repeat (first|apply xN|apply xD|apply xA)); exact BK265.out) hb); have n3_ := aM (xB (g := gb266) (o := .cells #[.int .i64 t263, .int .i64 t264] 27 (0, 0)) (by (with_reducible repeat (first|apply xN|apply xD|apply xA)); exact BK266.out) hb); have n4_ := aM (xB (g := gb270) (o := .cells #[.int .i64 t267, .int .i64 t268] 27 (0, 0)) (by (with_reducible repeat (first|apply xN|apply xD|apply xA)); exact BK270.out) hb); have n5_ := aM (xB (g := gb274) (o := .cells #[.int .i64 t271, .int .i64 t272] 27 (0, 0)) (by (with_reducible repeat (first|apply xN|apply xD|apply xA)); exact BK274.out) hb); have n6_ := aM (xB (g := gb278) (o := .cells #[.int .i64 t275, .int .i64 t276] 27 (0, 0)) (by (with_reducible repeat (first|apply xN|apply xD|apply xA)); exact BK278.out) hb); have n7_ := aM (xB (g := gb282) (o := .cells #[.int .i64 t279, .int .i64 t280] 27 (0, 0)) (by (with_reducible repeat (first|apply xN|apply xD|apply xA)); exact BK282.out) hb); have n8_ := aM (below_step (by repeat (first | (with_reducible first | exact HB.out | apply yA | apply yN | apply yD | refine yS ?_ GE255.out | refine yS ?_ GE259.out | refine yS ?_ GE265.out | refine yS ?_ GE266.out | refine yS ?_ GE270.out | refine yS ?_ GE274.out | refine yS ?_ GE278.out | refine yS ?_ GE282.out) | exact HB.out)) hb); clear BK255; clear BK259; clear BK265; clear BK266; clear BK270; clear BK274; clear BK278; clear BK282; clear HB; have BK255 := n0_; have BK259 := n1_; have BK265 := n2_; have BK266 := n3_; have BK270 := n4_; have BK274 := n5_; have BK278 := n6_; have BK282 := n7_; have HB := n8_; clear n0_ n1_ n2_ n3_ n4_ n5_ n6_ n7_ n8_; (try clear hb); (try clear hk); (try clear hi); have hcz432_0 : w431.cell? ⟨gb265, 0, none⟩ = some (.int .i64 t261) := (xC BK265.out 0).trans rfl; have hcz432_1 : w431.cell? ⟨gb265, 1, none⟩ = some (.int .i64 t262) := (xC BK265.out 1).trans rfl; have hfz432_0 := xZ BK265.out 0; have hfz432_1 := xZ BK265.out 1) | (go_at_call 14; (with_reducible refine (impl_RatioText.calls kj390 t261 t262 t296 _ (hT.out.below (by repeat (first | (with_reducible first | exact HB.out | apply yA | apply yN | apply yD | refine yS ?_ GE255.out | refine yS ?_ GE259.out | refine yS ?_ GE265.out | refine yS ?_ GE266.out | refine yS ?_ GE270.out | refine yS ?_ GE274.out | refine yS ?_ GE278.out | refine yS ?_ GE282.out) | exact HB.out))) A420.out).mono ?_); rintro e w433 ⟨rfl, hb⟩; have n0_ := aM (xB (g := gb255) (o := .cells #[.int .i64 t252, .int .i64 t253] 27 (0, 0)) (by (with_reducible repeat (first|apply xN|apply xD|apply xA)); exact BK255.out) hb); have n1_ := aM (xB (g := gb259) (o := .cells #[.int .i64 t256, .int .i64 t257] 27 (0, 0)) (by (with_reducible repeat (first|apply xN|apply xD|apply xA)); exact BK259.out) hb); have n2_ := aM (xB (g := gb265) (o := .cells #[.int .i64 t261, .int .i64 t262] 27 (0, 0)) (by (with_reducible repeat (first|apply xN|apply xD|apply xA)); exact BK265.out) hb); have n3_ := aM (xB (g := gb266) (o := .cells #[.int .i64 t263, .int .i64 t264] 27 (0, 0)) (by (with_reducible repeat (first|apply xN|apply xD|apply xA)); exact BK266.out) hb); have n4_ := aM (xB (g := gb270) (o := .cells #[.int .i64 t267, .int .i64 t268] 27 (0, 0)) (by (with_reducible repeat (first|apply xN|apply xD|apply xA)); exact BK270.out) hb); have n5_ := aM (xB (g := gb274) (o := .cells #[.int .i64 t271, .int .i64 t272] 27 (0, 0)) (by (with_reducible repeat (first|apply xN|apply xD|apply xA)); exact BK274.out) hb); have n6_ := aM (xB (g := gb278) (o := .cells #[.int .i64 t275, .int .i64 t276] 27 (0, 0)) (by (with_reducible repeat (first|apply xN|apply xD|apply xA)); exact BK278.out) hb); have n7_ := aM (xB (g := gb282) (o := .cells #[.int .i64 t279, .int .i64 t280] 27 (0, 0)) (by (with_reducible repeat (first|apply xN|apply xD|apply xA)); exact BK282.out) hb); have n8_ := aM (below_step (by repeat (first | (with_reducible first | exact HB.out | apply yA | apply yN | apply yD | refine yS ?_ GE255.out | refine yS ?_ GE259.out | refine yS ?_ GE265.out | refine yS ?_ GE266.out | refine yS ?_ GE270.out | refine yS ?_ GE274.out | refine yS ?_ GE278.out | refine yS ?_ GE282.out) | exact HB.out)) hb); clear BK255; clear BK259; clear BK265; clear BK266; clear BK270; clear BK274; clear BK278; clear BK282; clear HB; have BK255 := n0_; have BK259 := n1_; have BK265 := n2_; have BK266 := n3_; have BK270 := n4_; have BK274 := n5_; have BK278 := n6_; have BK282 := n7_; have HB := n8_; clear n0_ n1_ n2_ n3_ n4_ n5_ n6_ n7_ n8_; (try clear hb); (try clear hk); (try clear hi)))
                 go_ret
                 exact ⟨by first | rfl | (simp [errW_none, errW_some] <;> rfl) | (simp [*, errW_none, errW_some] <;> rfl) | (simp [*, errW_none, errW_some]; simpa using hr_), by repeat (first | (with_reducible first | exact HB.out | apply yA | apply yN | apply yD | refine yS ?_ GE255.out | refine yS ?_ GE259.out | refine yS ?_ GE265.out | refine yS ?_ GE266.out | refine yS ?_ GE270.out | refine yS ?_ GE274.out | refine yS ?_ GE278.out | refine yS ?_ GE282.out) | exact HB.out)⟩
                ·rw [if_neg c419] at H
                 have c419b0 : decide (t261 < (wrap64 ((wrap64 (t294 + 1)) * t262))) = false := decide_eq_false c419
                 clear c419
                 exact absurd (Option.some.inj H) (by rw [hr_]; decide)
               ·rw [if_neg c418] at H
                have c418b0 : decide ((wrap64 (t294 * t262)) ≤ t261) = false := decide_eq_false c418
                clear c418
                exact absurd (Option.some.inj H) (by rw [hr_]; decide)
              ·replace c417 := Bool.eq_false_iff.mpr c417
               subst c417
               replace H : (some true) = some r := by rw [if_neg (show ¬ (false = true) by decide)] at H; exact H
               obtain rfl := Option.some.inj H
               have hnb458 := NB265_255.out
               have hnc458 := NB255_265.out
               have hnb459 := NB265_259.out
               have hnc459 := NB259_265.out
               have hnb460 := NB265_266.out
               have hnc460 := NB266_265.out
               have hnb461 := NB265_270.out
               have hnc461 := NB270_265.out
               have hnb462 := NB265_274.out
               have hnc462 := NB274_265.out
               have hnb463 := NB265_278.out
               have hnc463 := NB278_265.out
               have hnb464 := NB265_282.out
               have hnc464 := NB282_265.out
               have hcz465_0 : wc.cell? ⟨gb265, 0, none⟩ = some (.int .i64 t261) := (xC BK265.out 0).trans rfl
               have hcz465_1 : wc.cell? ⟨gb265, 1, none⟩ = some (.int .i64 t262) := (xC BK265.out 1).trans rfl
               have hfz465_0 := xZ BK265.out 0
               have hfz465_1 := xZ BK265.out 1
               go_wp2_with (first | ((with_reducible refine gate_callee (f := 13) rfl ?_); refine goesL_ (some 164) rfl rfl Tryd.func13 (by kernel_rfl) rfl #[.agg #[.int .i64 t261, .int .i64 t262]] rfl (by (try simp only [List.map_toArray, List.map_cons, List.map_nil]); first | done | rfl | (simp only [List.length_drop, List.length_take]; rfl)) ?_; (with_reducible refine (impl_FloorRatio.calls kj390 t261 t262 t294 _ A415.out).mono ?_); rintro e w466 ⟨rfl, hb⟩; refine ⟨_, rfl, ?_⟩; have n0_ := aM (xB (g := gb255) (o := .cells #[.int .i64 t252, .int .i64 t253] 27 (0, 0)) (by (with_reducible repeat (first|apply xN|apply xD|apply xA)); exact BK255.out) hb); have n1_ := aM (xB (g := gb259) (o := .cells #[.int .i64 t256, .int .i64 t257] 27 (0, 0)) (by (with_reducible repeat (first|apply xN|apply xD|apply xA)); exact BK259.out) hb); have n2_ := aM (xB (g := gb265) (o := .cells #[.int .i64 t261, .int .i64 t262] 27 (0, 0)) (by (with_reducible repeat (first|apply xN|apply xD|apply xA)); exact BK265.out) hb); have n3_ := aM (xB (g := gb266) (o := .cells #[.int .i64 t263, .int .i64 t264] 27 (0, 0)) (by (with_reducible repeat (first|apply xN|apply xD|apply xA)); exact BK266.out) hb); have n4_ := aM (xB (g := gb270) (o := .cells #[.int .i64 t267, .int .i64 t268] 27 (0, 0)) (by (with_reducible repeat (first|apply xN|apply xD|apply xA)); exact BK270.out) hb); have n5_ := aM (xB (g := gb274) (o := .cells #[.int .i64 t271, .int .i64 t272] 27 (0, 0)) (by (with_reducible repeat (first|apply xN|apply xD|apply xA)); exact BK274.out) hb); have n6_ := aM (xB (g := gb278) (o := .cells #[.int .i64 t275, .int .i64 t276] 27 (0, 0)) (by (with_reducible repeat (first|apply xN|apply xD|apply xA)); exact BK278.out) hb); have n7_ := aM (xB (g := gb282) (o := .cells #[.int .i64 t279, .int .i64 t280] 27 (0, 0)) (by (with_reducible repeat (first|apply xN|apply xD|apply xA)); exact BK282.out) hb); have n8_ := aM (below_step (by repeat (first | (with_reducible first | exact HB.out | apply yA | apply yN | apply yD | refine yS ?_ GE255.out | refine yS ?_ GE259.out | refine yS ?_ GE265.out | refine yS ?_ GE266.out | refine yS ?_ GE270.out | refine yS ?_ GE274.out | refine yS ?_ GE278.out | refine yS ?_ GE282.out) | exact HB.out)) hb); clear BK255; clear BK259; clear BK265; clear BK266; clear BK270; clear BK274; clear BK278; clear BK282; clear HB; have BK255 := n0_; have BK259 := n1_; have BK265 := n2_; have BK266 := n3_; have BK270 := n4_; have BK274 := n5_; have BK278 := n6_; have BK282 := n7_; have HB := n8_; clear n0_ n1_ n2_ n3_ n4_ n5_ n6_ n7_ n8_; (try clear hb); (try clear hk); (try clear hi); have hcz467_0 : w466.cell? ⟨gb265, 0, none⟩ = some (.int .i64 t261) := (xC BK265.out 0).trans rfl; have hcz467_1 : w466.cell? ⟨gb265, 1, none⟩ = some (.int .i64 t262) := (xC BK265.out 1).trans rfl; have hfz467_0 := xZ BK265.out 0; have hfz467_1 := xZ BK265.out 1) | ((with_reducible refine gate_callee (f := 8) rfl ?_); refine goesL_ (some 166) rfl rfl Tryd.func8 (by kernel_rfl) rfl #[.agg #[.int .i64 t261, .int .i64 t262]] rfl (by (try simp only [List.map_toArray, List.map_cons, List.map_nil]); first | done | rfl | (simp only [List.length_drop, List.length_take]; rfl)) ?_; (with_reducible refine (impl_IsRatio.calls kj390 t261 t262 false _ A416.out).mono ?_); rintro e w468 ⟨rfl, hb⟩; refine ⟨_, rfl, ?_⟩; have n0_ := aM (xB (g := gb255) (o := .cells #[.int .i64 t252, .int .i64 t253] 27 (0, 0)) (by (with_reducible repeat (first|apply xN|apply xD|apply xA)); exact BK255.out) hb); have n1_ := aM (xB (g := gb259) (o := .cells #[.int .i64 t256, .int .i64 t257] 27 (0, 0)) (by (with_reducible repeat (first|apply xN|apply xD|apply xA)); exact BK259.out) hb); have n2_ := aM (xB (g := gb265) (o := .cells #[.int .i64 t261, .int .i64 t262] 27 (0, 0)) (by (with_reducible repeat (first|apply xN|apply xD|apply xA)); exact BK265.out) hb); have n3_ := aM (xB (g := gb266) (o := .cells #[.int .i64 t263, .int .i64 t264] 27 (0, 0)) (by (with_reducible repeat (first|apply xN|apply xD|apply xA)); exact BK266.out) hb); have n4_ := aM (xB (g := gb270) (o := .cells #[.int .i64 t267, .int .i64 t268] 27 (0, 0)) (by (with_reducible repeat (first|apply xN|apply xD|apply xA)); exact BK270.out) hb); have n5_ := aM (xB (g := gb274) (o := .cells #[.int .i64 t271, .int .i64 t272] 27 (0, 0)) (by (with_reducible repeat (first|apply xN|apply xD|apply xA)); exact BK274.out) hb); have n6_ := aM (xB (g := gb278) (o := .cells #[.int .i64 t275, .int .i64 t276] 27 (0, 0)) (by (with_reducible repeat (first|apply xN|apply xD|apply xA)); exact BK278.out) hb); have n7_ := aM (xB (g := gb282) (o := .cells #[.int .i64 t279, .int .i64 t280] 27 (0, 0)) (by (with_reducible repeat (first|apply xN|apply xD|apply xA)); exact BK282.out) hb); have n8_ := aM (below_step (by repeat (first | (with_reducible first | exact HB.out | apply yA | apply yN | apply yD | refine yS ?_ GE255.out | refine yS ?_ GE259.out | refine yS ?_ GE265.out | refine yS ?_ GE266.out | refine yS ?_ GE270.out | refine yS ?_ GE274.out | refine yS ?_ GE278.out | refine yS ?_ GE282.out) | exact HB.out)) hb); clear BK255; clear BK259; clear BK265; clear BK266; clear BK270; clear BK274; clear BK278; clear BK282; clear HB; have BK255 := n0_; have BK259 := n1_; have BK265 := n2_; have BK266 := n3_; have BK270 := n4_; have BK274 := n5_; have BK278 := n6_; have BK282 := n7_; have HB := n8_; clear n0_ n1_ n2_ n3_ n4_ n5_ n6_ n7_ n8_; (try clear hb); (try clear hk); (try clear hi)))
               go_ret
               exact ⟨by first | rfl | (simp [errW_none, errW_some] <;> rfl) | (simp [*, errW_none, errW_some] <;> rfl), by repeat (first | (with_reducible first | exact HB.out | apply yA | apply yN | apply yD | refine yS ?_ GE255.out | refine yS ?_ GE259.out | refine yS ?_ GE265.out | refine yS ?_ GE266.out | refine yS ?_ GE270.out | refine yS ?_ GE274.out | refine yS ?_ GE278.out | refine yS ?_ GE282.out) | exact HB.out)⟩

/-- THE ONE PURE STATEMENT of laws_FnRatios: yours. -/
def laws_FnRatios.Pure : Prop := ∀ (l0 : List Int), l0.length ≤ maxLen → l0.length * 1 ≤ 140737488351232 → (∀ x ∈ l0, (Lit.int .u8 x).wf = true) → ∃ k, laws_FnRatios.f k l0 = some true
theorem laws_FnRatios.walk (P : laws_FnRatios.Pure) (a0 : Option Addr) (len0 cap0 : Nat) (z0 : List Int) (w : World) (hT0 : Tab w) (w0 : (a0 = none ∧ len0 = 0 ∧ cap0 = 0 ∧ z0 = []) ∨ ∃ x, a0 = some x ∧ len0 ≤ cap0 ∧ cap0 ≤ maxLen ∧ z0.length = cap0 ∧ (∀ i, i < z0.length → w.cell? (x.add i) = some (.int .u8 (z0.getD i 0))) ∧ ∀ n ∈ z0, (Lit.int .u8 n).wf = true) (y0 : len0 * 1 ≤ 140737488351232) :
  Calls Tryd.prog 3 #[.slice a0 len0 cap0] w fun e w' => e = .returned (.bool true) ∧ Below w.heap.size w w' := by
 obtain ⟨l0, rfl, hr0, hm0, hw0, hc0⟩ := ReadsInt.ofRowC w0
 obtain ⟨k, h⟩ := P l0 hm0 y0 hw0
 refine (laws_FnRatios.calls k _ _ l0 true w hT0 (Kd.C_of_reads (d := (0 : Int)) (h1 := fun _ => rfl) hr0) hc0 h rfl).mono ?_
 rintro e w' ⟨rfl, hd⟩
 exact ⟨rfl, hd⟩

end Go.Proofs.YtinfglcccomilaaDoor.QFnRatios
