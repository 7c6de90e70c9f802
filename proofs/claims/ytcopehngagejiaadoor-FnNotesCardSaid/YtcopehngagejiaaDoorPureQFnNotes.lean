/- The law FnNotes returns true for each input of bytes. Conditions: each number is a byte; the reach of memory. -/
import Derived.Test.YtcopehngagejiaaDoorQFnNotesx7
import Derived.Test.YtcopehngagejiaaDoorLib
import Derived.Test.YtcopehngagejiaaDoorDraw
namespace Go.Proofs.YtcopehngagejiaaDoor.Pure
open Go.RowKit Go.Proofs.YtcopehngagejiaaDoor.QFnNotes Go.Proofs.YtcopehngagejiaaDoorW.PrintWords Go.Proofs.YtcopehngagejiaaDoorW.PrintLast Go.Proofs.YtcopehngagejiaaDoorW.PrintMore Go.Proofs.YtcopehngagejiaaDoor.Lib Go.Proofs.YtcopehngagejiaaDoor.Var Go.Proofs.YtcopehngagejiaaDoor.Draw

set_option linter.unusedSimpArgs false
theorem i_In (a l h : Int) : impl_InRange.f a l h = some (decide (l ≤ a ∧ a ≤ h)) := by
  unfold impl_InRange.f; by_cases e : l ≤ a <;> simp [e]
def hv (s : Int) : Int := rd [0, 2, 4, 5, 7, 9, 11] s
theorem hv_bd {s : Int} (h0 : 0 ≤ s) (h1 : s ≤ 6) : 0 ≤ hv s ∧ hv s ≤ 11 := by
  have : s = 0 ∨ s = 1 ∨ s = 2 ∨ s = 3 ∨ s = 4 ∨ s = 5 ∨ s = 6 := by omega
  rcases this with rfl | rfl | rfl | rfl | rfl | rfl | rfl <;> decide
def pv (s a o : Int) : Int := 12 * (o + 1) + hv s + a
def isN (s a o : Int) : Bool := decide ((0 ≤ s ∧ s ≤ 6) ∧ (-2 ≤ a ∧ a ≤ 2) ∧ (0 ≤ o ∧ o ≤ 8) ∧ (12 ≤ pv s a o ∧ pv s a o ≤ 120))
theorem isN_pos {s a o : Int} (h : isN s a o = true) : (0 ≤ s ∧ s ≤ 6) ∧ (-2 ≤ a ∧ a ≤ 2) ∧ (0 ≤ o ∧ o ≤ 8) ∧ (12 ≤ pv s a o ∧ pv s a o ≤ 120) := by unfold isN at h; exact of_decide_eq_true h
theorem i_pitch {s a o : Int} (h0 : 0 ≤ s) (h1 : s ≤ 6) (a0 : -1000000 ≤ a) (a1 : a ≤ 1000000) (o0 : -1000000 ≤ o) (o1 : o ≤ 1000000) : impl_Note_pitch.f s a o = some (pv s a o) := by
  have hb := hv_bd h0 h1
  unfold impl_Note_pitch.f impl_halves.f
  rw [if_pos h0, if_pos (by omega)]
  simp only [Option.bind_some]
  rw [show rd [0, 2, 4, 5, 7, 9, 11] s = hv s from rfl, w64 (n := o + 1) (by omega) (by omega), w64 (n := 12 * (o + 1)) (by omega) (by omega), w64 (n := 12 * (o + 1) + a) (by omega) (by omega), w64 (by omega) (by omega)]
  unfold pv; congr 1; omega
theorem i_isN (s a o : Int) : impl_IsNote.f s a o = some (isN s a o) := by
  unfold impl_IsNote.f isN
  by_cases h1 : 0 ≤ s ∧ s ≤ 6
  · by_cases h2 : -2 ≤ a ∧ a ≤ 2
    · by_cases h3 : 0 ≤ o ∧ o ≤ 8
      · simp only [i_In, h1, h2, h3, Option.bind_some, if_true, and_self, decide_true, true_and]
        rw [i_pitch h1.1 h1.2 (by omega) (by omega) (by omega) (by omega)]
        rfl
      · simp only [i_In, h1, h2, h3, Option.bind_some, if_true, and_self, decide_true, decide_false, false_and, and_false, Bool.false_eq_true, if_false]
    · simp only [i_In, h1, h2, Option.bind_some, if_true, and_self, decide_true, decide_false, false_and, and_false, Bool.false_eq_true, if_false]
  · simp only [i_In, h1, Option.bind_some, decide_false, false_and, Bool.false_eq_true, if_false]
theorem s_In (a l h : Int) : spec_l1In.f a l h = some (decide (l ≤ a ∧ a ≤ h)) := by
  unfold spec_l1In.f; by_cases e : l ≤ a <;> simp [e]
theorem s_pitch {s a o : Int} (h0 : 0 ≤ s) (h1 : s ≤ 6) (a0 : -1000000 ≤ a) (a1 : a ≤ 1000000) (o0 : -1000000 ≤ o) (o1 : o ≤ 1000000) : spec_l5Pitch.f s a o = some (pv s a o) := by
  have hb := hv_bd h0 h1
  unfold spec_l5Pitch.f spec_l5Base.f
  simp only [Option.bind_some]
  rw [if_pos h0, if_pos (by simp; omega)]
  rw [show rd [0, 2, 4, 5, 7, 9, 11] s = hv s from rfl, w64 (n := o + 1) (by omega) (by omega), w64 (n := 12 * (o + 1)) (by omega) (by omega), w64 (n := 12 * (o + 1) + hv s) (by omega) (by omega), w64 (by omega) (by omega)]
  rfl
theorem s_isN (s a o : Int) : spec_IsNote.f s a o = some (isN s a o) := by
  unfold spec_IsNote.f isN
  by_cases h1 : 0 ≤ s ∧ s ≤ 6
  · by_cases h2 : -2 ≤ a ∧ a ≤ 2
    · by_cases h3 : 0 ≤ o ∧ o ≤ 8
      · simp only [s_In, h1, h2, h3, Option.bind_some, if_true, and_self, decide_true, true_and]
        rw [s_pitch h1.1 h1.2 (by omega) (by omega) (by omega) (by omega)]
        rfl
      · simp only [s_In, h1, h2, h3, Option.bind_some, if_true, and_self, decide_true, decide_false, false_and, and_false, Bool.false_eq_true, if_false]
    · simp only [s_In, h1, h2, Option.bind_some, if_true, and_self, decide_true, decide_false, false_and, and_false, Bool.false_eq_true, if_false]
  · simp only [s_In, h1, Option.bind_some, decide_false, false_and, Bool.false_eq_true, if_false]
def ntested (i : Fin 7) (j : Fin 5) (o : Fin 9) : Bool := decide (spec_NoteText.f 30 (i.1 : Int) ((j.1 : Int) - 2) (o.1 : Int) = impl_NoteText.f (i.1 : Int) ((j.1 : Int) - 2) (o.1 : Int)) && (impl_NoteText.f (i.1 : Int) ((j.1 : Int) - 2) (o.1 : Int)).isSome
set_option maxRecDepth 100000 in
theorem nall_tested : ∀ (i : Fin 7) (j : Fin 5) (o : Fin 9), ntested i j o = true := by decide +kernel
/-- Both texts of a note are the same. -/
theorem ntext (a b c : Int) : spec_NoteText.f 30 a b c = impl_NoteText.f a b c ∧ ∃ t, impl_NoteText.f a b c = some t := by
  by_cases h : isN a b c = true
  · have p := isN_pos h
    have e := nall_tested ⟨a.toNat, by omega⟩ ⟨(b + 2).toNat, by omega⟩ ⟨c.toNat, by omega⟩
    unfold ntested at e
    have e1 : ((a.toNat : Nat) : Int) = a := by omega
    have e2 : (((b + 2).toNat : Nat) : Int) - 2 = b := by omega
    have e3 : ((c.toNat : Nat) : Int) = c := by omega
    simp only [e1, e2, e3, Bool.and_eq_true, decide_eq_true_eq] at e
    exact ⟨e.1, Option.isSome_iff_exists.1 e.2⟩
  · have e1 : spec_NoteText.f 30 a b c = some ⟨#[]⟩ := by
      unfold spec_NoteText.f
      simp only [s_isN, h, Option.bind_some, Bool.false_eq_true, if_false]
    have e2 : impl_NoteText.f a b c = some ⟨#[]⟩ := by
      unfold impl_NoteText.f
      simp only [i_isN, h, Option.bind_some, Bool.false_eq_true, if_false]
    exact ⟨e1.trans e2.symm, _, e2⟩
theorem ba_ext {a b : ByteArray} (h : a.data.toList = b.data.toList) : a = b := by
  cases a; cases b; simp only [ByteArray.mk.injEq]; exact Array.toList_inj.1 h
theorem tl_inj {a b : ByteArray} (h : a.toList = b.toList) : a = b := ba_ext (by rw [ByteArray.toList_eq, ByteArray.toList_eq] at h; exact h)
def nstep (x : UInt8) : Int := if x = 99 then 0 else if x = 100 then 1 else if x = 101 then 2 else if x = 102 then 3 else if x = 103 then 4 else if x = 97 then 5 else 6
/-- The note that a text tells. -/
def ndec (t : ByteArray) : Int × Int × Int := match t.data.toList with
  | [x, o] => (nstep x, 0, (o.toNat : Int) - 48)
  | [x, y, o] => (nstep x, if y = 35 then 1 else -1, (o.toNat : Int) - 48)
  | [x, y, _, o] => (nstep x, if y = 35 then 2 else -2, (o.toNat : Int) - 48)
  | _ => (0, 0, 0)
def dtested (i : Fin 7) (j : Fin 5) (o : Fin 9) : Bool := !isN (i.1 : Int) ((j.1 : Int) - 2) (o.1 : Int) || (match impl_NoteText.f (i.1 : Int) ((j.1 : Int) - 2) (o.1 : Int) with
  | some t => decide (ndec t = ((i.1 : Int), (j.1 : Int) - 2, (o.1 : Int)))
  | none => false)
set_option maxRecDepth 100000 in
theorem dall_tested : ∀ (i : Fin 7) (j : Fin 5) (o : Fin 9), dtested i j o = true := by decide +kernel
theorem dec_text {a b c : Int} {t : ByteArray} (h : isN a b c = true) (ht : impl_NoteText.f a b c = some t) : ndec t = (a, b, c) := by
  have p := isN_pos h
  have e := dall_tested ⟨a.toNat, by omega⟩ ⟨(b + 2).toNat, by omega⟩ ⟨c.toNat, by omega⟩
  unfold dtested at e
  have e1 : ((a.toNat : Nat) : Int) = a := by omega
  have e2 : (((b + 2).toNat : Nat) : Int) - 2 = b := by omega
  have e3 : ((c.toNat : Nat) : Int) = c := by omega
  simp only [e1, e2, e3, h, ht, Bool.not_true, Bool.false_or, decide_eq_true_eq] at e
  exact e
theorem s_text (a b c : Int) : ∃ t, impl_NoteText.f a b c = some t ∧ Ev (fun k => spec_NoteText.f k a b c) t := by
  obtain ⟨h, t, ht⟩ := ntext a b c
  refine ⟨t, ht, 30, fun k hk => ?_⟩
  show spec_NoteText.f k a b c = some t
  induction k with
  | zero => omega
  | succ k ih =>
    by_cases g : k + 1 = 30
    · rw [g, h, ht]
    · exact spec_NoteText.mono a b c k t (ih (by omega))
def Good (s : ByteArray) (R : Int × Int × Int × Bool) (Q : Int → Int → Int → Prop) : Prop :=
  (∃ x y z, R = (x, y, z, true) ∧ isN x y z = true ∧ impl_NoteText.f x y z = some s) ∨ (R = (0, 0, 0, false) ∧ ∀ x y z, isN x y z = true → Q x y z → impl_NoteText.f x y z ≠ some s)
theorem Good.on {s : ByteArray} {R : Int × Int × Int × Bool} {Q Q' : Int → Int → Int → Prop} (g : Good s R Q) (h : ∀ x y z, isN x y z = true → Q' x y z → Q x y z ∨ impl_NoteText.f x y z ≠ some s) : Good s R Q' := by
  rcases g with g | ⟨e, g⟩
  · exact .inl g
  · refine .inr ⟨e, fun x y z hn hq => ?_⟩
    rcases h x y z hn hq with h | h
    · exact g x y z hn h
    · exact h
theorem ip2 (s : ByteArray) (o a : Int) (ha : wrap64 (a + 1) = a + 1) (R : Int × Int × Int × Bool) (Q : Int → Int → Int → Prop) (h1 : Ev (fun k => impl_notes.l1 (impl_ParseNote.is s) k o (a + 1)) R) (g : Good s R Q) :
    ∀ (d : Nat), d ≤ 5 → ∃ R', Ev (fun k => impl_notes.l2 (impl_ParseNote.is s) k o a (3 - (d : Int))) R' ∧ Good s R' (fun x y z => Q x y z ∨ (z = o ∧ x = a ∧ 3 - (d : Int) ≤ y)) := by
  intro d
  induction d with
  | zero =>
    intro _
    obtain ⟨K, e⟩ := evo h1
    refine ⟨R, ⟨K + 1, fun k hk => ?_⟩, g.on fun x y z hn hq => ?_⟩
    · obtain ⟨k, rfl⟩ : ∃ m, k = m + 1 := ⟨k - 1, by omega⟩
      show impl_notes.l2 _ (k + 1) o a _ = _
      simp only [impl_notes.l2]
      rw [if_neg (by omega), ha]
      exact e k (by omega)
    · have p := isN_pos hn
      rcases hq with hq | hq
      · exact .inl hq
      · omega
  | succ d ih =>
    intro hd
    obtain ⟨R', h2, g2⟩ := ih (by omega)
    have hw : wrap64 (3 - ((d + 1 : Nat) : Int) + 1) = 3 - (d : Int) := by rw [w64 (by omega) (by omega)]; omega
    generalize hc : 3 - ((d + 1 : Nat) : Int) = c at hw
    have hcd : 3 - (d : Int) = c + 1 := by omega
    rw [hcd] at h2 g2 hw
    obtain ⟨K2, e2⟩ := evo h2
    by_cases hn : isN a c o = true
    · obtain ⟨t, ht, _⟩ := s_text a c o
      have his : impl_ParseNote.is s a c o = some (t.toList == s.toList) := by unfold impl_ParseNote.is; rw [ht]; rfl
      by_cases hs : t = s
      · subst hs
        refine ⟨(a, c, o, true), ⟨1, fun k hk => ?_⟩, .inl ⟨a, c, o, rfl, hn, ht⟩⟩
        obtain ⟨k, rfl⟩ : ∃ m, k = m + 1 := ⟨k - 1, by omega⟩
        show impl_notes.l2 _ (k + 1) o a c = _
        simp only [impl_notes.l2]
        rw [if_pos (by omega), i_isN]
        simp only [hn, Option.bind_some, if_true, his, beq_self_eq_true]
      · have hf : (t.toList == s.toList) = false := beq_eq_false_iff_ne.mpr (fun e => hs (tl_inj e))
        refine ⟨R', ⟨K2 + 1, fun k hk => ?_⟩, g2.on fun x y z hnx hq => ?_⟩
        · obtain ⟨k, rfl⟩ : ∃ m, k = m + 1 := ⟨k - 1, by omega⟩
          show impl_notes.l2 _ (k + 1) o a c = _
          simp only [impl_notes.l2]
          rw [if_pos (by omega), i_isN]
          simp only [hn, Option.bind_some, if_true, his, hf, Bool.false_eq_true, if_false]
          rw [hw]
          exact e2 k (by omega)
        · rcases hq with hq | ⟨rfl, rfl, hq⟩
          · exact .inl (.inl hq)
          · by_cases ez : y = c
            · subst ez; right; rw [ht]; exact fun e => hs (Option.some.inj e)
            · exact .inl (.inr ⟨rfl, rfl, by omega⟩)
    · refine ⟨R', ⟨K2 + 1, fun k hk => ?_⟩, g2.on fun x y z hnx hq => ?_⟩
      · obtain ⟨k, rfl⟩ : ∃ m, k = m + 1 := ⟨k - 1, by omega⟩
        show impl_notes.l2 _ (k + 1) o a c = _
        simp only [impl_notes.l2]
        rw [if_pos (by omega), i_isN]
        simp only [hn, Option.bind_some, Bool.false_eq_true, if_false]
        rw [hw]
        exact e2 k (by omega)
      · rcases hq with hq | ⟨rfl, rfl, hq⟩
        · exact .inl (.inl hq)
        · by_cases ez : y = c
          · subst ez; exact absurd hnx hn
          · exact .inl (.inr ⟨rfl, rfl, by omega⟩)
theorem ip1 (s : ByteArray) (o : Int) (ho : wrap64 (o + 1) = o + 1) (R : Int × Int × Int × Bool) (Q : Int → Int → Int → Prop) (h1 : Ev (fun k => impl_notes.l0 (impl_ParseNote.is s) k (o + 1)) R) (g : Good s R Q) :
    ∀ (d : Nat), d ≤ 7 → ∃ R', Ev (fun k => impl_notes.l1 (impl_ParseNote.is s) k o (7 - (d : Int))) R' ∧ Good s R' (fun x y z => Q x y z ∨ (z = o ∧ 7 - (d : Int) ≤ x)) := by
  intro d
  induction d with
  | zero =>
    intro _
    obtain ⟨K, e⟩ := evo h1
    refine ⟨R, ⟨K + 1, fun k hk => ?_⟩, g.on fun x y z hn hq => ?_⟩
    · obtain ⟨k, rfl⟩ : ∃ m, k = m + 1 := ⟨k - 1, by omega⟩
      show impl_notes.l1 _ (k + 1) o _ = _
      simp only [impl_notes.l1]
      rw [if_neg (by omega), ho]
      exact e k (by omega)
    · have p := isN_pos hn
      rcases hq with hq | hq
      · exact .inl hq
      · omega
  | succ d ih =>
    intro hd
    obtain ⟨R', h2, g2⟩ := ih (by omega)
    generalize hc : 7 - ((d + 1 : Nat) : Int) = c
    have hcd : 7 - (d : Int) = c + 1 := by omega
    rw [hcd] at h2 g2
    obtain ⟨R2, h3, g3⟩ := ip2 s o c (w64 (by omega) (by omega)) R' _ h2 g2 5 (Nat.le_refl _)
    obtain ⟨K2, e2⟩ := evo h3
    refine ⟨R2, ⟨K2 + 1, fun k hk => ?_⟩, g3.on fun x y z hnx hq => ?_⟩
    · obtain ⟨k, rfl⟩ : ∃ m, k = m + 1 := ⟨k - 1, by omega⟩
      show impl_notes.l1 _ (k + 1) o c = _
      simp only [impl_notes.l1]
      rw [if_pos (by omega)]
      exact e2 k (by omega)
    · have p := isN_pos hnx
      rcases hq with hq | ⟨rfl, hq⟩
      · exact .inl (.inl (.inl hq))
      · by_cases ex : x = c
        · exact .inl (.inr ⟨rfl, ex, by omega⟩)
        · exact .inl (.inl (.inr ⟨rfl, by omega⟩))
theorem ip0 (s : ByteArray) : ∀ (d : Nat), d ≤ 9 → ∃ R', Ev (fun k => impl_notes.l0 (impl_ParseNote.is s) k (9 - (d : Int))) R' ∧ Good s R' (fun _ _ z => 9 - (d : Int) ≤ z) := by
  intro d
  induction d with
  | zero =>
    intro _
    refine ⟨(0, 0, 0, false), ⟨1, fun k hk => ?_⟩, .inr ⟨rfl, fun x y z hn hq => ?_⟩⟩
    · obtain ⟨k, rfl⟩ : ∃ m, k = m + 1 := ⟨k - 1, by omega⟩
      show impl_notes.l0 _ (k + 1) _ = _
      simp only [impl_notes.l0]
      rw [if_neg (by omega)]
    · have p := isN_pos hn
      omega
  | succ d ih =>
    intro hd
    obtain ⟨R', h2, g2⟩ := ih (by omega)
    generalize hc : 9 - ((d + 1 : Nat) : Int) = c
    have hcd : 9 - (d : Int) = c + 1 := by omega
    rw [hcd] at h2 g2
    obtain ⟨R2, h3, g3⟩ := ip1 s c (w64 (by omega) (by omega)) R' _ h2 g2 7 (Nat.le_refl _)
    obtain ⟨K2, e2⟩ := evo h3
    refine ⟨R2, ⟨K2 + 1, fun k hk => ?_⟩, g3.on fun x y z hnx hq => ?_⟩
    · obtain ⟨k, rfl⟩ : ∃ m, k = m + 1 := ⟨k - 1, by omega⟩
      show impl_notes.l0 _ (k + 1) c = _
      simp only [impl_notes.l0]
      rw [if_pos (by omega)]
      exact e2 k (by omega)
    · have p := isN_pos hnx
      by_cases ex : z = c
      · exact .inl (.inr ⟨ex, by omega⟩)
      · exact .inl (.inl (by omega))
theorem big_le (l : List Int) : laws_big.f l = some (decide ((l.length : Int) > 1048576)) := rfl
theorem d_New (l : List Int) (hl : l.length ≤ 1048576) : ∃ h, Ev (fun k => spec_l1New.f k l) (l, 0, h) := by
  unfold spec_l1New.f
  exact new_loop (L := fun k h i => spec_l1New.l0 k l h i) (M := fun h i => Go.bits .and .i64 (wrap64 ((wrap64 ((wrap64 (h * 137)) + (wrap64 (rd l i)))) + 11)) 1073741823) l (by omega) (fun k h i => by simp only [spec_l1New.l0]) l.length 0 _ (by omega)
theorem d_Byte (b : List Int) (hl : b.length ≤ 1048576) (i h : Int) (h0 : 0 ≤ i) (h1 : i ≤ (b.length : Int)) : Ok (spec_l1Byte.f b i h) b.length fun v => 0 ≤ v ∧ v ≤ 255 := by
  unfold spec_l1Byte.f
  refine Ok.ite (fun g => ?_) (fun g => ?_)
  · rw [if_pos h0, w64 (n := i + 1) (by omega) (by omega)]
    exact Ok.now (by omega) (by omega) (and255 _)
  · exact Ok.now h0 h1 (and255 _)
theorem d_Below (b : List Int) (hl : b.length ≤ 1048576) (n i h : Int) (h0 : 0 ≤ i) (h1 : i ≤ (b.length : Int)) : Ok (spec_l1Below.f b i h n) b.length fun v => 0 ≤ v ∧ (0 < n → v < n) ∧ (n ≤ 0 → v = 0) := by
  unfold spec_l1Below.f
  refine Ok.ite (fun g => Ok.now h0 h1 (by omega)) (fun g => Ok.ite (fun g2 => ?_) (fun g2 => ?_))
  · refine Ok.bind (d_Byte b hl i h h0 h1) (fun v i h h0 h1 hv => ?_)
    dsimp only
    rw [if_neg (by omega)]
    have := tmod_bd (x := v) (n := n) (by omega) (by omega)
    exact Ok.now h0 h1 (by omega)
  · refine Ok.bind (d_Byte b hl i h h0 h1) (fun x i h h0 h1 hx => ?_)
    refine Ok.bind (d_Byte b hl i h h0 h1) (fun y i h h0 h1 hy => ?_)
    refine Ok.bind (d_Byte b hl i h h0 h1) (fun z i h h0 h1 hz => ?_)
    dsimp only
    rw [if_neg (by omega), w64 (n := x * 65536) (by omega) (by omega), w64 (n := y * 256) (by omega) (by omega), w64 (n := x * 65536 + y * 256) (by omega) (by omega), w64 (n := x * 65536 + y * 256 + z) (by omega) (by omega)]
    have := tmod_bd (x := x * 65536 + y * 256 + z) (n := n) (by omega) (by omega)
    exact Ok.now h0 h1 (by omega)
theorem d_Int (b : List Int) (hl : b.length ≤ 1048576) (l : List Int) (hn : 0 < l.length) (i h : Int) (h0 : 0 ≤ i) (h1 : i ≤ (b.length : Int)) : Ok (spec_l1Int.f b i h l) b.length fun v => v ∈ l := by
  unfold spec_l1Int.f
  refine Ok.bind (d_Below b hl _ i h h0 h1) (fun v i h h0 h1 hv => ?_)
  dsimp only
  rw [if_pos (by omega), if_pos (by omega)]
  exact Ok.now h0 h1 (rd_mem (by omega) (by omega))
theorem d_5Draw (b : List Int) (hl : b.length ≤ 1048576) (i h : Int) (h0 : 0 ≤ i) (h1 : i ≤ (b.length : Int)) : ∃ x y z i' h', spec_l5Draw.f b i h = some (x, y, z, i', h') ∧ 0 ≤ i' ∧ i' ≤ (b.length : Int) := by
  obtain ⟨v1, i1, g1, e1, a1, b1, _⟩ := d_Below b hl 7 i h h0 h1
  obtain ⟨v2, i2, g2, e2, a2, b2, _⟩ := d_Below b hl 3 i1 g1 a1 b1
  obtain ⟨v3, i3, g3, e3, a3, b3, _⟩ := d_Below b hl 3 i2 g2 a2 b2
  refine ⟨v1, wrap64 (v2 - 1), wrap64 (3 + v3), i3, g3, ?_, a3, b3⟩
  unfold spec_l5Draw.f
  simp only [e1, e2, e3, Option.bind_some]
theorem d_5Any (b : List Int) (hl : b.length ≤ 1048576) (i h : Int) (h0 : 0 ≤ i) (h1 : i ≤ (b.length : Int)) : ∃ x y z i' h', spec_l5Any.f b i h = some (x, y, z, i', h') ∧ 0 ≤ i' ∧ i' ≤ (b.length : Int) := by
  obtain ⟨x, y, z, i1, g1, e1, a1, b1⟩ := d_5Draw b hl i h h0 h1
  obtain ⟨v2, i2, g2, e2, a2, b2, _⟩ := d_Below b hl 9 i1 g1 a1 b1
  unfold spec_l5Any.f
  simp only [e1, e2, Option.bind_some]
  by_cases c0 : v2 = 0
  · obtain ⟨v3, i3, g3, e3, a3, b3, _⟩ := d_Int b hl [(-1), 6, 7] (by decide) i2 g2 a2 b2
    rw [if_pos c0, e3]; exact ⟨_, _, _, i3, g3, rfl, a3, b3⟩
  · rw [if_neg c0]
    by_cases c1 : v2 = 1
    · obtain ⟨v3, i3, g3, e3, a3, b3, _⟩ := d_Int b hl [(-3), (-2), 2, 3] (by decide) i2 g2 a2 b2
      rw [if_pos c1, e3]; exact ⟨_, _, _, i3, g3, rfl, a3, b3⟩
    · rw [if_neg c1]
      by_cases c2 : v2 = 2
      · obtain ⟨v3, i3, g3, e3, a3, b3, _⟩ := d_Int b hl [(-1), 0, 8, 9] (by decide) i2 g2 a2 b2
        rw [if_pos c2, e3]; exact ⟨_, _, _, i3, g3, rfl, a3, b3⟩
      · rw [if_neg c2]; exact ⟨_, _, _, i2, g2, rfl, a2, b2⟩
theorem d_Once (b : List Int) (hl : b.length ≤ 1048576) (n i h : Int) (h0 : 0 ≤ i) (h1 : i ≤ (b.length : Int)) : Ok (spec_l1Once.f b i h n) b.length fun _ => True := by
  unfold spec_l1Once.f
  exact Ok.bind (d_Below b hl n i h h0 h1) (fun v i h h0 h1 _ => Ok.now h0 h1 trivial)
theorem d_Str (b : List Int) (hl : b.length ≤ 1048576) (l : List ByteArray) (hn : 0 < l.length) (i h : Int) (h0 : 0 ≤ i) (h1 : i ≤ (b.length : Int)) : Ok (spec_l1Str.f b i h l) b.length fun v => v ∈ l := by
  unfold spec_l1Str.f
  refine Ok.bind (d_Below b hl _ i h h0 h1) (fun v i h h0 h1 hv => ?_)
  dsimp only
  rw [if_pos (by omega), if_pos (by omega)]
  refine Ok.now h0 h1 ?_
  unfold rdOf
  have hk : v.toNat < l.length := by omega
  rw [List.getD_eq_getElem?_getD, List.getElem?_eq_getElem hk]
  exact List.getElem_mem hk
theorem xIn (a l h : Int) : spec_l1In.f a l h = some (decide (l ≤ a ∧ a ≤ h)) := by
  unfold spec_l1In.f; by_cases e : l ≤ a <;> simp [e]
theorem yIn (a l h : Int) : impl_InRange.f a l h = some (decide (l ≤ a ∧ a ≤ h)) := by
  unfold impl_InRange.f; by_cases e : l ≤ a <;> simp [e]
theorem pnote (s : ByteArray) : ∃ R, Ev (fun k => impl_ParseNote.f k s) R ∧ Good s R (fun _ _ _ => True) := by
  obtain ⟨R2, h2, g2⟩ := ip0 s 9 (Nat.le_refl _)
  exact ⟨R2, h2, g2.on fun x y z hn _ => .inl (by have := isN_pos hn; omega)⟩
theorem up {α : Type} {g : Nat → Option α} {r : α} (hm : ∀ k, LeO (g k) (g (k + 1))) (K : Nat) (h : g K = some r) : Ev g r := by
  refine ⟨K, fun k hk => ?_⟩
  show g k = some r
  obtain ⟨d, rfl⟩ : ∃ d, k = K + d := ⟨k - K, by omega⟩
  clear hk
  induction d with
  | zero => exact h
  | succ d ih => exact hm _ _ ih
def sharpTested (i : Fin 108) : Bool := match impl_SpellSharp.f 500 ((i.1 : Int) + 12), spec_SpellSharp.f 500 ((i.1 : Int) + 12) with
  | some (x, y, z, true), some _ => decide (impl_PitchOf.f x y z = some ((i.1 : Int) + 12)) && decide (0 ≤ y ∧ y ≤ 1)
  | _, _ => false
set_option maxRecDepth 100000 in
theorem sharpAll : ∀ i : Fin 108, sharpTested i = true := by decide +kernel
theorem sh_in {p : Int} (h : 12 ≤ p ∧ p ≤ 119) : (∃ x y z, Ev (fun k => impl_SpellSharp.f k p) (x, y, z, true) ∧ impl_PitchOf.f x y z = some p ∧ 0 ≤ y ∧ y ≤ 1) ∧ ∃ r, Ev (fun k => spec_SpellSharp.f k p) r := by
  have e := sharpAll ⟨(p - 12).toNat, by omega⟩
  have e1 : (((p - 12).toNat : Nat) : Int) + 12 = p := by omega
  unfold sharpTested at e
  simp only [e1] at e
  split at e
  · rename_i x y z r h1 h2
    simp only [Bool.and_eq_true, decide_eq_true_eq] at e
    exact ⟨⟨x, y, z, up (impl_SpellSharp.mono p) 500 h1, e.1, e.2.1, e.2.2⟩, r, up (spec_SpellSharp.mono p) 500 h2⟩
  · cases e
theorem sh_out {p : Int} (h : ¬ (12 ≤ p ∧ p ≤ 119)) (k : Nat) : impl_SpellSharp.f k p = some (0, 0, 0, false) ∧ spec_SpellSharp.f k p = some (0, 0, 0, false) := by
  unfold spec_SpellSharp.f impl_SpellSharp.f
  simp only [xIn, yIn, h, decide_false, Option.bind_some, Bool.false_eq_true, if_false, and_self]
theorem s_sh (p : Int) : ∃ r, Ev (fun k => spec_SpellSharp.f k p) r := by
  by_cases h : 12 ≤ p ∧ p ≤ 119
  · exact (sh_in h).2
  · exact ⟨_, 0, fun k _ => (sh_out h k).2⟩
theorem s_po (a b c : Int) : ∃ p, spec_PitchOf.f a b c = some p := by
  unfold spec_PitchOf.f
  simp only [s_isN, Option.bind_some]
  cases h : isN a b c
  · exact ⟨_, rfl⟩
  · have p := isN_pos h
    simp only [if_true, s_pitch p.1.1 p.1.2 (show -1000000 ≤ b by omega) (by omega) (show -1000000 ≤ c by omega) (by omega), Option.bind_some]
    exact ⟨_, rfl⟩
theorem i_po (a b c : Int) : impl_PitchOf.f a b c = some (if isN a b c = true then pv a b c else -1) := by
  unfold impl_PitchOf.f
  simp only [i_isN, Option.bind_some]
  cases h : isN a b c
  · rfl
  · have p := isN_pos h
    simp only [if_true, i_pitch p.1.1 p.1.2 (show -1000000 ≤ b by omega) (by omega) (show -1000000 ≤ c by omega) (by omega), Option.bind_some]
theorem i_same (a b c d e f : Int) : impl_SameSound.f a b c d e f = some (decide (isN a b c = true ∧ isN d e f = true ∧ pv a b c = pv d e f)) := by
  unfold impl_SameSound.f
  simp only [Option.bind_some, i_isN]
  cases h : isN a b c
  · simp
  · cases h2 : isN d e f
    · simp
    · have p := isN_pos h
      have q := isN_pos h2
      simp only [if_true, i_pitch p.1.1 p.1.2 (show -1000000 ≤ b by omega) (by omega) (show -1000000 ≤ c by omega) (by omega), i_pitch q.1.1 q.1.2 (show -1000000 ≤ e by omega) (by omega) (show -1000000 ≤ f by omega) (by omega), Option.bind_some, true_and]
      rfl
def zTested (i : Fin 7) (j : Fin 5) (o : Fin 9) : Bool := !isN (i.1 : Int) ((j.1 : Int) - 2) (o.1 : Int) || (match impl_NoteText.f (i.1 : Int) ((j.1 : Int) - 2) (o.1 : Int) with
  | some t => decide (0 < t.size ∧ t.size ≤ 4)
  | none => false)
set_option maxRecDepth 100000 in
theorem zall_tested : ∀ (i : Fin 7) (j : Fin 5) (o : Fin 9), zTested i j o = true := by decide +kernel
theorem nt_size {a b c : Int} {t : ByteArray} (h : isN a b c = true) (ht : impl_NoteText.f a b c = some t) : 0 < t.size ∧ t.size ≤ 4 := by
  have p := isN_pos h
  have e := zall_tested ⟨a.toNat, by omega⟩ ⟨(b + 2).toNat, by omega⟩ ⟨c.toNat, by omega⟩
  unfold zTested at e
  have e1 : ((a.toNat : Nat) : Int) = a := by omega
  have e2 : (((b + 2).toNat : Nat) : Int) - 2 = b := by omega
  have e3 : ((c.toNat : Nat) : Int) = c := by omega
  simp only [e1, e2, e3, h, ht, Bool.not_true, Bool.false_or, decide_eq_true_eq] at e
  exact e
theorem nt_no {a b c : Int} (h : ¬ isN a b c = true) : impl_NoteText.f a b c = some ⟨#[]⟩ := by
  unfold impl_NoteText.f
  simp only [i_isN, h, Option.bind_some, Bool.false_eq_true, if_false]
theorem nt_le {a b c : Int} {t : ByteArray} (ht : impl_NoteText.f a b c = some t) : t.size ≤ 4 := by
  by_cases h : isN a b c = true
  · exact (nt_size h ht).2
  · rw [nt_no h] at ht
    obtain rfl := Option.some.inj ht
    exact Nat.zero_le _
theorem d_DrawIsNote (l : List Int) (hl : l.length ≤ 1048576) : ∃ a b c, Ev (fun k => spec_DrawIsNote.f k l) (a, b, c) := by
  obtain ⟨h, e⟩ := d_New l hl
  obtain ⟨x, y, z, i1, h1, e1, a1, b1⟩ := d_5Any l hl 0 h (by omega) (by omega)
  obtain ⟨K1, e⟩ := evo e
  refine ⟨x, y, z, K1, fun k hk => ?_⟩
  show spec_DrawIsNote.f k l = _
  unfold spec_DrawIsNote.f
  simp only [e k (by omega), e1, Option.bind_some]
theorem d_DrawParseNote (l : List Int) (hl : l.length ≤ 1048576) : ∃ t, Ev (fun k => spec_DrawParseNote.f k l) t := by
  obtain ⟨h, e⟩ := d_New l hl
  obtain ⟨x, y, z, i1, h1, e1, a1, b1⟩ := d_5Any l hl 0 h (by omega) (by omega)
  obtain ⟨t, ht, e2⟩ := s_text x y z
  have hs := nt_le ht
  obtain ⟨K1, e⟩ := evo e
  obtain ⟨K2, e2⟩ := evo e2
  have main : ∃ r, ∀ k, K1 + K2 ≤ k → spec_DrawParseNote.f k l = some r := by
    obtain ⟨v, i2, h2, e3, _⟩ := d_Str l hl ([t, t, t, t, t ++ (⟨#[52]⟩ : ByteArray), (⟨#[104, 52]⟩ : ByteArray), (⟨#[67, 52]⟩ : ByteArray), (⟨#[99]⟩ : ByteArray), (⟨#[99, 35, 98, 52]⟩ : ByteArray), (⟨#[99, 35, 35, 52]⟩ : ByteArray), (⟨#[98, 98, 98, 51]⟩ : ByteArray), (⟨#[99, 98, 48]⟩ : ByteArray), (⟨#[98, 35, 56]⟩ : ByteArray), (⟨#[]⟩ : ByteArray)] : List ByteArray) (by simp) i1 h1 a1 b1
    refine ⟨v, fun k hk => ?_⟩
    unfold spec_DrawParseNote.f
    simp only [e k (by omega), e1, e2 k (by omega), Option.bind_some]
    rw [if_pos (by omega), e3]
    rfl
  obtain ⟨r, hr⟩ := main
  exact ⟨r, K1 + K2, hr⟩
theorem d_DrawSpellSharp (l : List Int) (hl : l.length ≤ 1048576) : ∃ p, Ev (fun k => spec_DrawSpellSharp.f k l) p := by
  obtain ⟨h, e⟩ := d_New l hl
  obtain ⟨v, i1, h1, e1, a1, b1, _⟩ := d_Below l hl 60 0 h (by omega) (by omega)
  obtain ⟨u, i2, h2, e2, _⟩ := d_Int l hl ([11, 12, 60, 61, 119, 120, (-1), wrap64 (30 + v)] : List Int) (by simp) i1 h1 a1 b1
  obtain ⟨K1, e⟩ := evo e
  refine ⟨u, K1, fun k hk => ?_⟩
  show spec_DrawSpellSharp.f k l = _
  unfold spec_DrawSpellSharp.f
  simp only [e k (by omega), e1, e2, Option.bind_some]
theorem d_DrawSameSound (l : List Int) (hl : l.length ≤ 1048576) : ∃ a b c d e f, Ev (fun k => spec_DrawSameSound.f k l) (a, b, c, d, e, f) := by
  obtain ⟨h, e⟩ := d_New l hl
  obtain ⟨x, y, z, i1, h1, e1, a1, b1⟩ := d_5Any l hl 0 h (by omega) (by omega)
  obtain ⟨p, hp⟩ := s_po x y z
  obtain ⟨⟨q1, q2, q3, q4⟩, e2⟩ := s_sh p
  obtain ⟨o, i2, h2, e3, a2, b2, _⟩ := d_Once l hl 2 i1 h1 a1 b1
  obtain ⟨x3, y3, z3, i3, h3, e4, _⟩ := d_5Any l hl i2 h2 a2 b2
  obtain ⟨x4, y4, z4, i4, h4, e5, _⟩ := d_5Any l hl i1 h1 a1 b1
  obtain ⟨K1, e⟩ := evo e
  obtain ⟨K2, e2⟩ := evo e2
  have main : ∃ r, ∀ k, K1 + K2 ≤ k → spec_DrawSameSound.f k l = some r := by
    by_cases c : q4 = true
    · by_cases c2 : o = true
      · refine ⟨(x, y, z, q1, q2, q3), fun k hk => ?_⟩
        unfold spec_DrawSameSound.f
        simp only [e k (by omega), e1, hp, e2 k (by omega), e3, Option.bind_some, c, c2, if_true]
      · refine ⟨(x, y, z, x3, y3, z3), fun k hk => ?_⟩
        unfold spec_DrawSameSound.f
        simp only [e k (by omega), e1, hp, e2 k (by omega), e3, e4, Option.bind_some, c, if_true]
        rw [if_neg c2]
    · refine ⟨(x, y, z, x4, y4, z4), fun k hk => ?_⟩
      unfold spec_DrawSameSound.f
      simp only [e k (by omega), e1, hp, e2 k (by omega), e5, Option.bind_some]
      rw [if_neg c]
  obtain ⟨⟨r1, r2, r3, r4, r5, r6⟩, hr⟩ := main
  exact ⟨r1, r2, r3, r4, r5, r6, K1 + K2, hr⟩
/-- The last part: notes that sound the same. -/
theorem part2 (l : List Int) (hl : l.length ≤ 1048576) : ∃ K, ∀ k, K ≤ k → laws_FnNotes.j2 k l false = some true := by
  obtain ⟨a, b, c, d, e, f, E⟩ := d_DrawSameSound l hl
  obtain ⟨K1, E⟩ := evo E
  refine ⟨K1 + 1, fun k hk => ?_⟩
  obtain ⟨k, rfl⟩ : ∃ m, k = m + 1 := ⟨k - 1, by omega⟩
  simp only [laws_FnNotes.j2, Bool.false_eq_true, if_false, E k (by omega), i_same, i_isN, i_po, Option.bind_some]
  cases h : isN a b c
  · simp
  · cases h2 : isN d e f
    · have p := isN_pos h
      have hq : pv a b c ≠ -1 := by omega
      simp [hq]
    · have hc : (pv d e f = pv a b c) = (pv a b c = pv d e f) := propext eq_comm
      simp only [true_and, hc, beq_self_eq_true, if_true]
      show some (decide (pv a b c = pv d e f) == decide (pv a b c = pv d e f)) = some true
      rw [beq_self_eq_true]
theorem part1 (l : List Int) (hl : l.length ≤ 1048576) : ∃ K, ∀ k, K ≤ k → laws_FnNotes.j1 k l false = some true := by
  obtain ⟨p, E⟩ := d_DrawSpellSharp l hl
  obtain ⟨K1, E⟩ := evo E
  obtain ⟨K2, R⟩ := part2 l hl
  by_cases h : 12 ≤ p ∧ p ≤ 119
  · obtain ⟨⟨x, y, z, hE, hp, h0, h1⟩, _⟩ := sh_in h
    obtain ⟨K3, hE⟩ := evo hE
    refine ⟨K1 + K2 + K3 + 1, fun k hk => ?_⟩
    obtain ⟨k, rfl⟩ : ∃ m, k = m + 1 := ⟨k - 1, by omega⟩
    simp only [laws_FnNotes.j1, Bool.false_eq_true, if_false, E k (by omega), hE k (by omega), Option.bind_some]
    rw [if_pos h.1]
    have g1 : ¬ y < 0 := by omega
    have g2 : ¬ y > 1 := by omega
    simp only [h.2, hp, Option.bind_some, if_true, decide_true, bne_self_eq_false, Bool.false_eq_true, if_false, g1, g2, decide_false]
    exact R k (by omega)
  · refine ⟨K1 + K2 + 1, fun k hk => ?_⟩
    obtain ⟨k, rfl⟩ : ∃ m, k = m + 1 := ⟨k - 1, by omega⟩
    simp only [laws_FnNotes.j1, Bool.false_eq_true, if_false, E k (by omega), (sh_out h k).1, Option.bind_some]
    by_cases g : p ≥ 12
    · have g2 : ¬ p ≤ 119 := by omega
      simp only [g, g2, if_true, decide_false, bne_self_eq_false, Bool.false_eq_true, if_false]
      exact R k (by omega)
    · simp only [g, bne_self_eq_false, Bool.false_eq_true, if_false]
      exact R k (by omega)
theorem part0 (l : List Int) (hl : l.length ≤ 1048576) : ∃ K, ∀ k, K ≤ k → laws_FnNotes.j0 k l false = some true := by
  obtain ⟨t, E⟩ := d_DrawParseNote l hl
  obtain ⟨K1, E⟩ := evo E
  obtain ⟨K2, R⟩ := part1 l hl
  obtain ⟨r, hE, g⟩ := pnote t
  obtain ⟨K3, hE⟩ := evo hE
  refine ⟨K1 + K2 + K3 + 1, fun k hk => ?_⟩
  obtain ⟨k, rfl⟩ : ∃ m, k = m + 1 := ⟨k - 1, by omega⟩
  simp only [laws_FnNotes.j0, Bool.false_eq_true, if_false, E k (by omega), hE k (by omega), Option.bind_some]
  rcases g with ⟨x, y, z, rfl, _, ht⟩ | ⟨rfl, _⟩
  · simp only [if_true, ht, Option.bind_some, bne_self_eq_false]
    exact R k (by omega)
  · simp only [Bool.false_eq_true, if_false]
    exact R k (by omega)
theorem FnNotes : laws_FnNotes.Pure := by
  intro l _ _ _
  unfold laws_FnNotes.f
  rw [big_le]
  simp only [Option.bind_some]
  by_cases h1 : (l.length : Int) > 1048576
  · exact ⟨0, by simp [h1]⟩
  simp only [h1, decide_false, Bool.false_eq_true, if_false]
  have hl : l.length ≤ 1048576 := by omega
  obtain ⟨a, b, c, E⟩ := d_DrawIsNote l hl
  obtain ⟨t, ht, _⟩ := s_text a b c
  obtain ⟨r, hE, g⟩ := pnote t
  obtain ⟨K1, E⟩ := evo E
  obtain ⟨K2, R⟩ := part0 l hl
  obtain ⟨K3, hE⟩ := evo hE
  refine ⟨K1 + K2 + K3, ?_⟩
  simp only [E (K1 + K2 + K3) (by omega), ht, hE (K1 + K2 + K3) (by omega), i_isN, Option.bind_some]
  by_cases hn : isN a b c = true
  · rcases g with ⟨x, y, z, rfl, hx, hxt⟩ | ⟨rfl, hno⟩
    · have q1 := dec_text hx hxt
      have q2 := dec_text hn ht
      rw [q1] at q2
      simp only [Prod.mk.injEq] at q2
      obtain ⟨rfl, rfl, rfl⟩ := q2
      simp only [hn, bne_self_eq_false, Bool.false_eq_true, if_false, if_true, beq_self_eq_true, Bool.not_true, Bool.or_self]
      exact R _ (by omega)
    · exact absurd ht (hno a b c hn trivial)
  · have hn' : isN a b c = false := by simpa using hn
    rcases g with ⟨x, y, z, rfl, hx, hxt⟩ | ⟨rfl, _⟩
    · have q := nt_size hx hxt
      rw [nt_no hn] at ht
      obtain rfl := Option.some.inj ht
      exact absurd q.1 (by decide)
    · simp only [hn', bne_self_eq_false, Bool.false_eq_true, if_false]
      exact R _ (by omega)

end Go.Proofs.YtcopehngagejiaaDoor.Pure
