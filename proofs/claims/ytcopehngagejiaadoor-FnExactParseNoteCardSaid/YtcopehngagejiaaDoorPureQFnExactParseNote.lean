/- The law FnExactParseNote returns true for each text. Conditions: the reach of memory. -/
import Derived.Test.YtcopehngagejiaaDoorQFnExactParseNotex3
import Derived.Test.YtcopehngagejiaaDoorLib
namespace Go.Proofs.YtcopehngagejiaaDoor.Pure
open Go.RowKit Go.Proofs.YtcopehngagejiaaDoor.QFnExactParseNote Go.Proofs.YtcopehngagejiaaDoorW.PrintWords Go.Proofs.YtcopehngagejiaaDoorW.PrintLast Go.Proofs.YtcopehngagejiaaDoorW.PrintMore Go.Proofs.YtcopehngagejiaaDoor.Lib 

set_option linter.unusedSimpArgs false
theorem i_In (a l h : Int) : impl_InRange.f a l h = some (decide (l ≤ a ∧ a ≤ h)) := by
  unfold impl_InRange.f; by_cases e : l ≤ a <;> simp [e]
def hv (s : Int) : Int := rd [0, 2, 4, 5, 7, 9, 11] s
theorem hv_bd {s : Int} (h0 : 0 ≤ s) (h1 : s ≤ 6) : 0 ≤ hv s ∧ hv s ≤ 11 := by
  have : s = 0 ∨ s = 1 ∨ s = 2 ∨ s = 3 ∨ s = 4 ∨ s = 5 ∨ s = 6 := by omega
  rcases this with rfl | rfl | rfl | rfl | rfl | rfl | rfl <;> decide
def pv (s a o : Int) : Int := 12 * (o + 1) + hv s + a
def isN (s a o : Int) : Bool := decide ((0 ≤ s ∧ s ≤ 6) ∧ (-2 ≤ a ∧ a ≤ 2) ∧ (0 ≤ o ∧ o ≤ 8) ∧ (12 ≤ pv s a o ∧ pv s a o ≤ 120))
theorem isN_pos {s a o : Int} (h : isN s a o = true) : (0 ≤ s ∧ s ≤ 6) ∧ (-2 ≤ a ∧ a ≤ 2) ∧ (0 ≤ o ∧ o ≤ 8) ∧ (12 ≤ pv s a o ∧ pv s a o ≤ 120) := by unfold isN at h; exact of_decide_eq_true h
theorem i_pitch {s a o : Int} (h0 : 0 ≤ s) (h1 : s ≤ 6) (a0 : -1000000 ≤ a) (a1 : a ≤ 1000000) (o0 : -1000000 ≤ o) (o1 : o ≤ 1000000) : impl_Note_pitch.f s a o = some (pv s a o) := by
  have hb := hv_bd h0 h1
  unfold impl_Note_pitch.f impl_halves.f
  rw [if_pos h0, if_pos (by omega)]
  simp only [Option.bind_some]
  rw [show rd [0, 2, 4, 5, 7, 9, 11] s = hv s from rfl, w64 (n := o + 1) (by omega) (by omega), w64 (n := 12 * (o + 1)) (by omega) (by omega), w64 (n := 12 * (o + 1) + a) (by omega) (by omega), w64 (by omega) (by omega)]
  unfold pv; congr 1; omega
theorem i_isN (s a o : Int) : impl_IsNote.f s a o = some (isN s a o) := by
  unfold impl_IsNote.f isN
  by_cases h1 : 0 ≤ s ∧ s ≤ 6
  · by_cases h2 : -2 ≤ a ∧ a ≤ 2
    · by_cases h3 : 0 ≤ o ∧ o ≤ 8
      · simp only [i_In, h1, h2, h3, Option.bind_some, if_true, and_self, decide_true, true_and]
        rw [i_pitch h1.1 h1.2 (by omega) (by omega) (by omega) (by omega)]
        rfl
      · simp only [i_In, h1, h2, h3, Option.bind_some, if_true, and_self, decide_true, decide_false, false_and, and_false, Bool.false_eq_true, if_false]
    · simp only [i_In, h1, h2, Option.bind_some, if_true, and_self, decide_true, decide_false, false_and, and_false, Bool.false_eq_true, if_false]
  · simp only [i_In, h1, Option.bind_some, decide_false, false_and, Bool.false_eq_true, if_false]
theorem s_In (a l h : Int) : spec_l1In.f a l h = some (decide (l ≤ a ∧ a ≤ h)) := by
  unfold spec_l1In.f; by_cases e : l ≤ a <;> simp [e]
theorem s_pitch {s a o : Int} (h0 : 0 ≤ s) (h1 : s ≤ 6) (a0 : -1000000 ≤ a) (a1 : a ≤ 1000000) (o0 : -1000000 ≤ o) (o1 : o ≤ 1000000) : spec_l5Pitch.f s a o = some (pv s a o) := by
  have hb := hv_bd h0 h1
  unfold spec_l5Pitch.f spec_l5Base.f
  simp only [Option.bind_some]
  rw [if_pos h0, if_pos (by simp; omega)]
  rw [show rd [0, 2, 4, 5, 7, 9, 11] s = hv s from rfl, w64 (n := o + 1) (by omega) (by omega), w64 (n := 12 * (o + 1)) (by omega) (by omega), w64 (n := 12 * (o + 1) + hv s) (by omega) (by omega), w64 (by omega) (by omega)]
  rfl
theorem s_isN (s a o : Int) : spec_IsNote.f s a o = some (isN s a o) := by
  unfold spec_IsNote.f isN
  by_cases h1 : 0 ≤ s ∧ s ≤ 6
  · by_cases h2 : -2 ≤ a ∧ a ≤ 2
    · by_cases h3 : 0 ≤ o ∧ o ≤ 8
      · simp only [s_In, h1, h2, h3, Option.bind_some, if_true, and_self, decide_true, true_and]
        rw [s_pitch h1.1 h1.2 (by omega) (by omega) (by omega) (by omega)]
        rfl
      · simp only [s_In, h1, h2, h3, Option.bind_some, if_true, and_self, decide_true, decide_false, false_and, and_false, Bool.false_eq_true, if_false]
    · simp only [s_In, h1, h2, Option.bind_some, if_true, and_self, decide_true, decide_false, false_and, and_false, Bool.false_eq_true, if_false]
  · simp only [s_In, h1, Option.bind_some, decide_false, false_and, Bool.false_eq_true, if_false]
def ntested (i : Fin 7) (j : Fin 5) (o : Fin 9) : Bool := decide (spec_NoteText.f 30 (i.1 : Int) ((j.1 : Int) - 2) (o.1 : Int) = impl_NoteText.f (i.1 : Int) ((j.1 : Int) - 2) (o.1 : Int)) && (impl_NoteText.f (i.1 : Int) ((j.1 : Int) - 2) (o.1 : Int)).isSome
set_option maxRecDepth 100000 in
theorem nall_tested : ∀ (i : Fin 7) (j : Fin 5) (o : Fin 9), ntested i j o = true := by decide +kernel
/-- Both texts of a note are the same. -/
theorem ntext (a b c : Int) : spec_NoteText.f 30 a b c = impl_NoteText.f a b c ∧ ∃ t, impl_NoteText.f a b c = some t := by
  by_cases h : isN a b c = true
  · have p := isN_pos h
    have e := nall_tested ⟨a.toNat, by omega⟩ ⟨(b + 2).toNat, by omega⟩ ⟨c.toNat, by omega⟩
    unfold ntested at e
    have e1 : ((a.toNat : Nat) : Int) = a := by omega
    have e2 : (((b + 2).toNat : Nat) : Int) - 2 = b := by omega
    have e3 : ((c.toNat : Nat) : Int) = c := by omega
    simp only [e1, e2, e3, Bool.and_eq_true, decide_eq_true_eq] at e
    exact ⟨e.1, Option.isSome_iff_exists.1 e.2⟩
  · have e1 : spec_NoteText.f 30 a b c = some ⟨#[]⟩ := by
      unfold spec_NoteText.f
      simp only [s_isN, h, Option.bind_some, Bool.false_eq_true, if_false]
    have e2 : impl_NoteText.f a b c = some ⟨#[]⟩ := by
      unfold impl_NoteText.f
      simp only [i_isN, h, Option.bind_some, Bool.false_eq_true, if_false]
    exact ⟨e1.trans e2.symm, _, e2⟩
theorem ba_ext {a b : ByteArray} (h : a.data.toList = b.data.toList) : a = b := by
  cases a; cases b; simp only [ByteArray.mk.injEq]; exact Array.toList_inj.1 h
theorem tl_inj {a b : ByteArray} (h : a.toList = b.toList) : a = b := ba_ext (by rw [ByteArray.toList_eq, ByteArray.toList_eq] at h; exact h)
def nstep (x : UInt8) : Int := if x = 99 then 0 else if x = 100 then 1 else if x = 101 then 2 else if x = 102 then 3 else if x = 103 then 4 else if x = 97 then 5 else 6
/-- The note that a text tells. -/
def ndec (t : ByteArray) : Int × Int × Int := match t.data.toList with
  | [x, o] => (nstep x, 0, (o.toNat : Int) - 48)
  | [x, y, o] => (nstep x, if y = 35 then 1 else -1, (o.toNat : Int) - 48)
  | [x, y, _, o] => (nstep x, if y = 35 then 2 else -2, (o.toNat : Int) - 48)
  | _ => (0, 0, 0)
def dtested (i : Fin 7) (j : Fin 5) (o : Fin 9) : Bool := !isN (i.1 : Int) ((j.1 : Int) - 2) (o.1 : Int) || (match impl_NoteText.f (i.1 : Int) ((j.1 : Int) - 2) (o.1 : Int) with
  | some t => decide (ndec t = ((i.1 : Int), (j.1 : Int) - 2, (o.1 : Int)))
  | none => false)
set_option maxRecDepth 100000 in
theorem dall_tested : ∀ (i : Fin 7) (j : Fin 5) (o : Fin 9), dtested i j o = true := by decide +kernel
theorem dec_text {a b c : Int} {t : ByteArray} (h : isN a b c = true) (ht : impl_NoteText.f a b c = some t) : ndec t = (a, b, c) := by
  have p := isN_pos h
  have e := dall_tested ⟨a.toNat, by omega⟩ ⟨(b + 2).toNat, by omega⟩ ⟨c.toNat, by omega⟩
  unfold dtested at e
  have e1 : ((a.toNat : Nat) : Int) = a := by omega
  have e2 : (((b + 2).toNat : Nat) : Int) - 2 = b := by omega
  have e3 : ((c.toNat : Nat) : Int) = c := by omega
  simp only [e1, e2, e3, h, ht, Bool.not_true, Bool.false_or, decide_eq_true_eq] at e
  exact e
theorem s_text (a b c : Int) : ∃ t, impl_NoteText.f a b c = some t ∧ Ev (fun k => spec_NoteText.f k a b c) t := by
  obtain ⟨h, t, ht⟩ := ntext a b c
  refine ⟨t, ht, 30, fun k hk => ?_⟩
  show spec_NoteText.f k a b c = some t
  induction k with
  | zero => omega
  | succ k ih =>
    by_cases g : k + 1 = 30
    · rw [g, h, ht]
    · exact spec_NoteText.mono a b c k t (ih (by omega))
def Good (s : ByteArray) (R : Int × Int × Int × Bool) (Q : Int → Int → Int → Prop) : Prop :=
  (∃ x y z, R = (x, y, z, true) ∧ isN x y z = true ∧ impl_NoteText.f x y z = some s) ∨ (R = (0, 0, 0, false) ∧ ∀ x y z, isN x y z = true → Q x y z → impl_NoteText.f x y z ≠ some s)
theorem Good.on {s : ByteArray} {R : Int × Int × Int × Bool} {Q Q' : Int → Int → Int → Prop} (g : Good s R Q) (h : ∀ x y z, isN x y z = true → Q' x y z → Q x y z ∨ impl_NoteText.f x y z ≠ some s) : Good s R Q' := by
  rcases g with g | ⟨e, g⟩
  · exact .inl g
  · refine .inr ⟨e, fun x y z hn hq => ?_⟩
    rcases h x y z hn hq with h | h
    · exact g x y z hn h
    · exact h
theorem sp2 (s : ByteArray) (a b : Int) (hb : wrap64 (b + 1) = b + 1) (R : Int × Int × Int × Bool) (Q : Int → Int → Int → Prop) (h1 : Ev (fun k => spec_ParseNote.l1 k s a (b + 1)) R) (g : Good s R Q) :
    ∀ (d : Nat), d ≤ 9 → ∃ R', Ev (fun k => spec_ParseNote.l2 k s a b (9 - (d : Int))) R' ∧ Good s R' (fun x y z => Q x y z ∨ (x = a ∧ y = b ∧ 9 - (d : Int) ≤ z)) := by
  intro d
  induction d with
  | zero =>
    intro _
    obtain ⟨K, e⟩ := evo h1
    refine ⟨R, ⟨K + 1, fun k hk => ?_⟩, g.on fun x y z hn hq => ?_⟩
    · obtain ⟨k, rfl⟩ : ∃ m, k = m + 1 := ⟨k - 1, by omega⟩
      show spec_ParseNote.l2 (k + 1) s a b _ = _
      simp only [spec_ParseNote.l2]
      rw [if_neg (by omega), hb]
      exact e k (by omega)
    · have p := isN_pos hn
      rcases hq with hq | hq
      · exact .inl hq
      · omega
  | succ d ih =>
    intro hd
    obtain ⟨R', h2, g2⟩ := ih (by omega)
    have hw : wrap64 (9 - ((d + 1 : Nat) : Int) + 1) = 9 - (d : Int) := by rw [w64 (by omega) (by omega)]; omega
    generalize hc : 9 - ((d + 1 : Nat) : Int) = c at hw
    have hcd : 9 - (d : Int) = c + 1 := by omega
    rw [hcd] at h2 g2 hw
    obtain ⟨K2, e2⟩ := evo h2
    by_cases hn : isN a b c = true
    · obtain ⟨t, ht, hE⟩ := s_text a b c
      obtain ⟨K1, e1⟩ := evo hE
      by_cases hs : t = s
      · subst hs
        refine ⟨(a, b, c, true), ⟨K1 + 1, fun k hk => ?_⟩, .inl ⟨a, b, c, rfl, hn, ht⟩⟩
        obtain ⟨k, rfl⟩ : ∃ m, k = m + 1 := ⟨k - 1, by omega⟩
        show spec_ParseNote.l2 (k + 1) _ a b c = _
        simp only [spec_ParseNote.l2]
        rw [if_pos (by omega), s_isN]
        simp only [hn, Option.bind_some, if_true, e1 k (by omega)]
      · refine ⟨R', ⟨K1 + K2 + 1, fun k hk => ?_⟩, g2.on fun x y z hnx hq => ?_⟩
        · obtain ⟨k, rfl⟩ : ∃ m, k = m + 1 := ⟨k - 1, by omega⟩
          show spec_ParseNote.l2 (k + 1) s a b c = _
          simp only [spec_ParseNote.l2]
          rw [if_pos (by omega), s_isN]
          simp only [hn, Option.bind_some, if_true, e1 k (by omega)]
          rw [if_neg (fun e => hs (tl_inj e)), hw]
          exact e2 k (by omega)
        · rcases hq with hq | ⟨rfl, rfl, hq⟩
          · exact .inl (.inl hq)
          · by_cases ez : z = c
            · subst ez; right; rw [ht]; exact fun e => hs (Option.some.inj e)
            · exact .inl (.inr ⟨rfl, rfl, by omega⟩)
    · refine ⟨R', ⟨K2 + 1, fun k hk => ?_⟩, g2.on fun x y z hnx hq => ?_⟩
      · obtain ⟨k, rfl⟩ : ∃ m, k = m + 1 := ⟨k - 1, by omega⟩
        show spec_ParseNote.l2 (k + 1) s a b c = _
        simp only [spec_ParseNote.l2]
        rw [if_pos (by omega), s_isN]
        simp only [hn, Option.bind_some, Bool.false_eq_true, if_false]
        rw [hw]
        exact e2 k (by omega)
      · rcases hq with hq | ⟨rfl, rfl, hq⟩
        · exact .inl (.inl hq)
        · by_cases ez : z = c
          · subst ez; exact absurd hnx hn
          · exact .inl (.inr ⟨rfl, rfl, by omega⟩)
theorem sp1 (s : ByteArray) (a : Int) (ha : wrap64 (a + 1) = a + 1) (R : Int × Int × Int × Bool) (Q : Int → Int → Int → Prop) (h1 : Ev (fun k => spec_ParseNote.l0 k s (a + 1)) R) (g : Good s R Q) :
    ∀ (d : Nat), d ≤ 5 → ∃ R', Ev (fun k => spec_ParseNote.l1 k s a (3 - (d : Int))) R' ∧ Good s R' (fun x y z => Q x y z ∨ (x = a ∧ 3 - (d : Int) ≤ y)) := by
  intro d
  induction d with
  | zero =>
    intro _
    obtain ⟨K, e⟩ := evo h1
    refine ⟨R, ⟨K + 1, fun k hk => ?_⟩, g.on fun x y z hn hq => ?_⟩
    · obtain ⟨k, rfl⟩ : ∃ m, k = m + 1 := ⟨k - 1, by omega⟩
      show spec_ParseNote.l1 (k + 1) s a _ = _
      simp only [spec_ParseNote.l1]
      rw [if_neg (by omega), ha]
      exact e k (by omega)
    · have p := isN_pos hn
      rcases hq with hq | hq
      · exact .inl hq
      · omega
  | succ d ih =>
    intro hd
    obtain ⟨R', h2, g2⟩ := ih (by omega)
    generalize hc : 3 - ((d + 1 : Nat) : Int) = c
    have hcd : 3 - (d : Int) = c + 1 := by omega
    rw [hcd] at h2 g2
    obtain ⟨R2, h3, g3⟩ := sp2 s a c (w64 (by omega) (by omega)) R' _ h2 g2 9 (Nat.le_refl _)
    obtain ⟨K2, e2⟩ := evo h3
    refine ⟨R2, ⟨K2 + 1, fun k hk => ?_⟩, g3.on fun x y z hnx hq => ?_⟩
    · obtain ⟨k, rfl⟩ : ∃ m, k = m + 1 := ⟨k - 1, by omega⟩
      show spec_ParseNote.l1 (k + 1) s a c = _
      simp only [spec_ParseNote.l1]
      rw [if_pos (by omega)]
      exact e2 k (by omega)
    · have p := isN_pos hnx
      rcases hq with hq | ⟨rfl, hq⟩
      · exact .inl (.inl (.inl hq))
      · by_cases ey : y = c
        · exact .inl (.inr ⟨rfl, ey, by omega⟩)
        · exact .inl (.inl (.inr ⟨rfl, by omega⟩))
theorem sp0 (s : ByteArray) : ∀ (d : Nat), d ≤ 7 → ∃ R', Ev (fun k => spec_ParseNote.l0 k s (7 - (d : Int))) R' ∧ Good s R' (fun x _ _ => 7 - (d : Int) ≤ x) := by
  intro d
  induction d with
  | zero =>
    intro _
    refine ⟨(0, 0, 0, false), ⟨1, fun k hk => ?_⟩, .inr ⟨rfl, fun x y z hn hq => ?_⟩⟩
    · obtain ⟨k, rfl⟩ : ∃ m, k = m + 1 := ⟨k - 1, by omega⟩
      show spec_ParseNote.l0 (k + 1) s _ = _
      simp only [spec_ParseNote.l0]
      rw [if_neg (by omega)]
    · have p := isN_pos hn
      omega
  | succ d ih =>
    intro hd
    obtain ⟨R', h2, g2⟩ := ih (by omega)
    generalize hc : 7 - ((d + 1 : Nat) : Int) = c
    have hcd : 7 - (d : Int) = c + 1 := by omega
    rw [hcd] at h2 g2
    obtain ⟨R2, h3, g3⟩ := sp1 s c (w64 (by omega) (by omega)) R' _ h2 g2 5 (Nat.le_refl _)
    obtain ⟨K2, e2⟩ := evo h3
    refine ⟨R2, ⟨K2 + 1, fun k hk => ?_⟩, g3.on fun x y z hnx hq => ?_⟩
    · obtain ⟨k, rfl⟩ : ∃ m, k = m + 1 := ⟨k - 1, by omega⟩
      show spec_ParseNote.l0 (k + 1) s c = _
      simp only [spec_ParseNote.l0]
      rw [if_pos (by omega)]
      exact e2 k (by omega)
    · have p := isN_pos hnx
      by_cases ex : x = c
      · exact .inl (.inr ⟨ex, by omega⟩)
      · exact .inl (.inl (by omega))
theorem ip2 (s : ByteArray) (o a : Int) (ha : wrap64 (a + 1) = a + 1) (R : Int × Int × Int × Bool) (Q : Int → Int → Int → Prop) (h1 : Ev (fun k => impl_notes.l1 (impl_ParseNote.is s) k o (a + 1)) R) (g : Good s R Q) :
    ∀ (d : Nat), d ≤ 5 → ∃ R', Ev (fun k => impl_notes.l2 (impl_ParseNote.is s) k o a (3 - (d : Int))) R' ∧ Good s R' (fun x y z => Q x y z ∨ (z = o ∧ x = a ∧ 3 - (d : Int) ≤ y)) := by
  intro d
  induction d with
  | zero =>
    intro _
    obtain ⟨K, e⟩ := evo h1
    refine ⟨R, ⟨K + 1, fun k hk => ?_⟩, g.on fun x y z hn hq => ?_⟩
    · obtain ⟨k, rfl⟩ : ∃ m, k = m + 1 := ⟨k - 1, by omega⟩
      show impl_notes.l2 _ (k + 1) o a _ = _
      simp only [impl_notes.l2]
      rw [if_neg (by omega), ha]
      exact e k (by omega)
    · have p := isN_pos hn
      rcases hq with hq | hq
      · exact .inl hq
      · omega
  | succ d ih =>
    intro hd
    obtain ⟨R', h2, g2⟩ := ih (by omega)
    have hw : wrap64 (3 - ((d + 1 : Nat) : Int) + 1) = 3 - (d : Int) := by rw [w64 (by omega) (by omega)]; omega
    generalize hc : 3 - ((d + 1 : Nat) : Int) = c at hw
    have hcd : 3 - (d : Int) = c + 1 := by omega
    rw [hcd] at h2 g2 hw
    obtain ⟨K2, e2⟩ := evo h2
    by_cases hn : isN a c o = true
    · obtain ⟨t, ht, _⟩ := s_text a c o
      have his : impl_ParseNote.is s a c o = some (t.toList == s.toList) := by unfold impl_ParseNote.is; rw [ht]; rfl
      by_cases hs : t = s
      · subst hs
        refine ⟨(a, c, o, true), ⟨1, fun k hk => ?_⟩, .inl ⟨a, c, o, rfl, hn, ht⟩⟩
        obtain ⟨k, rfl⟩ : ∃ m, k = m + 1 := ⟨k - 1, by omega⟩
        show impl_notes.l2 _ (k + 1) o a c = _
        simp only [impl_notes.l2]
        rw [if_pos (by omega), i_isN]
        simp only [hn, Option.bind_some, if_true, his, beq_self_eq_true]
      · have hf : (t.toList == s.toList) = false := beq_eq_false_iff_ne.mpr (fun e => hs (tl_inj e))
        refine ⟨R', ⟨K2 + 1, fun k hk => ?_⟩, g2.on fun x y z hnx hq => ?_⟩
        · obtain ⟨k, rfl⟩ : ∃ m, k = m + 1 := ⟨k - 1, by omega⟩
          show impl_notes.l2 _ (k + 1) o a c = _
          simp only [impl_notes.l2]
          rw [if_pos (by omega), i_isN]
          simp only [hn, Option.bind_some, if_true, his, hf, Bool.false_eq_true, if_false]
          rw [hw]
          exact e2 k (by omega)
        · rcases hq with hq | ⟨rfl, rfl, hq⟩
          · exact .inl (.inl hq)
          · by_cases ez : y = c
            · subst ez; right; rw [ht]; exact fun e => hs (Option.some.inj e)
            · exact .inl (.inr ⟨rfl, rfl, by omega⟩)
    · refine ⟨R', ⟨K2 + 1, fun k hk => ?_⟩, g2.on fun x y z hnx hq => ?_⟩
      · obtain ⟨k, rfl⟩ : ∃ m, k = m + 1 := ⟨k - 1, by omega⟩
        show impl_notes.l2 _ (k + 1) o a c = _
        simp only [impl_notes.l2]
        rw [if_pos (by omega), i_isN]
        simp only [hn, Option.bind_some, Bool.false_eq_true, if_false]
        rw [hw]
        exact e2 k (by omega)
      · rcases hq with hq | ⟨rfl, rfl, hq⟩
        · exact .inl (.inl hq)
        · by_cases ez : y = c
          · subst ez; exact absurd hnx hn
          · exact .inl (.inr ⟨rfl, rfl, by omega⟩)
theorem ip1 (s : ByteArray) (o : Int) (ho : wrap64 (o + 1) = o + 1) (R : Int × Int × Int × Bool) (Q : Int → Int → Int → Prop) (h1 : Ev (fun k => impl_notes.l0 (impl_ParseNote.is s) k (o + 1)) R) (g : Good s R Q) :
    ∀ (d : Nat), d ≤ 7 → ∃ R', Ev (fun k => impl_notes.l1 (impl_ParseNote.is s) k o (7 - (d : Int))) R' ∧ Good s R' (fun x y z => Q x y z ∨ (z = o ∧ 7 - (d : Int) ≤ x)) := by
  intro d
  induction d with
  | zero =>
    intro _
    obtain ⟨K, e⟩ := evo h1
    refine ⟨R, ⟨K + 1, fun k hk => ?_⟩, g.on fun x y z hn hq => ?_⟩
    · obtain ⟨k, rfl⟩ : ∃ m, k = m + 1 := ⟨k - 1, by omega⟩
      show impl_notes.l1 _ (k + 1) o _ = _
      simp only [impl_notes.l1]
      rw [if_neg (by omega), ho]
      exact e k (by omega)
    · have p := isN_pos hn
      rcases hq with hq | hq
      · exact .inl hq
      · omega
  | succ d ih =>
    intro hd
    obtain ⟨R', h2, g2⟩ := ih (by omega)
    generalize hc : 7 - ((d + 1 : Nat) : Int) = c
    have hcd : 7 - (d : Int) = c + 1 := by omega
    rw [hcd] at h2 g2
    obtain ⟨R2, h3, g3⟩ := ip2 s o c (w64 (by omega) (by omega)) R' _ h2 g2 5 (Nat.le_refl _)
    obtain ⟨K2, e2⟩ := evo h3
    refine ⟨R2, ⟨K2 + 1, fun k hk => ?_⟩, g3.on fun x y z hnx hq => ?_⟩
    · obtain ⟨k, rfl⟩ : ∃ m, k = m + 1 := ⟨k - 1, by omega⟩
      show impl_notes.l1 _ (k + 1) o c = _
      simp only [impl_notes.l1]
      rw [if_pos (by omega)]
      exact e2 k (by omega)
    · have p := isN_pos hnx
      rcases hq with hq | ⟨rfl, hq⟩
      · exact .inl (.inl (.inl hq))
      · by_cases ex : x = c
        · exact .inl (.inr ⟨rfl, ex, by omega⟩)
        · exact .inl (.inl (.inr ⟨rfl, by omega⟩))
theorem ip0 (s : ByteArray) : ∀ (d : Nat), d ≤ 9 → ∃ R', Ev (fun k => impl_notes.l0 (impl_ParseNote.is s) k (9 - (d : Int))) R' ∧ Good s R' (fun _ _ z => 9 - (d : Int) ≤ z) := by
  intro d
  induction d with
  | zero =>
    intro _
    refine ⟨(0, 0, 0, false), ⟨1, fun k hk => ?_⟩, .inr ⟨rfl, fun x y z hn hq => ?_⟩⟩
    · obtain ⟨k, rfl⟩ : ∃ m, k = m + 1 := ⟨k - 1, by omega⟩
      show impl_notes.l0 _ (k + 1) _ = _
      simp only [impl_notes.l0]
      rw [if_neg (by omega)]
    · have p := isN_pos hn
      omega
  | succ d ih =>
    intro hd
    obtain ⟨R', h2, g2⟩ := ih (by omega)
    generalize hc : 9 - ((d + 1 : Nat) : Int) = c
    have hcd : 9 - (d : Int) = c + 1 := by omega
    rw [hcd] at h2 g2
    obtain ⟨R2, h3, g3⟩ := ip1 s c (w64 (by omega) (by omega)) R' _ h2 g2 7 (Nat.le_refl _)
    obtain ⟨K2, e2⟩ := evo h3
    refine ⟨R2, ⟨K2 + 1, fun k hk => ?_⟩, g3.on fun x y z hnx hq => ?_⟩
    · obtain ⟨k, rfl⟩ : ∃ m, k = m + 1 := ⟨k - 1, by omega⟩
      show impl_notes.l0 _ (k + 1) c = _
      simp only [impl_notes.l0]
      rw [if_pos (by omega)]
      exact e2 k (by omega)
    · have p := isN_pos hnx
      by_cases ex : z = c
      · exact .inl (.inr ⟨ex, by omega⟩)
      · exact .inl (.inl (by omega))
/-- What both readers of a note's text answer. -/
theorem pnote (s : ByteArray) : ∃ R, Ev (fun k => spec_ParseNote.f k s) R ∧ Ev (fun k => impl_ParseNote.f k s) R ∧ Good s R (fun _ _ _ => True) := by
  obtain ⟨R1, h1, g1⟩ := sp0 s 7 (Nat.le_refl _)
  obtain ⟨R2, h2, g2⟩ := ip0 s 9 (Nat.le_refl _)
  have g1 : Good s R1 (fun _ _ _ => True) := g1.on fun x y z hn _ => .inl (by have := isN_pos hn; omega)
  have g2 : Good s R2 (fun _ _ _ => True) := g2.on fun x y z hn _ => .inl (by have := isN_pos hn; omega)
  have e : R1 = R2 := by
    rcases g1 with ⟨x, y, z, rfl, hn, ht⟩ | ⟨rfl, q1⟩
    · rcases g2 with ⟨x2, y2, z2, rfl, hn2, ht2⟩ | ⟨rfl, q2⟩
      · have a := dec_text hn ht
        have b := dec_text hn2 ht2
        rw [a] at b
        simp only [Prod.mk.injEq] at b ⊢
        exact ⟨b.1, b.2.1, b.2.2, trivial⟩
      · exact absurd ht (q2 x y z hn trivial)
    · rcases g2 with ⟨x2, y2, z2, rfl, hn2, ht2⟩ | ⟨rfl, q2⟩
      · exact absurd ht2 (q1 x2 y2 z2 hn2 trivial)
      · rfl
  subst e
  exact ⟨R1, h1, h2, g1⟩
theorem FnExactParseNote : laws_FnExactParseNote.Pure := by
  intro s _
  obtain ⟨R, h1, h2, _⟩ := pnote s
  obtain ⟨K1, h1⟩ := evo h1
  obtain ⟨K2, h2⟩ := evo h2
  refine ⟨K1 + K2, ?_⟩
  unfold laws_FnExactParseNote.f laws_eqNote.f
  by_cases c : (s.size : Int) > 1048576
  · rw [if_pos c]
  · rw [if_neg c]
    simp only [h1 (K1 + K2) (by omega), h2 (K1 + K2) (by omega), Option.bind_some]
    simp

end Go.Proofs.YtcopehngagejiaaDoor.Pure
