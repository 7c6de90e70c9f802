/- Plain lemmas of this session on what draws numbers from bytes: that a reader answers, within its bytes. Conditions: those each lemma states. -/
import Derived.Test.YtinfglcccomilaaDoorVar
namespace Go.Proofs.YtinfglcccomilaaDoor.Draw
open Go.RowKit Go.Proofs.YtinfglcccomilaaDoorW.PrintWords Go.Proofs.YtinfglcccomilaaDoorW.PrintLast Go.Proofs.YtinfglcccomilaaDoorW.PrintMore Go.Proofs.YtinfglcccomilaaDoor.Lib Go.Proofs.YtinfglcccomilaaDoor.Var

theorem and255 (x : Int) : 0 ≤ bits .and .i64 x 255 ∧ bits .and .i64 x 255 ≤ 255 := by
  have h : ((BitVec.ofInt 64 x &&& BitVec.ofInt 64 255).toNat : Int) ≤ 255 := by
    rw [BitVec.toNat_and]
    have := Nat.and_le_right (n := (BitVec.ofInt 64 x).toNat) (m := (BitVec.ofInt 64 255).toNat)
    have e : (BitVec.ofInt 64 255).toNat = 255 := by decide
    omega
  have e : bits .and .i64 x 255 = ((BitVec.ofInt 64 x &&& BitVec.ofInt 64 255).toNat : Int) := by
    show IntKind.i64.wrap (((BitVec.ofInt 64 x &&& BitVec.ofInt 64 255).toNat : Nat) : Int) = _
    exact wraps62 _ (by omega) (by omega)
  omega
/-- A reader of draws answers: a value with P, and its place is still within n bytes. -/
def Ok {α : Type} (r : Option (α × Int × Int)) (n : Nat) (P : α → Prop) : Prop := ∃ v i h, r = some (v, i, h) ∧ 0 ≤ i ∧ i ≤ (n : Int) ∧ P v
theorem Ok.bind {α β : Type} {r : Option (α × Int × Int)} {n : Nat} {P : α → Prop} {Q : β → Prop} {f : α × Int × Int → Option (β × Int × Int)} (h : Ok r n P) (k : ∀ v i h, 0 ≤ i → i ≤ (n : Int) → P v → Ok (f (v, i, h)) n Q) : Ok (r.bind f) n Q := by
  obtain ⟨v, i, h, rfl, h0, h1, hp⟩ := h
  exact k v i h h0 h1 hp
theorem Ok.now {α : Type} {n : Nat} {P : α → Prop} {v : α} {i h : Int} (h0 : 0 ≤ i) (h1 : i ≤ (n : Int)) (hp : P v) : Ok (some (v, i, h)) n P := ⟨v, i, h, rfl, h0, h1, hp⟩
theorem Ok.imp {α : Type} {r : Option (α × Int × Int)} {n : Nat} {P Q : α → Prop} (h : Ok r n P) (k : ∀ v, P v → Q v) : Ok r n Q := by
  obtain ⟨v, i, h, e, h0, h1, hp⟩ := h; exact ⟨v, i, h, e, h0, h1, k v hp⟩
theorem Ok.ite {α : Type} {c : Prop} [Decidable c] {a b : Option (α × Int × Int)} {n : Nat} {P : α → Prop} (h : c → Ok a n P) (k : ¬ c → Ok b n P) : Ok (if c then a else b) n P := by
  by_cases g : c
  · rw [if_pos g]; exact h g
  · rw [if_neg g]; exact k g
theorem rd_mem {l : List Int} {i : Int} (h0 : 0 ≤ i) (h1 : i < (l.length : Int)) : rd l i ∈ l := by
  have e := rd_nat l i.toNat (by omega)
  rw [Int.toNat_of_nonneg h0] at e
  rw [e]; exact List.getElem_mem _
/-- The same where rounds are wanted. -/
def OkE {α : Type} (g : Nat → Option (α × Int × Int)) (n : Nat) (P : α → Prop) : Prop := ∃ v i h, Ev g (v, i, h) ∧ 0 ≤ i ∧ i ≤ (n : Int) ∧ P v
/-- A loop that draws so many bytes. -/
theorem bytes_loop {L : Nat → List Int → Int → Int → Int → Option (List Int × Int × Int)} {B : Int → Int → Option (Int × Int × Int)} (b : List Int) (n : Nat) (hn : n ≤ 1000000) (hB : ∀ i h, 0 ≤ i → i ≤ (b.length : Int) → Ok (B i h) b.length fun v => 0 ≤ v ∧ v ≤ 255)
    (hL : ∀ k o j i h, L (k + 1) o j i h = if j < (n : Int) then ((B i h).bind fun r => if o.length < 140737488355328 then L k (o ++ [r.1 % 256]) (wrap64 (j + 1)) r.2.1 r.2.2 else none) else some (o, i, h)) (d : Nat) :
    ∀ (j : Nat) (o : List Int) (i h : Int), j + d = n → o.length = j → 0 ≤ i → i ≤ (b.length : Int) → (∀ x ∈ o, 0 ≤ x ∧ x ≤ 255) → OkE (fun k => L k o j i h) b.length fun v => v.length = n ∧ ∀ x ∈ v, 0 ≤ x ∧ x ≤ 255 := by
  induction d with
  | zero =>
    intro j o i h hj ho h0 h1 hb
    refine ⟨o, i, h, Ev.step (f := fun _ => some (o, i, h)) (fun k => ?_) (Ev.now _), h0, h1, by omega, hb⟩
    rw [hL, if_neg (by omega)]
  | succ d ih =>
    intro j o i h hj ho h0 h1 hb
    obtain ⟨v, i', h', e, g0, g1, hv⟩ := hB i h h0 h1
    obtain ⟨w, i2, h2, e2, q0, q1, qp⟩ := ih (j + 1) (o ++ [v % 256]) i' h' (by omega) (by simp [ho]) g0 g1 (fun x hx => by
      rcases List.mem_append.1 hx with hx | hx
      · exact hb x hx
      · simp at hx; omega)
    refine ⟨w, i2, h2, Ev.step (f := fun k => L k (o ++ [v % 256]) ((j + 1 : Nat) : Int) i' h') (fun k => ?_) e2, q0, q1, qp⟩
    rw [hL, if_pos (by omega), e, w64 (by omega) (by omega)]
    simp only [Option.bind_some]
    rw [if_pos (by omega)]; rfl
/-- The reader's begin: up to 4,000 bytes are mixed into a number. -/
theorem new_loop {L : Nat → Int → Int → Option (List Int × Int × Int)} {M : Int → Int → Int} (b : List Int) (_hb : b.length ≤ 100000000) (hL : ∀ k h i, L (k + 1) h i = if i < (b.length : Int) then (if i < 4000 then (if 0 ≤ i then L k (M h i) (wrap64 (i + 1)) else none) else some (b, 0, h)) else some (b, 0, h)) (d : Nat) :
    ∀ (i : Nat) (h : Int), i + d = b.length → ∃ r, Ev (fun k => L k h i) (b, 0, r) := by
  induction d with
  | zero =>
    intro i h hi
    refine ⟨h, Ev.step (f := fun _ => some (b, 0, h)) (fun k => ?_) (Ev.now _)⟩
    rw [hL, if_neg (by omega)]
  | succ d ih =>
    intro i h hi
    by_cases g : (i : Int) < 4000
    · obtain ⟨r, e⟩ := ih (i + 1) (M h i) (by omega)
      refine ⟨r, Ev.step (f := fun k => L k (M h i) ((i + 1 : Nat) : Int)) (fun k => ?_) e⟩
      rw [hL, if_pos (by omega), if_pos g, if_pos (by omega), w64 (by omega) (by omega)]; rfl
    · refine ⟨h, Ev.step (f := fun _ => some (b, 0, h)) (fun k => ?_) (Ev.now _)⟩
      rw [hL, if_pos (by omega), if_neg g]
theorem tmod_bd {x n : Int} (h0 : 0 ≤ x) (hn : 0 < n) : 0 ≤ Int.tmod x n ∧ Int.tmod x n < n := by
  rw [Int.tmod_eq_emod_of_nonneg h0]
  exact ⟨Int.emod_nonneg _ (by omega), Int.emod_lt_of_pos _ hn⟩
end Go.Proofs.YtinfglcccomilaaDoor.Draw
