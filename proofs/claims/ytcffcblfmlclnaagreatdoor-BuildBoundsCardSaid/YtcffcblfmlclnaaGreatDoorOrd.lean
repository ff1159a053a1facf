/- The order of values. -/
import Derived.Test.YtcffcblfmlclnaaGreatDoorPut
import Derived.Sort.Statements
import Derived.Shelf.SlSortCmp.Insertion
namespace Go.Proofs.YtcffcblfmlclnaaGreatDoor
open Go.RowKit Go.Zone Go.Shelf Go.Sort

theorem bl_irrefl : ∀ l, Op.bytesLess l l = false
  | [] => rfl
  | a :: l => by simp [Op.bytesLess, bl_irrefl l]
theorem bl_trans : ∀ l m n, Op.bytesLess l m = true → Op.bytesLess m n = true → Op.bytesLess l n = true
  | [], [], _, h, _ => by cases h
  | [], _ :: _, [], _, h => by cases h
  | [], _ :: _, _ :: _, _, _ => rfl
  | _ :: _, [], _, h, _ => by cases h
  | _ :: _, _ :: _, [], _, h => by cases h
  | a :: l, b :: m, c :: n, h1, h2 => by
    simp only [Op.bytesLess, Bool.or_eq_true, Bool.and_eq_true, decide_eq_true_eq, beq_iff_eq] at h1 h2 ⊢
    rcases h1 with h1 | ⟨rfl, h1⟩
    · rcases h2 with h2 | ⟨rfl, h2⟩
      · exact .inl (UInt8.lt_trans h1 h2)
      · exact .inl h1
    · rcases h2 with h2 | ⟨rfl, h2⟩
      · exact .inl h2
      · exact .inr ⟨rfl, bl_trans l m n h1 h2⟩
theorem bl_total : ∀ l m, Op.bytesLess l m = false → Op.bytesLess m l = false → l = m
  | [], [], _, _ => rfl
  | [], _ :: _, h, _ => by cases h
  | _ :: _, [], _, h => by cases h
  | a :: l, b :: m, h1, h2 => by
    simp only [Op.bytesLess, Bool.or_eq_false_iff, Bool.and_eq_false_iff, decide_eq_false_iff_not, beq_eq_false_iff_ne, ne_eq, UInt8.not_lt] at h1 h2
    have : a = b := UInt8.le_antisymm h2.1 h1.1
    subst this
    rw [bl_total l m (by rcases h1.2 with h | h; · exact absurd rfl h
                         · exact h) (by rcases h2.2 with h | h; · exact absurd rfl h
                                        · exact h)]

theorem ba_ext {a b : ByteArray} (h : a.toList = b.toList) : a = b := by
  rw [Lib.toList_data, Lib.toList_data] at h
  cases a; cases b
  congr 1
  exact Array.ext' (by simpa using h)
theorem cmpS_lt (a b : ByteArray) : cmpS a b < 0 ↔ Op.bytesLess a.toList b.toList = true := by
  unfold cmpS
  cases Op.bytesLess a.toList b.toList <;> cases (a.toList == b.toList) <;> simp
theorem cmpS_eq (a b : ByteArray) : cmpS a b = 0 ↔ a = b := by
  unfold cmpS
  constructor
  · intro h
    cases h1 : Op.bytesLess a.toList b.toList <;> cases h2 : (a.toList == b.toList) <;> simp [h1, h2] at h
    exact ba_ext (by simpa using h2)
  · rintro rfl
    simp [bl_irrefl]
theorem cmpI_lt (a b : Int) : cmpI a b < 0 ↔ a < b := by unfold cmpI; (repeat' split) <;> omega
theorem cmpI_eq (a b : Int) : cmpI a b = 0 ↔ a = b := by unfold cmpI; (repeat' split) <;> omega
/-- Less, said plainly. -/
def LtV (x y : Val) : Prop := x.k < y.k ∨ (x.k = y.k ∧ (x.n < y.n ∨ (x.n = y.n ∧ Op.bytesLess x.s.toList y.s.toList = true)))
theorem cmpV_lt (x y : Val) : cmpV x y < 0 ↔ LtV x y := by
  unfold cmpV LtV
  simp only [orL]
  have a := cmpI_lt x.k y.k; have a' := cmpI_eq x.k y.k
  have b := cmpI_lt x.n y.n; have b' := cmpI_eq x.n y.n
  have c := cmpS_lt x.s y.s
  by_cases h1 : cmpI x.k y.k = 0
  · have e1 := a'.1 h1
    rw [if_pos h1]
    by_cases h2 : cmpI x.n y.n = 0
    · have e2 := b'.1 h2
      rw [if_pos h2]
      by_cases h3 : cmpS x.s y.s = 0
      · rw [if_pos h3, e1, e2]
        have : ¬ (Op.bytesLess x.s.toList y.s.toList = true) := fun h => by have := c.2 h; omega
        simp [this]
      · rw [if_neg h3, c, e1, e2]
        simp
    · rw [if_neg h2, b, e1]
      have : x.n ≠ y.n := fun h => h2 (b'.2 h)
      simp [this]
  · rw [if_neg h1, a]
    have : x.k ≠ y.k := fun h => h1 (a'.2 h)
    simp [this]
theorem cmpV_eq (x y : Val) : cmpV x y = 0 ↔ x = y := by
  obtain ⟨k, n, s⟩ := x
  obtain ⟨k', n', s'⟩ := y
  unfold cmpV
  simp only [orL, Val.mk.injEq]
  have a' := cmpI_eq k k'
  have b' := cmpI_eq n n'
  have c' := cmpS_eq s s'
  by_cases h1 : cmpI k k' = 0
  · rw [if_pos h1]
    by_cases h2 : cmpI n n' = 0
    · rw [if_pos h2]
      by_cases h3 : cmpS s s' = 0
      · rw [if_pos h3]; simp [a'.1 h1, b'.1 h2, c'.1 h3]
      · rw [if_neg h3]; exact ⟨fun h => absurd h h3, fun h => absurd (c'.2 h.2.2) h3⟩
    · rw [if_neg h2]; exact ⟨fun h => absurd h h2, fun h => absurd (b'.2 h.2.1) h2⟩
  · rw [if_neg h1]; exact ⟨fun h => absurd h h1, fun h => absurd (a'.2 h.1) h1⟩
theorem LtV.irrefl (x : Val) : ¬ LtV x x := by
  unfold LtV
  simp [bl_irrefl]
theorem LtV.trans {x y z : Val} (h : LtV x y) (k : LtV y z) : LtV x z := by
  unfold LtV at *
  rcases h with h | ⟨e, h⟩
  · rcases k with k | ⟨e', k⟩
    · exact .inl (by omega)
    · exact .inl (by omega)
  · rcases k with k | ⟨e', k⟩
    · exact .inl (by omega)
    · refine .inr ⟨by omega, ?_⟩
      rcases h with h | ⟨e2, h⟩
      · rcases k with k | ⟨e3, k⟩
        · exact .inl (by omega)
        · exact .inl (by omega)
      · rcases k with k | ⟨e3, k⟩
        · exact .inl (by omega)
        · exact .inr ⟨by omega, bl_trans _ _ _ h k⟩
theorem LtV.tri (x y : Val) : LtV x y ∨ x = y ∨ LtV y x := by
  obtain ⟨k, n, s⟩ := x
  obtain ⟨k', n', s'⟩ := y
  unfold LtV
  simp only [Val.mk.injEq]
  rcases Int.lt_trichotomy k k' with h | h | h
  · exact .inl (.inl h)
  · rcases Int.lt_trichotomy n n' with h2 | h2 | h2
    · exact .inl (.inr ⟨h, .inl h2⟩)
    · cases h3 : Op.bytesLess s.toList s'.toList
      · cases h4 : Op.bytesLess s'.toList s.toList
        · exact .inr (.inl ⟨h, h2, ba_ext (bl_total _ _ h3 h4)⟩)
        · exact .inr (.inr (.inr ⟨h.symm, .inr ⟨h2.symm, rfl⟩⟩))
      · exact .inl (.inr ⟨h, .inr ⟨h2, rfl⟩⟩)
    · exact .inr (.inr (.inr ⟨h.symm, .inl h2⟩))
  · exact .inr (.inr (.inl h))
theorem cmpV_gt (x y : Val) : 0 < cmpV x y ↔ LtV y x := by
  constructor
  · intro h
    rcases LtV.tri x y with h1 | h1 | h1
    · have := (cmpV_lt x y).2 h1; omega
    · have := (cmpV_eq x y).2 h1; omega
    · exact h1
  · intro h
    rcases Int.lt_trichotomy (cmpV x y) 0 with h1 | h1 | h1
    · exact absurd (((cmpV_lt x y).1 h1).trans h) (LtV.irrefl x)
    · rw [(cmpV_eq x y).1 h1] at h; exact absurd h (LtV.irrefl y)
    · exact h1
theorem swoV : SWO (ltOf cmpV) := by
  refine ⟨fun x => ?_, fun x y z h k => ?_, fun x y z h k => ?_⟩
  · simp only [ltOf, decide_eq_false_iff_not]; rw [cmpV_lt]; exact LtV.irrefl x
  · simp only [ltOf, decide_eq_true_eq] at *; rw [cmpV_lt] at *; exact h.trans k
  · simp only [ltOf, decide_eq_false_iff_not] at *; rw [cmpV_lt] at *
    intro hxz
    rcases LtV.tri x y with h1 | h1 | h1
    · exact h h1
    · subst h1; exact k hxz
    · exact k (h1.trans hxz)
theorem totV (x y : Val) (h : ltOf cmpV x y = false) (k : ltOf cmpV y x = false) : x = y := by
  simp only [ltOf, decide_eq_false_iff_not] at *
  rw [cmpV_lt] at *
  rcases LtV.tri x y with h1 | h1 | h1
  · exact absurd h1 h
  · exact h1
  · exact absurd h1 k
theorem lessV_iff (x y : Val) : lessV x y = true ↔ LtV x y := by
  unfold lessV LtV
  by_cases h1 : x.k = y.k
  · by_cases h2 : x.n = y.n
    · simp [h1, h2]
    · simp [h1, h2]
  · simp [h1]
theorem rcmpV_lt (x y : Val) : rcmpV x y < 0 ↔ LtV x y := by
  unfold rcmpV
  rw [← lessV_iff]
  cases lessV x y <;> cases lessV y x <;> simp
theorem rcmpV_eq (x y : Val) : rcmpV x y = 0 ↔ x = y := by
  unfold rcmpV
  have h1 := lessV_iff x y
  have h2 := lessV_iff y x
  constructor
  · intro h
    cases a : lessV x y <;> cases b : lessV y x <;> simp [a, b] at h
    rcases LtV.tri x y with t | t | t
    · rw [← h1, a] at t; cases t
    · exact t
    · rw [← h2, b] at t; cases t
  · rintro rfl
    have : lessV x x = false := by
      cases a : lessV x x
      · rfl
      · exact absurd (h1.1 a) (LtV.irrefl x)
    simp [this]
theorem eqV_iff (x y : Val) : eqV x y = true ↔ x = y := by
  obtain ⟨k, n, s⟩ := x
  obtain ⟨k', n', s'⟩ := y
  simp only [eqV, eqC, Bool.and_eq_true, beq_iff_eq, Val.mk.injEq]
  constructor
  · rintro ⟨⟨h1, h2⟩, h3⟩; exact ⟨h1, h2, ba_ext h3⟩
  · rintro ⟨h1, h2, h3⟩; exact ⟨⟨h1, h2⟩, by rw [h3]⟩
end Go.Proofs.YtcffcblfmlclnaaGreatDoor
