/- Plain laws: intervals, places. -/
import Derived.Test.YtbblkabnijhdoaaLaw
namespace Go.Proofs.Ytbblkabnijhdoaa
open Go.RowKit Go.Zone Go.Shelf Go.Sort

def behindV (xs : List Val) (v : Val) : Nat := if hits xs v then lower xs v + 1 else lower xs v
theorem takeWhile_all {α : Type} (p : α → Bool) : ∀ (l : List α) (i : Nat) (h : i < (l.takeWhile p).length), (hl : i < l.length) → p l[i] = true
  | [], i, h, _ => by simp at h
  | x :: r, i, h, hl => by
    rw [List.takeWhile_cons] at h
    split at h
    · rename_i hx
      cases i with
      | zero => exact hx
      | succ i => exact takeWhile_all p r i (by simpa using h) (by simpa using hl)
    · simp at h
theorem takeWhile_end {α : Type} (p : α → Bool) : ∀ (l : List α) (h : (l.takeWhile p).length < l.length), p l[(l.takeWhile p).length] = false
  | [], h => by simp at h
  | x :: r, h => by
    by_cases hx : p x = true
    · have := takeWhile_end p r (by rw [List.takeWhile_cons, if_pos hx] at h; simpa using h)
      simp only [List.takeWhile_cons, hx, if_true, List.length_cons, List.getElem_cons_succ]
      exact this
    · simp only [List.takeWhile_cons, hx, if_false, List.length_nil, List.getElem_cons_zero]
      simpa using hx
theorem lower_lt (xs : List Val) (v : Val) (i : Nat) (h : i < lower xs v) (hl : i < xs.length) : LtV xs[i] v := by
  have := takeWhile_all _ xs i h hl
  simpa [cmpV_lt] using this
theorem lower_end (xs : List Val) (v : Val) (h : lower xs v < xs.length) : ¬ LtV xs[lower xs v] v := by
  intro hlt
  rw [← cmpV_lt] at hlt
  have h2 : decide (cmpV xs[lower xs v] v < 0) = false := takeWhile_end _ xs h
  simp only [decide_eq_false_iff_not] at h2
  exact h2 hlt
theorem hits_iff (xs : List Val) (v : Val) : hits xs v = true ↔ ∃ h : lower xs v < xs.length, xs[lower xs v] = v := by
  unfold hits
  rcases Nat.lt_or_ge (lower xs v) xs.length with h | h
  · rw [List.getElem?_eq_getElem h]
    simp only [beq_iff_eq, cmpV_eq]
    exact ⟨fun e => ⟨h, e⟩, fun ⟨_, e⟩ => e⟩
  · rw [List.getElem?_eq_none h]
    simp only [Bool.false_eq_true, false_iff]
    rintro ⟨h', _⟩; omega
theorem behind_le {xs : List Val} {v : Val} (_ : xs.Pairwise LtV) : lower xs v ≤ behindV xs v ∧ behindV xs v ≤ xs.length := by
  unfold behindV
  split
  · rename_i h
    obtain ⟨h1, _⟩ := (hits_iff xs v).1 h
    omega
  · exact ⟨Nat.le_refl _, lower_le xs v⟩
section
variable {xs : List Val} {v : Val} (hs : xs.Pairwise LtV)
include hs
theorem after_lower (i : Nat) (hi : i < xs.length) (h : lower xs v ≤ i) : ¬ LtV xs[i] v := by
  have h0 := lower_end xs v (by omega)
  rcases Nat.lt_or_ge (lower xs v) i with h1 | h1
  · intro h2
    exact h0 ((List.pairwise_iff_getElem.1 hs _ i (by omega) hi h1).trans h2)
  · have : i = lower xs v := by omega
    subst this; exact h0
theorem at_hit (i : Nat) (hi : i < xs.length) : xs[i] = v ↔ hits xs v = true ∧ i = lower xs v := by
  constructor
  · intro e
    have hle : lower xs v ≤ i := by
      rcases Nat.lt_or_ge i (lower xs v) with h | h
      · have := lower_lt xs v i h hi; rw [e] at this; exact absurd this (LtV.irrefl v)
      · exact h
    have hlt : lower xs v < xs.length := by omega
    have heq : i = lower xs v := by
      rcases Nat.lt_or_ge (lower xs v) i with h | h
      · have h1 := List.pairwise_iff_getElem.1 hs _ i hlt hi h
        rw [e] at h1
        exact absurd h1 (lower_end xs v hlt)
      · omega
    exact ⟨(hits_iff xs v).2 ⟨hlt, by subst heq; exact e⟩, heq⟩
  · rintro ⟨h, rfl⟩
    exact ((hits_iff xs v).1 h).2
theorem lt_iff (i : Nat) (hi : i < xs.length) : LtV xs[i] v ↔ i < lower xs v :=
  ⟨fun h => by
    rcases Nat.lt_or_ge i (lower xs v) with h1 | h1
    · exact h1
    · exact absurd h (after_lower hs i hi h1), fun h => lower_lt xs v i h hi⟩
theorem gt_iff (i : Nat) (hi : i < xs.length) : LtV v xs[i] ↔ behindV xs v ≤ i := by
  have h1 := lt_iff (v := v) hs i hi
  have h2 := at_hit (v := v) hs i hi
  unfold behindV
  constructor
  · intro h
    have a : ¬ LtV xs[i] v := fun h' => LtV.irrefl v (h.trans h')
    have b : xs[i] ≠ v := fun e => by rw [e] at h; exact LtV.irrefl v h
    split
    · rename_i hh
      have : i ≠ lower xs v := fun e => b (h2.2 ⟨hh, e⟩)
      have hn : ¬ i < lower xs v := fun h' => a (h1.2 h')
      omega
    · have hn : ¬ i < lower xs v := fun h' => a (h1.2 h')
      omega
  · intro h
    rcases LtV.tri xs[i] v with t | t | t
    · have := h1.1 t
      split at h <;> omega
    · obtain ⟨hh, e⟩ := h2.1 t
      rw [if_pos hh] at h
      omega
    · exact t
/-- where a comparison holds: one run -/
def runLo (cmp : Int) (xs : List Val) (v : Val) : Nat := if cmp == 1 then lower xs v else if cmp == 3 then 0 else if cmp == 4 then 0 else if cmp == 5 then behindV xs v else lower xs v
def runHi (cmp : Int) (xs : List Val) (v : Val) : Nat := if cmp == 1 then behindV xs v else if cmp == 3 then lower xs v else if cmp == 4 then behindV xs v else xs.length
theorem so_run (cmp : Int) (h2 : (cmp == 2) = false) (i : Nat) (hi : i < xs.length) : so3 cmp (rcmpV xs[i] v) = decide (runLo cmp xs v ≤ i ∧ i < runHi cmp xs v) := by
  have a := rcmpV_lt xs[i] v
  have b := rcmpV_eq xs[i] v
  have c : 0 < rcmpV xs[i] v ↔ LtV v xs[i] := by
    constructor
    · intro h
      rcases LtV.tri xs[i] v with t | t | t
      · have := a.2 t; omega
      · have := b.2 t; omega
      · exact t
    · intro h
      rcases Int.lt_trichotomy (rcmpV xs[i] v) 0 with t | t | t
      · exact absurd (h.trans (a.1 t)) (LtV.irrefl v)
      · rw [b.1 t] at h; exact absurd h (LtV.irrefl v)
      · exact t
  rw [lt_iff hs i hi] at a
  rw [at_hit hs i hi] at b
  rw [gt_iff hs i hi] at c
  have d := behind_le (v := v) hs
  have e : hits xs v = true ∧ i = lower xs v ↔ lower xs v ≤ i ∧ i < behindV xs v := by
    unfold behindV
    split
    · rename_i h; simp [h]; omega
    · rename_i h; simp [h]
  rw [e] at b
  unfold so3 runLo runHi
  rw [h2]
  rw [Bool.eq_iff_iff]
  simp only [Bool.false_eq_true, if_false]
  (repeat' split) <;> simp only [beq_iff_eq, decide_eq_true_eq] <;> omega
end
/-- a run's ends, found by going through -/
theorem ivTo_run (cmp : Int) (v : Val) (xs : List Val) (a b : Nat) (hab : b ≤ xs.length) (h : ∀ i, (hi : i < xs.length) → so3 cmp (rcmpV xs[i] v) = decide (a ≤ i ∧ i < b)) : ∀ k, k ≤ xs.length →
    (ivTo cmp v xs k).lo = (if a < k ∧ a < b then (a : Int) else -1) ∧ (ivTo cmp v xs k).hi = (if a < k ∧ a < b then ((min k b : Nat) : Int) else 0)
  | 0, _ => by simp [ivTo]
  | k + 1, hk => by
    have ih := ivTo_run cmp v xs a b hab h k (by omega)
    have hg : xs.getD k default = xs[k] := by simp [show k < xs.length by omega]
    simp only [ivTo, stepIv, hg, h k (by omega), ih.1, ih.2]
    constructor
    · by_cases h1 : a ≤ k ∧ k < b
      · by_cases h2 : a < k
        · have e1 : a < k ∧ a < b := by omega
          have e2 : a < k + 1 ∧ a < b := by omega
          simp only [e1, e2, and_self, if_true]
          simp
          omega
        · have e1 : ¬ (a < k ∧ a < b) := by omega
          have e2 : a < k + 1 ∧ a < b := by omega
          simp only [e1, e2, and_self, if_true, if_false, h1, decide_true, Bool.true_and]
          simp; omega
      · simp only [h1, decide_false, Bool.false_and, Bool.false_eq_true, if_false]
        by_cases e1 : a < k ∧ a < b
        · rw [if_pos e1, if_pos (by omega)]
        · rw [if_neg e1, if_neg (by omega)]
    · by_cases h1 : a ≤ k ∧ k < b
      · simp only [h1, and_self, decide_true, if_true]
        rw [if_pos (by omega)]
        omega
      · simp only [h1, decide_false, Bool.false_eq_true, if_false]
        by_cases e1 : a < k ∧ a < b
        · rw [if_pos e1, if_pos (by omega)]
          omega
        · rw [if_neg e1, if_neg (by omega)]
theorem ivTo_first (cmp : Int) (v : Val) (xs : List Val) (b : Nat) (hab : b ≤ xs.length) (h : ∀ i, (hi : i < xs.length) → so3 3 (rcmpV xs[i] v) = decide (i < b)) : ∀ k, k ≤ xs.length → (ivTo cmp v xs k).first = ((min k b : Nat) : Int)
  | 0, _ => by simp [ivTo]
  | k + 1, hk => by
    have ih := ivTo_first cmp v xs b hab h k (by omega)
    have hg : xs.getD k default = xs[k] := by simp [show k < xs.length by omega]
    simp only [ivTo, stepIv, hg, h k (by omega), ih]
    by_cases h1 : k < b
    · simp only [h1, decide_true, if_true]; omega
    · simp only [h1, decide_false, Bool.false_eq_true, if_false]; omega
theorem ivTo_behind (cmp : Int) (v : Val) (xs : List Val) (b : Nat) (hab : b ≤ xs.length) (h : ∀ i, (hi : i < xs.length) → so3 4 (rcmpV xs[i] v) = decide (i < b)) : ∀ k, k ≤ xs.length → (ivTo cmp v xs k).behind = ((min k b : Nat) : Int)
  | 0, _ => by simp [ivTo]
  | k + 1, hk => by
    have ih := ivTo_behind cmp v xs b hab h k (by omega)
    have hg : xs.getD k default = xs[k] := by simp [show k < xs.length by omega]
    simp only [ivTo, stepIv, hg, h k (by omega), ih]
    by_cases h1 : k < b
    · simp only [h1, decide_true, if_true]; omega
    · simp only [h1, decide_false, Bool.false_eq_true, if_false]; omega
theorem rIval_d (kind : Int) (xs : List Val) (cmp : Int) (v : Val) (hs : xs.Pairwise LtV) (hk : kind ≠ 0) : rIval kind xs cmp v = dIval kind xs cmp v := by
  unfold rIval dIval
  rw [if_neg hk]
  split
  · rfl
  · rename_i hb
    split
    · rfl
    · have hc : 1 ≤ cmp ∧ (cmp == 2) = false ∧ cmp ≤ 6 := by
        have : badCmp v cmp = false := by simpa using hb
        unfold badCmp at this
        simp only [Bool.or_eq_false_iff, decide_eq_false_iff_not] at this
        exact ⟨by omega, this.1.2, by omega⟩
      have hbd := behind_le (v := v) hs
      have r := ivTo_run cmp v xs (runLo cmp xs v) (runHi cmp xs v) (by unfold runHi; (repeat' split) <;> first | exact hbd.2 | exact lower_le xs v | exact Nat.le_refl _) (fun i hi => so_run hs cmp hc.2.1 i hi) xs.length (Nat.le_refl _)
      have f := ivTo_first cmp v xs (lower xs v) (lower_le xs v) (fun i hi => by rw [so_run hs 3 rfl i hi]; simp [runLo, runHi]) xs.length (Nat.le_refl _)
      have g := ivTo_behind cmp v xs (behindV xs v) hbd.2 (fun i hi => by rw [so_run hs 4 rfl i hi]; simp [runLo, runHi]) xs.length (Nat.le_refl _)
      have hbe : (if hits xs v then (lower xs v : Int) + 1 else (lower xs v : Int)) = (behindV xs v : Int) := by unfold behindV; split <;> simp
      have hl := lower_le xs v
      rw [hbe]
      generalize ivTo cmp v xs xs.length = st at r f g
      obtain ⟨lo, hi, fi, bh⟩ := st
      simp only at r f g
      obtain ⟨r1, r2⟩ := r
      subst r1; subst r2; subst f; subst g
      unfold ivEnd runLo runHi
      generalize lower xs v = l at *
      generalize behindV xs v = m at *
      generalize xs.length = n at *
      have hcm : cmp = 1 ∨ cmp = 3 ∨ cmp = 4 ∨ cmp = 5 ∨ cmp = 6 := by
        have := hc.2.1
        simp only [beq_eq_false_iff_ne, ne_eq] at this
        omega
      rcases hcm with rfl | rfl | rfl | rfl | rfl
      all_goals
        simp only [beq_self_eq_true, if_true, if_false, Bool.false_eq_true, show ((1 : Int) == 3) = false from rfl, show ((1 : Int) == 4) = false from rfl, show ((1 : Int) == 5) = false from rfl, show ((3 : Int) == 1) = false from rfl, show ((3 : Int) == 4) = false from rfl, show ((3 : Int) == 5) = false from rfl, show ((4 : Int) == 1) = false from rfl, show ((4 : Int) == 3) = false from rfl, show ((4 : Int) == 5) = false from rfl, show ((5 : Int) == 1) = false from rfl, show ((5 : Int) == 3) = false from rfl, show ((5 : Int) == 4) = false from rfl, show ((6 : Int) == 1) = false from rfl, show ((6 : Int) == 3) = false from rfl, show ((6 : Int) == 4) = false from rfl, show ((6 : Int) == 5) = false from rfl, Bool.or_false, Bool.or_true, Bool.true_or]
        (repeat' split) <;> simp only [Prod.mk.injEq, and_true, true_and] <;> omega
end Go.Proofs.Ytbblkabnijhdoaa
