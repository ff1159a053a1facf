/- Plain laws: the program's dictionary is the document's. -/
import Derived.Test.YthigflnfccajoaaGreatDictM
namespace Go.Proofs.YthigflnfccajoaaGreat
open Go.RowKit Go.Zone Go.Shelf Go.Sort

theorem sorted_unique : ∀ (l m : List Val), l.Pairwise LtV → m.Pairwise LtV → (∀ x, x ∈ l ↔ x ∈ m) → l = m
  | [], [], _, _, _ => rfl
  | [], y :: m, _, _, h => by have := (h y).2 (by simp); cases this
  | x :: l, [], _, _, h => by have := (h x).1 (by simp); cases this
  | x :: l, y :: m, hl, hm, h => by
    have hl' := List.pairwise_cons.1 hl
    have hm' := List.pairwise_cons.1 hm
    have hxy : x = y := by
      rcases List.mem_cons.1 ((h x).1 (by simp)) with e | e
      · exact e
      · rcases List.mem_cons.1 ((h y).2 (by simp)) with e' | e'
        · exact e'.symm
        · exact absurd ((hm'.1 x e).trans (hl'.1 y e')) (LtV.irrefl y)
    subst hxy
    congr 1
    refine sorted_unique l m hl'.2 hm'.2 fun z => ?_
    have hz := h z
    simp only [List.mem_cons] at hz
    constructor
    · intro hzl
      rcases hz.1 (.inr hzl) with e | e
      · subst e; exact absurd (hl'.1 z hzl) (LtV.irrefl z)
      · exact e
    · intro hzm
      rcases hz.2 (.inr hzm) with e | e
      · subst e; exact absurd (hm'.1 z hzm) (LtV.irrefl z)
      · exact e

/-- Put's fold on a rising list. -/
theorem putS_false (v : Val) : ∀ (xs : List Val) (a : List Val), (∀ x ∈ xs, ¬ LtV v x) → xs.foldl (stepPut v) (a, false) = (a ++ xs, false)
  | [], a, _ => by simp
  | x :: r, a, h => by
    have h0 : lessV v x = false := by
      cases hl : lessV v x
      · rfl
      · exact absurd ((lessV_iff v x).1 hl) (h x (by simp))
    rw [List.foldl_cons]
    simp only [stepPut, h0, Bool.and_false, Bool.false_eq_true, if_false]
    rw [putS_false v r _ fun x hx => h x (by simp [hx])]
    simp
theorem putS_true (v : Val) : ∀ (xs : List Val) (a : List Val), xs.foldl (stepPut v) (a, true) = (a ++ xs, true)
  | [], a => by simp
  | x :: r, a => by
    rw [List.foldl_cons]
    simp only [stepPut, Bool.not_true, Bool.false_and, Bool.false_eq_true, if_false]
    rw [putS_true v r]
    simp
theorem any_eqV (xs : List Val) (v : Val) : (xs.any fun x => eqV x v) = true ↔ v ∈ xs := by
  rw [List.any_eq_true]
  constructor
  · rintro ⟨x, hx, he⟩; rw [(eqV_iff x v).1 he] at hx; exact hx
  · intro h; exact ⟨v, h, (eqV_iff v v).2 rfl⟩
theorem split_at (v : Val) : ∀ (xs : List Val), xs.Pairwise LtV → v ∉ xs → ∃ a b, xs = a ++ b ∧ (∀ x ∈ a, LtV x v) ∧ (∀ x ∈ b, LtV v x)
  | [], _, _ => ⟨[], [], rfl, by simp, by simp⟩
  | x :: r, h, hv => by
    have h' := List.pairwise_cons.1 h
    rcases LtV.tri x v with t | t | t
    · obtain ⟨a, b, e, h1, h2⟩ := split_at v r h'.2 (fun hm => hv (by simp [hm]))
      exact ⟨x :: a, b, by simp [e], fun y hy => by
        rcases List.mem_cons.1 hy with rfl | hy
        · exact t
        · exact h1 y hy, h2⟩
    · subst t; exact absurd (by simp) hv
    · exact ⟨[], x :: r, rfl, by simp, fun y hy => by
        rcases List.mem_cons.1 hy with rfl | hy
        · exact t
        · exact t.trans (h'.1 y hy)⟩
theorem putV_split (v : Val) (a b : List Val) (ha : ∀ x ∈ a, LtV x v) (hb : ∀ x ∈ b, LtV v x) : putV (a ++ b) v = a ++ v :: b := by
  have hv : v ∉ a ++ b := fun h => by
    rcases List.mem_append.1 h with h | h
    · exact LtV.irrefl v (ha v h)
    · exact LtV.irrefl v (hb v h)
  have h1 := putS_false v a [] fun x hx h => LtV.irrefl v (h.trans (ha x hx))
  have hS : putS v (a ++ b) = b.foldl (stepPut v) (a, false) := by
    unfold putS
    rw [List.foldl_append, h1]
    simp
  unfold putV
  rw [if_neg (fun h => hv ((any_eqV _ _).1 h)), hS]
  cases b with
  | nil => simp
  | cons y r =>
    have hy : lessV v y = true := (lessV_iff v y).2 (hb y (by simp))
    rw [List.foldl_cons]
    simp only [stepPut, hy, Bool.not_false, Bool.and_true, if_true]
    rw [putS_true v r]
    simp
theorem putV_sorted (xs : List Val) (v : Val) (h : xs.Pairwise LtV) : (putV xs v).Pairwise LtV ∧ ∀ x, x ∈ putV xs v ↔ x ∈ xs ∨ x = v := by
  by_cases hv : v ∈ xs
  · have : putV xs v = xs := by unfold putV; rw [if_pos ((any_eqV _ _).2 hv)]
    rw [this]
    refine ⟨h, fun x => ⟨.inl, fun hx => ?_⟩⟩
    rcases hx with hx | rfl
    · exact hx
    · exact hv
  · obtain ⟨a, b, rfl, ha, hb⟩ := split_at v xs h hv
    rw [putV_split v a b ha hb]
    refine ⟨?_, fun x => ?_⟩
    · rw [List.pairwise_append] at h ⊢
      refine ⟨h.1, List.pairwise_cons.2 ⟨hb, h.2.1⟩, fun x hx y hy => ?_⟩
      rcases List.mem_cons.1 hy with rfl | hy
      · exact ha x hx
      · exact h.2.2 x hx y hy
    · simp only [List.mem_append, List.mem_cons]
      constructor
      · rintro (h | rfl | h)
        · exact .inl (.inl h)
        · exact .inr rfl
        · exact .inl (.inr h)
      · rintro ((h | h) | rfl)
        · exact .inl h
        · exact .inr (.inr h)
        · exact .inr (.inl rfl)
theorem putAll_sorted (xs : List Val) : (putAll xs).Pairwise LtV ∧ ∀ x, x ∈ putAll xs ↔ x ∈ xs := by
  suffices h : ∀ (xs a : List Val), a.Pairwise LtV → (xs.foldl putV a).Pairwise LtV ∧ ∀ x, x ∈ xs.foldl putV a ↔ x ∈ xs ∨ x ∈ a by
    have := h xs [] List.Pairwise.nil
    exact ⟨this.1, fun x => by have := this.2 x; simpa [putAll] using this⟩
  intro xs
  induction xs with
  | nil => intro a ha; exact ⟨ha, fun x => by simp⟩
  | cons y r ih =>
    intro a ha
    have h1 := putV_sorted a y ha
    have h2 := ih (putV a y) h1.1
    refine ⟨h2.1, fun x => ?_⟩
    rw [List.foldl_cons, h2.2 x, h1.2 x, List.mem_cons]
    constructor
    · rintro (h | h | h)
      · exact .inl (.inr h)
      · exact .inr h
      · exact .inl (.inl h)
    · rintro ((h | h) | h)
      · exact .inr (.inr h)
      · exact .inl h
      · exact .inr (.inl h)

/-- not less in the other direction -/
def LeV (x y : Val) : Prop := ¬ LtV y x
theorem sortV_sorted (xs : List Val) : (sortV xs).Pairwise LeV := by
  have h := List.pairwise_mergeSort (le := fun x y => !(ltOf cmpV) y x) (fun a b c h1 h2 => by
    simp only [Bool.not_eq_true'] at *
    exact swoV.ntrans c b a h2 h1) (fun a b => by
    cases h1 : ltOf cmpV b a
    · rfl
    · cases h2 : ltOf cmpV a b
      · simp
      · exact absurd (swoV.trans a b a h2 h1) (by rw [swoV.irrefl]; simp)) xs
  refine h.imp fun {a b} hab => ?_
  simp only [Bool.not_eq_true', ltOf, decide_eq_false_iff_not, cmpV_lt] at hab
  exact hab
theorem sortV_mem (xs : List Val) (x : Val) : x ∈ sortV xs ↔ x ∈ xs := List.mem_mergeSort
theorem ddTo_sorted (xs : List Val) (h : xs.Pairwise LeV) : ∀ m, m ≤ xs.length → (ddTo xs m).Pairwise LtV ∧ (∀ x, x ∈ ddTo xs m ↔ x ∈ xs.take m)
  | 0, _ => ⟨by simp [ddTo], fun x => by simp [ddTo]⟩
  | m + 1, hm => by
    have ih := ddTo_sorted xs h m (by omega)
    have hml : m < xs.length := by omega
    have hg : xs.getD m default = xs[m] := by simp [hml]
    have hmem : ∀ x, x ∈ xs.take (m + 1) ↔ x ∈ xs.take m ∨ x = xs[m] := fun x => by
      rw [List.take_succ_eq_append_getElem hml, List.mem_append, List.mem_singleton]
    unfold ddTo
    rw [hg]
    split
    · rename_i hc
      refine ⟨?_, fun x => by rw [List.mem_append, ih.2 x, List.mem_singleton, hmem x]⟩
      rw [List.pairwise_append]
      refine ⟨ih.1, List.pairwise_singleton _ _, fun x hx y hy => ?_⟩
      rw [List.mem_singleton] at hy
      subst hy
      rw [ih.2 x] at hx
      obtain ⟨i, hi, rfl⟩ := List.getElem_of_mem hx
      have him : i < m := by simp at hi; omega
      rw [List.getElem_take]
      rcases hc with hc | hc
      · omega
      · have hm1 : xs.getD (m - 1) default = xs[m - 1] := by simp [show m - 1 < xs.length by omega]
        rw [hm1] at hc
        have hne : xs[m] ≠ xs[m - 1] := fun e => by rw [(eqV_iff _ _).2 e] at hc; cases hc
        have hle := List.pairwise_iff_getElem.1 h
        have h1 : LtV xs[m - 1] xs[m] := by
          rcases LtV.tri xs[m - 1] xs[m] with t | t | t
          · exact t
          · exact absurd t.symm hne
          · exact absurd t (hle (m - 1) m (by omega) hml (by omega))
        rcases Nat.lt_or_ge i (m - 1) with h2 | h2
        · have h3 := hle i (m - 1) (by omega) (by omega) h2
          rcases LtV.tri xs[i] xs[m - 1] with t | t | t
          · exact t.trans h1
          · rw [t]; exact h1
          · exact absurd t h3
        · have : i = m - 1 := by omega
          subst this; exact h1
    · rename_i hc
      have hc' : m ≠ 0 ∧ eqV xs[m] (xs.getD (m - 1) default) = true := by
        constructor
        · intro e; exact hc (.inl e)
        · cases he : eqV xs[m] (xs.getD (m - 1) default)
          · exact absurd (.inr he) hc
          · rfl
      refine ⟨ih.1, fun x => ?_⟩
      rw [ih.2 x, hmem x]
      constructor
      · exact .inl
      · rintro (hx | rfl)
        · exact hx
        · have e := (eqV_iff _ _).1 hc'.2
          rw [e, List.getD_eq_getElem?_getD, List.getElem?_eq_getElem (by omega), Option.getD_some]
          exact List.mem_take_iff_getElem.2 ⟨m - 1, by omega, rfl⟩
theorem dOwn_sorted (xs : List Val) : (dOwn xs).Pairwise LtV ∧ ∀ x, x ∈ dOwn xs ↔ x ∈ xs := by
  have h := ddTo_sorted (sortV xs) (sortV_sorted xs) (sortV xs).length (Nat.le_refl _)
  refine ⟨h.1, fun x => ?_⟩
  have := h.2 x
  rw [List.take_length, sortV_mem] at this
  exact this
theorem dOwn_put (xs : List Val) : dOwn xs = putAll xs :=
  sorted_unique _ _ (dOwn_sorted xs).1 (putAll_sorted xs).1 fun x => by rw [(dOwn_sorted xs).2 x, (putAll_sorted xs).2 x]
theorem rOf_d (kind : Int) (xs : List Val) : rOf kind xs = if dErr kind xs = 0 then (dOwn xs, 0) else ([], dErr kind xs) := by
  unfold rOf dErr badKind
  have hk : (!(kind == 1 || kind == 2)) = (kind != 1 && kind != 2) := by simp [bne]
  rw [hk]
  have ha : (dOwn xs).any (fun x => x.k != kind) = xs.any (fun x => x.k != kind) := by
    rw [Bool.eq_iff_iff, List.any_eq_true, List.any_eq_true]
    constructor <;> rintro ⟨x, hx, h⟩ <;> exact ⟨x, by simpa [(dOwn_sorted xs).2 x] using hx, h⟩
  rw [ha, ← dOwn_put]
  (repeat' split) <;> simp_all
end Go.Proofs.YthigflnfccajoaaGreat
