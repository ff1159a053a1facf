
/- Names in order: what sorting and compacting give. -/
import Derived.Test.YthigflnfccajoaaIparts
namespace Go.Proofs.Ythigflnfccajoaa
theorem nm_trans {a b c : Nm} (h : a ≤ b) (k : b ≤ c) : a ≤ c := List.le_trans h k
theorem nm_total (a b : Nm) : a ≤ b ∨ b ≤ a := List.le_total a b
theorem nm_anti {a b : Nm} (h : a ≤ b) (k : b ≤ a) : a = b := List.le_antisymm h k
theorem sortN_sorted (xs : List Nm) : (sortN xs).Pairwise (· ≤ ·) := by
  have := List.pairwise_mergeSort (le := fun x y : Nm => decide (x ≤ y)) (fun a b c h k => by simp only [decide_eq_true_eq] at *; exact nm_trans h k) (fun a b => by have := nm_total a b; simpa using this) xs
  simpa [sortN] using this
theorem sortN_mem (xs : List Nm) (x : Nm) : x ∈ sortN xs ↔ x ∈ xs := List.mem_mergeSort
def LtN (a b : Nm) : Prop := a ≤ b ∧ a ≠ b
theorem comp_inv (d : Array Nm) (hs : ∀ i j, i ≤ j → j < d.size → d[i]! ≤ d[j]!) : ∀ m, m ≤ d.size → (Lib.compactUpTo d m).Pairwise LtN ∧ (∀ x, x ∈ Lib.compactUpTo d m ↔ ∃ j, j < m ∧ x = d[j]!)
  | 0, _ => ⟨by simp [Lib.compactUpTo], fun x => by simp [Lib.compactUpTo]⟩
  | m + 1, hm => by
    obtain ⟨h1, h2⟩ := comp_inv d hs m (by omega)
    rw [Lib.compactUpTo_succ]
    by_cases hk : Lib.keeps d m = true
    · rw [if_pos hk]
      refine ⟨List.pairwise_append.2 ⟨h1, by simp, fun x hx y hy => ?_⟩, fun x => ?_⟩
      · rw [List.mem_singleton.1 hy]
        obtain ⟨j, hj, rfl⟩ := (h2 x).1 hx
        refine ⟨hs j m (by omega) (by omega), fun e => ?_⟩
        have h3 : m = 0 ∨ d[m]! ≠ d[m - 1]! := by simpa [Lib.keeps] using hk
        rcases h3 with h3 | h3
        · omega
        · exact h3 (nm_anti (e ▸ hs j (m - 1) (by omega) (by omega)) (hs (m - 1) m (by omega) (by omega)))
      · rw [List.mem_append, List.mem_singleton, h2]
        constructor
        · rintro (⟨j, hj, rfl⟩ | rfl)
          · exact ⟨j, by omega, rfl⟩
          · exact ⟨m, by omega, rfl⟩
        · rintro ⟨j, hj, rfl⟩
          by_cases e : j = m
          · subst e; exact .inr rfl
          · exact .inl ⟨j, by omega, rfl⟩
    · rw [if_neg hk, List.append_nil]
      refine ⟨h1, fun x => ?_⟩
      rw [h2]
      have h3 : ¬ (m = 0 ∨ d[m]! ≠ d[m - 1]!) := by simpa [Lib.keeps] using hk
      have h4 : m ≠ 0 := fun e => h3 (.inl e)
      have h5 : d[m]! = d[m - 1]! := Classical.byContradiction fun e => h3 (.inr e)
      constructor
      · rintro ⟨j, hj, rfl⟩; exact ⟨j, by omega, rfl⟩
      · rintro ⟨j, hj, rfl⟩
        by_cases e : j = m
        · subst e; exact ⟨j - 1, by omega, h5⟩
        · exact ⟨j, by omega, rfl⟩
theorem compN_sorted (xs : List Nm) (h : xs.Pairwise (· ≤ ·)) : (compN xs).Pairwise LtN ∧ ∀ x, x ∈ compN xs ↔ x ∈ xs := by
  have h1 := comp_inv xs.toArray (fun i j hij hj => by
    have hj' : j < xs.length := by simpa using hj
    rw [getElem!_pos _ i (by simp; omega), getElem!_pos _ j hj]
    simp only [List.getElem_toArray]
    rcases Nat.lt_or_eq_of_le hij with h2 | h2
    · exact List.pairwise_iff_getElem.1 h i j (by omega) hj' h2
    · subst h2; exact List.le_refl _) xs.length (by simp)
  refine ⟨h1.1, fun x => (h1.2 x).trans ?_⟩
  constructor
  · rintro ⟨j, hj, rfl⟩
    rw [getElem!_pos _ j (by simpa using hj)]
    simp
  · intro hx
    obtain ⟨j, hj, rfl⟩ := List.getElem_of_mem hx
    exact ⟨j, hj, by rw [getElem!_pos _ j (by simpa using hj)]; simp⟩
theorem cols_sorted (n : Nd) : (colsOf n).Pairwise LtN := by
  rw [colsOf_eq]
  split
  · simp
  · exact (compN_sorted _ (sortN_sorted _)).1
theorem cols_nodup (n : Nd) : (colsOf n).Nodup := (cols_sorted n).imp fun h => h.2
theorem cols_mem (n : Nd) (s : Nm) : s ∈ colsOf n ↔ (if n.op = 4 then s = n.col.data.toList else ∃ k ∈ n.kids, s ∈ colsOf k) := by
  rw [colsOf_eq]
  split
  · simp
  · rw [(compN_sorted _ (sortN_sorted _)).2, sortN_mem, List.mem_flatMap]
/-- A part's columns are the filter's. -/
theorem parts_cols (n : Nd) : ∀ L, partsOf n = some L → (∀ x ∈ L, (colsOf x).length ≤ 1) ∧ ∀ x ∈ L, ∀ s ∈ colsOf x, s ∈ colsOf n := by
  intro L h
  rw [partsOf_eq] at h
  split at h
  · rename_i h1
    cases h
    exact ⟨fun x hx => by rw [List.mem_singleton.1 hx]; exact h1, fun x hx s hs => by rw [List.mem_singleton.1 hx] at hs; exact hs⟩
  · split at h
    · rename_i h2
      obtain ⟨r, h1, h3, _⟩ := partsL_sub n.kids [] L h
      rw [h1, List.nil_append]
      refine ⟨fun x hx => ?_, fun x hx s hs => ?_⟩
      · obtain ⟨k, hk, m, e1, e2⟩ := h3 x hx
        exact (parts_cols k m e1).1 x e2
      · obtain ⟨k, hk, m, e1, e2⟩ := h3 x hx
        rw [cols_mem, if_neg (by omega)]
        exact ⟨k, hk, (parts_cols k m e1).2 x e2 s hs⟩
    · cases h
termination_by SizeOf.sizeOf n
decreasing_by all_goals exact kid_lt hk
end Go.Proofs.Ythigflnfccajoaa
