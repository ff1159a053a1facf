
/- The plain law of a leaf over numbers. -/
import Derived.WalkKit
import Derived.Lib.Hide
import Derived.WalkSpells
import Derived.WalkLawsBesides
import Derived.BigQuiet
import Derived.Shelf.Abstract
import Derived.Test.YthigflnfccajoaaIlf
import Derived.Test.YthigflnfccajoaaLaw
namespace Go.Proofs.Ythigflnfccajoaa
open Go.RowKit Go.Zone Go.Shelf
theorem cmp_vN (a b : Int) : cmpV (vN a) (vN b) = cmpI a b := by
  have e1 : cmpI 1 1 = 0 := by decide
  have e2 : cmpS ⟨#[]⟩ ⟨#[]⟩ = 0 := by simp only [cmpS, Lib.toList_data]; decide
  simp only [cmpV, vN, e1, e2, orL]
  simp
  exact fun h => h.symm
theorem lt_vN (a b : Int) : LtV (vN a) (vN b) ↔ a < b := by
  rw [← cmpV_lt, cmp_vN]
  unfold cmpI
  split
  · simp [*]
  · split <;> simp <;> omega
def opI (cmp y m : Int) : Bool := if cmp = 1 then decide (y = m) else if cmp = 3 then decide (y < m) else if cmp = 4 then decide (y ≤ m) else if cmp = 5 then decide (m < y) else if cmp = 6 then decide (m ≤ y) else true
theorem comp_vN (cmp y m : Int) (h : cmp = 1 ∨ cmp = 3 ∨ cmp = 4 ∨ cmp = 5 ∨ cmp = 6) : compB (vN y) cmp [vN m] = opI cmp y m := by
  rcases h with rfl | rfl | rfl | rfl | rfl <;> simp [compB, opI, soB, cmp_vN] <;> unfold cmpI <;> (split <;> (try split) <;> simp <;> omega)
theorem leafF_vN (ns : List Int) (g : Nat) (col : ByteArray) (cmp m : Int) (h : cmp = 1 ∨ cmp = 3 ∨ cmp = 4 ∨ cmp = 5 ∨ cmp = 6) : leafF 1 (ns.map vN) (lfN g col cmp m) = ns.map fun y => opI cmp y m := by
  unfold leafF
  rw [List.map_map]
  refine List.map_congr_left fun y _ => ?_
  show takesB _ _ _ = _
  rw [takesB_eq]
  simp only [lfN, leafB, idxP, isCol, beq_self_eq_true, if_true]
  simp [comp_vN _ _ _ h]
/-- A dictionary of numbers: each value a number, each greater than the one before. -/
theorem own_ints (xs : List Val) (h : dErr 1 xs = 0) : ∃ ns : List Int, dOwn xs = ns.map vN ∧ ns.Pairwise (· < ·) := by
  have hs := (dOwn_sorted xs).1
  have hm := (dOwn_sorted xs).2
  have hk : badKind 1 = false := by decide
  unfold dErr at h
  rw [hk] at h
  simp only [Bool.false_eq_true, if_false] at h
  split at h
  · cases h
  rename_i h1
  split at h
  · cases h
  rename_i h2
  have hv : ∀ x ∈ dOwn xs, x = vN x.n := fun x hx => by
    have a1 : (x.k != 1) = false := by
      have := List.any_eq_false.1 (show (dOwn xs).any (fun x => x.k != 1) = false by simpa using h2) x hx
      simpa using this
    have a2 : noMay x = false := by
      have := List.any_eq_false.1 (show xs.any noMay = false by simpa using h1) x ((hm x).1 hx)
      simpa using this
    have k1 : x.k = 1 := by simpa using a1
    have a3 : mayV x = true := by simpa [noMay] using a2
    unfold mayV at a3
    rw [k1] at a3
    simp only [beq_self_eq_true, if_true] at a3
    obtain ⟨k, n, ⟨⟨l⟩⟩⟩ := x
    rw [Lib.toList_data] at a3
    simp only [List.isEmpty_iff] at a3
    simp only at k1
    subst k1; subst a3
    rfl
  refine ⟨(dOwn xs).map Val.n, ?_, ?_⟩
  · rw [List.map_map]
    have : ∀ l : List Val, (∀ x ∈ l, x = vN x.n) → l = l.map (vN ∘ Val.n) := fun l => by
      induction l with
      | nil => intro _; rfl
      | cons x r ih =>
        intro hx
        rw [List.map_cons, ← ih fun y hy => hx y (by simp [hy])]
        exact congrArg (· :: r) (hx x (by simp))
    exact this _ hv
  · rw [List.pairwise_map]
    refine hs.imp_of_mem fun hx hy hlt => ?_
    rw [hv _ hx, hv _ hy, lt_vN] at hlt
    exact hlt
end Go.Proofs.Ythigflnfccajoaa
