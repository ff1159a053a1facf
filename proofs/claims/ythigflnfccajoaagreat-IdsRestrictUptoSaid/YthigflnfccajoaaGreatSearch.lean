
/- Contract of slices.BinarySearchFunc at values and their comparison. -/
import Derived.WalkKit
import Derived.Lib.Hide
import Derived.WalkSpells
import Derived.WalkLawsBesides
import Derived.BigQuiet
import Derived.Shelf.Abstract
import Derived.Test.YthigflnfccajoaaGreatOf
namespace Go.Proofs.YthigflnfccajoaaGreat
open Go.RowKit Go.Zone Go.Shelf
attribute [local go_sem] Zone.zone Zone.stepZ Zone.fill Zone.lookFs Zone.goes Zone.goesUpon Zone.dropFs Zone.cell_gro Zone.frozen_gro Zone.size_gro Zone.lt_add Zone.drew_gro Zone.tape_gro Zone.keep_refl
def lower (xs : List Val) (v : Val) : Nat := (xs.takeWhile fun x => decide (cmpV x v < 0)).length
theorem lower_eq : ∀ (xs : List Val) (v : Val) (n : Nat), n ≤ xs.length → (∀ j, (h : j < xs.length) → j < n → cmpV xs[j] v < 0) → ((h : n < xs.length) → 0 ≤ cmpV xs[n] v) → lower xs v = n
  | [], _, n, hn, _, _ => by have : n = 0 := by simpa using hn
                             subst this; rfl
  | x :: r, v, 0, _, _, h => by
    have := h (by simp)
    simp only [List.getElem_cons_zero] at this
    simp [lower, this]
  | x :: r, v, n + 1, hn, h1, h2 => by
    have h0 := h1 0 (by simp) (by omega)
    simp only [List.getElem_cons_zero] at h0
    have ih := lower_eq r v n (by simpa using hn) (fun j hj hjn => by have := h1 (j + 1) (by simpa using hj) (by omega); simpa using this) (fun h => by have := h2 (by simpa using h); simpa using this)
    unfold lower at ih ⊢
    simp [h0, ih]
theorem lower_le (xs : List Val) (v : Val) : lower xs v ≤ xs.length := (List.takeWhile_sublist _).length_le
def hits (xs : List Val) (v : Val) : Bool := match xs[lower xs v]? with | some x => cmpV x v == 0 | none => false

end Go.Proofs.YthigflnfccajoaaGreat
