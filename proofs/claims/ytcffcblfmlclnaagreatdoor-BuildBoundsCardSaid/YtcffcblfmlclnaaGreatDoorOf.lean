
/- Contracts of the document's Of, Interval. -/
import Derived.WalkKit
import Derived.Lib.Hide
import Derived.WalkSpells
import Derived.WalkLawsBesides
import Derived.BigQuiet
import Derived.Shelf.Abstract
import Derived.Test.YtcffcblfmlclnaaGreatDoorPut
namespace Go.Proofs.YtcffcblfmlclnaaGreatDoor
open Go.RowKit Go.Zone Go.Shelf
attribute [local go_sem] Zone.zone Zone.stepZ Zone.fill Zone.lookFs Zone.goes Zone.goesUpon Zone.dropFs Zone.cell_gro Zone.frozen_gro Zone.size_gro Zone.lt_add Zone.drew_gro Zone.tape_gro Zone.keep_refl
attribute [local go_sem high] run_eq_val run_ne_val run_eqG_val

def pl (a : List Val × Bool) : Nat := if a.2 then a.1.length else a.1.length + 1
theorem stepPut_len (v : Val) (a : List Val × Bool) (x : Val) : pl (stepPut v a x) = pl a + 1 := by
  obtain ⟨l, b⟩ := a
  unfold stepPut pl
  cases b <;> cases lessV v x <;> simp
theorem putS_len (v : Val) (xs : List Val) : pl (putS v xs) = xs.length + 1 := by
  unfold putS
  suffices h : ∀ (xs : List Val) (a : List Val × Bool), pl (xs.foldl (stepPut v) a) = pl a + xs.length by
    have := h xs ([], false)
    rw [this]
    simp [pl]; omega
  intro xs
  induction xs with
  | nil => intro a; rfl
  | cons x r ih =>
    intro a
    rw [List.foldl_cons, ih, stepPut_len, List.length_cons]
    omega
theorem putV_len (xs : List Val) (v : Val) : (putV xs v).length ≤ xs.length + 1 := by
  have h := putS_len v xs
  unfold putV
  split
  · omega
  · split
    · rename_i hb; simp [pl, hb] at h; omega
    · rename_i hb; simp [pl, hb] at h; simp; omega
theorem putV_mem (xs : List Val) (v : Val) : ∀ x ∈ putV xs v, x ∈ xs ∨ x = v := by
  have hs : ∀ (ys : List Val) (a : List Val × Bool), ∀ x ∈ (ys.foldl (stepPut v) a).1, x ∈ ys ∨ x = v ∨ x ∈ a.1 := by
    intro ys
    induction ys with
    | nil => intro a x hx; exact .inr (.inr hx)
    | cons y r ih =>
      intro a x hx
      rcases ih _ x hx with h | h | h
      · exact .inl (List.mem_cons_of_mem _ h)
      · exact .inr (.inl h)
      · unfold stepPut at h
        split at h <;> simp at h
        · rcases h with h | h | h
          · exact .inr (.inr h)
          · exact .inr (.inl h)
          · exact .inl (by rw [h]; exact List.mem_cons_self)
        · rcases h with h | h
          · exact .inr (.inr h)
          · exact .inl (by rw [h]; exact List.mem_cons_self)
  intro x hx
  unfold putV at hx
  have h1 := hs xs ([], false)
  split at hx
  · exact .inl hx
  · split at hx
    · rcases h1 x hx with h | h | h
      · exact .inl h
      · exact .inr h
      · cases h
    · rcases List.mem_append.1 hx with hx | hx
      · rcases h1 x hx with h | h | h
        · exact .inl h
        · exact .inr h
        · cases h
      · exact .inr (by simpa using hx)

def putAll (xs : List Val) : List Val := xs.foldl putV []
theorem putAll_succ (xs : List Val) (k : Nat) (h : k < xs.length) : putAll (xs.take (k + 1)) = putV (putAll (xs.take k)) xs[k] := by
  unfold putAll
  rw [List.take_succ_eq_append_getElem h, List.foldl_append]
  rfl
theorem putAll_len : ∀ (xs : List Val), (putAll xs).length ≤ xs.length := by
  suffices h : ∀ (xs a : List Val), (xs.foldl putV a).length ≤ a.length + xs.length by
    intro xs; have := h xs []; simpa [putAll] using this
  intro xs
  induction xs with
  | nil => intro a; simp
  | cons x r ih => intro a; have := ih (putV a x); have := putV_len a x; simp only [List.foldl_cons, List.length_cons]; omega
theorem putAll_mem : ∀ (xs : List Val), ∀ x ∈ putAll xs, x ∈ xs := by
  suffices h : ∀ (xs a : List Val), ∀ x ∈ xs.foldl putV a, x ∈ xs ∨ x ∈ a by
    intro xs x hx; rcases h xs [] x hx with h | h
    · exact h
    · cases h
  intro xs
  induction xs with
  | nil => intro a x hx; exact .inr hx
  | cons y r ih =>
    intro a x hx
    rcases ih (putV a y) x hx with h | h
    · exact .inl (List.mem_cons_of_mem _ h)
    · rcases putV_mem a y x h with h | h
      · exact .inr h
      · exact .inl (by rw [h]; exact List.mem_cons_self)

def rOf (kind : Int) (xs : List Val) : List Val × Int :=
  if kind != 1 && kind != 2 then ([], 2) else if xs.any noMay then ([], 2) else if xs.any (fun x => x.k != kind) then ([], 9) else (putAll xs, 0)
theorem rOf_len (kind : Int) (xs : List Val) : (rOf kind xs).1.length ≤ xs.length := by
  unfold rOf
  (repeat' split) <;> first | exact Nat.zero_le _ | exact putAll_len xs

end Go.Proofs.YtcffcblfmlclnaaGreatDoor
