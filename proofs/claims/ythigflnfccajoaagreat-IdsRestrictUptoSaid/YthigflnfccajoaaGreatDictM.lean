
/- Contracts of the dictionary's methods: none, Len, Kind, Value, Find, Interval. -/
import Derived.WalkKit
import Derived.Lib.Hide
import Derived.WalkSpells
import Derived.WalkLawsBesides
import Derived.BigQuiet
import Derived.Shelf.Abstract
import Derived.Test.YthigflnfccajoaaGreatDict
import Derived.Test.YthigflnfccajoaaGreatSearch
import Derived.Test.YthigflnfccajoaaGreatIval
namespace Go.Proofs.YthigflnfccajoaaGreat
open Go.RowKit Go.Zone Go.Shelf
attribute [local go_sem] Zone.zone Zone.stepZ Zone.fill Zone.lookFs Zone.goes Zone.goesUpon Zone.dropFs Zone.cell_gro Zone.frozen_gro Zone.size_gro Zone.lt_add Zone.drew_gro Zone.tape_gro Zone.keep_refl
section
variable {b : Nat} {kind : Int} {A : Option Addr} {c : Nat} {xs : List Val}
theorem none_nil (w : World) : Calls Tryz.prog 69 #[.pointer none] w fun e w' => e = .returned (.bool true) ∧ w = w' := by
  go_enter Tryz.func69, Tryz.ntmps69
  go_wp2
  go_ret
  exact ⟨rfl, rfl⟩
theorem none_at (w : World) (h : DictAt w b kind A c xs) : Calls Tryz.prog 69 #[.pointer (some ⟨b, 0, none⟩)] w fun e w' => e = .returned (.bool (kind == 0)) ∧ w = w' := by
  have h0 := h.k
  clear h
  go_enter Tryz.func69, Tryz.ntmps69
  go_wp2
  go_ret
  exact ⟨rfl, rfl⟩
theorem len_nil (w : World) : Calls Tryz.prog 34 #[.pointer none] w fun e w' => e = .returned (.int .i64 0) ∧ w = w' := by
  go_enter Tryz.func34, Tryz.ntmps34
  go_wp2_with (go_at_call 69; refine (none_nil _).mono ?_; rintro e w' ⟨rfl, rfl⟩)
  go_ret
  exact ⟨rfl, rfl⟩
theorem len_at (w : World) (h : DictAt w b kind A c xs) : Calls Tryz.prog 34 #[.pointer (some ⟨b, 0, none⟩)] w fun e w' => e = .returned (.int .i64 (if kind = 0 then 0 else xs.length)) ∧ w = w' := by
  have h1 := h.l
  have hn := none_at w h
  clear h
  by_cases hk : kind = 0
  · rw [if_pos hk]
    rw [show (kind == 0) = true by simp [hk]] at hn
    have HN := Lib.hid hn
    clear hn hk
    go_enter Tryz.func34, Tryz.ntmps34
    go_wp2_with (go_at_call 69; refine (HN.out).mono ?_; rintro e w' ⟨rfl, rfl⟩)
    go_ret
    exact ⟨rfl, rfl⟩
  · rw [if_neg hk]
    rw [show (kind == 0) = false by simp [hk]] at hn
    have HN := Lib.hid hn
    clear hn hk
    go_enter Tryz.func34, Tryz.ntmps34
    go_wp2_with (go_at_call 69; refine (HN.out).mono ?_; rintro e w' ⟨rfl, rfl⟩)
    go_ret
    exact ⟨rfl, rfl⟩
theorem kind_nil (w : World) : Calls Tryz.prog 44 #[.pointer none] w fun e w' => e = .returned (.int .u8 0) ∧ w = w' := by
  go_enter Tryz.func44, Tryz.ntmps44
  go_wp2_with (go_at_call 69; refine (none_nil _).mono ?_; rintro e w' ⟨rfl, rfl⟩)
  go_ret
  exact ⟨rfl, rfl⟩
theorem kind_at (w : World) (h : DictAt w b kind A c xs) : Calls Tryz.prog 44 #[.pointer (some ⟨b, 0, none⟩)] w fun e w' => e = .returned (.int .u8 kind) ∧ w = w' := by
  have h1 := h.k
  have hn := none_at w h
  clear h
  by_cases hk : kind = 0
  · subst hk
    have HN := Lib.hid hn
    clear hn
    go_enter Tryz.func44, Tryz.ntmps44
    go_wp2_with (go_at_call 69; refine (HN.out).mono ?_; rintro e w' ⟨rfl, rfl⟩)
    go_ret
    exact ⟨rfl, rfl⟩
  · rw [show (kind == 0) = false by simp [hk]] at hn
    have HN := Lib.hid hn
    clear hn hk
    go_enter Tryz.func44, Tryz.ntmps44
    go_wp2_with (go_at_call 69; refine (HN.out).mono ?_; rintro e w' ⟨rfl, rfl⟩)
    go_ret
    exact ⟨rfl, rfl⟩
def zeroVal : Val := ⟨0, 0, ⟨#[]⟩⟩
theorem mono_of (hs : xs.Pairwise LtV) (v : Val) : ∀ i j, (hi : i < xs.length) → (hj : j < xs.length) → i ≤ j → cmpV xs[j] v < 0 → cmpV xs[i] v < 0 := fun i j hi hj hij h => by
  rw [cmpV_lt] at *
  rcases Nat.lt_or_ge i j with h1 | h1
  · exact (List.pairwise_iff_getElem.1 hs i j hi hj h1).trans h
  · have : i = j := by omega
    subst this; exact h
def findV (kind : Int) (xs : List Val) (v : Val) : Int × Bool := if kind = 0 then (0, false) else if hits xs v then (lower xs v, true) else (0, false)
theorem ret_ib {a a' : Int} {x x' : Bool} (h : (a, x) = (a', x')) : Ending.returned (.tuple #[.int .i64 a, .bool x]) = .returned (.tuple #[.int .i64 a', .bool x']) := by
  simp only [Prod.mk.injEq] at h
  obtain ⟨rfl, rfl⟩ := h
  rfl
def dIval (kind : Int) (xs : List Val) (cmp : Int) (v : Val) : Int × Int × Int :=
  if kind = 0 then (0, 0, 1) else if badCmp v cmp then (0, 0, 2) else if v.k != kind then (0, 0, 9) else
  if cmp == 1 then (lower xs v, if hits xs v then (lower xs v : Int) + 1 else lower xs v, 0)
  else if cmp == 3 then (0, lower xs v, 0)
  else if cmp == 4 then (0, if hits xs v then (lower xs v : Int) + 1 else lower xs v, 0)
  else if cmp == 5 then (if hits xs v then (lower xs v : Int) + 1 else lower xs v, xs.length, 0)
  else (lower xs v, xs.length, 0)
end
end Go.Proofs.YthigflnfccajoaaGreat
