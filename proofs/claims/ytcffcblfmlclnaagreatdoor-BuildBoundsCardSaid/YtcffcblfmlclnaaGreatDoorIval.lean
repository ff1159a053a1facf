
/- The contract of the document's Interval. -/
import Derived.WalkKit
import Derived.Lib.Hide
import Derived.WalkSpells
import Derived.WalkLawsBesides
import Derived.BigQuiet
import Derived.Shelf.Abstract
import Derived.Test.YtcffcblfmlclnaaGreatDoorOf
namespace Go.Proofs.YtcffcblfmlclnaaGreatDoor
open Go.RowKit Go.Zone Go.Shelf
attribute [local go_sem] Zone.zone Zone.stepZ Zone.fill Zone.lookFs Zone.goes Zone.goesUpon Zone.dropFs Zone.cell_gro Zone.frozen_gro Zone.size_gro Zone.lt_add Zone.drew_gro Zone.tape_gro Zone.keep_refl
attribute [local go_sem high] run_eq_val run_ne_val run_eqG_val

structure Iv where
  lo : Int
  hi : Int
  first : Int
  behind : Int
def stepIv (cmp : Int) (v : Val) (st : Iv) (i : Nat) (x : Val) : Iv :=
  { lo := if so3 cmp (rcmpV x v) && decide (st.lo < 0) then (i : Int) else st.lo
    hi := if so3 cmp (rcmpV x v) then (i : Int) + 1 else st.hi
    first := if so3 3 (rcmpV x v) then (i : Int) + 1 else st.first
    behind := if so3 4 (rcmpV x v) then (i : Int) + 1 else st.behind }
def ivTo (cmp : Int) (v : Val) (xs : List Val) : Nat → Iv
  | 0 => ⟨-1, 0, 0, 0⟩
  | k + 1 => stepIv cmp v (ivTo cmp v xs k) k (xs.getD k default)
theorem ivTo_bd (cmp : Int) (v : Val) (xs : List Val) : ∀ k, -1 ≤ (ivTo cmp v xs k).lo ∧ (ivTo cmp v xs k).lo ≤ k ∧ 0 ≤ (ivTo cmp v xs k).hi ∧ (ivTo cmp v xs k).hi ≤ k ∧ 0 ≤ (ivTo cmp v xs k).first ∧ (ivTo cmp v xs k).first ≤ k ∧ 0 ≤ (ivTo cmp v xs k).behind ∧ (ivTo cmp v xs k).behind ≤ k
  | 0 => by simp [ivTo]
  | k + 1 => by
    have ih := ivTo_bd cmp v xs k
    simp only [ivTo, stepIv]
    refine ⟨?_, ?_, ?_, ?_, ?_, ?_, ?_, ?_⟩ <;> split <;> omega
def ivEnd (cmp : Int) (st : Iv) : Int × Int := if st.lo < 0 then (if cmp == 3 || cmp == 4 then (0, 0) else if cmp == 5 then (st.behind, st.behind) else (st.first, st.first)) else (st.lo, st.hi)
def badCmp (v : Val) (cmp : Int) : Bool := !mayV v || decide (cmp < 1) || cmp == 2 || decide (6 < cmp)
def rIval (kind : Int) (xs : List Val) (cmp : Int) (v : Val) : Int × Int × Int :=
  if badCmp v cmp then (0, 0, 2) else if v.k != kind then (0, 0, 9) else ((ivEnd cmp (ivTo cmp v xs xs.length)).1, (ivEnd cmp (ivTo cmp v xs xs.length)).2, 0)
theorem ret_iii {a b c a' b' c' : Int} (h : (a, b, c) = (a', b', c')) : Ending.returned (.tuple #[.int .i64 a, .int .i64 b, .int .i64 c]) = .returned (.tuple #[.int .i64 a', .int .i64 b', .int .i64 c']) := by
  simp only [Prod.mk.injEq] at h
  obtain ⟨rfl, rfl, rfl⟩ := h
  rfl

end Go.Proofs.YtcffcblfmlclnaaGreatDoor
