
/- Contracts of the document's functions on values and dictionaries: less, compare, so, put, of, interval. -/
import Derived.WalkKit
import Derived.Lib.Hide
import Derived.WalkSpells
import Derived.WalkLawsBesides
import Derived.BigQuiet
import Derived.Shelf.Abstract
import Derived.Lib.Strings
import Derived.Test.YtcffcblfmlclnaaGreatDoorFuncs
namespace Go.Proofs.YtcffcblfmlclnaaGreatDoor
open Go.RowKit Go.Zone Go.Shelf
attribute [local go_sem] Zone.zone Zone.stepZ Zone.fill Zone.lookFs Zone.goes Zone.goesUpon Zone.dropFs Zone.cell_gro Zone.frozen_gro Zone.size_gro Zone.lt_add Zone.drew_gro Zone.tape_gro Zone.keep_refl
def lessV (x y : Val) : Bool := if x.k != y.k then decide (x.k < y.k) else if x.n != y.n then decide (x.n < y.n) else Op.bytesLess x.s.toList y.s.toList
theorem bytesLess_len : ∀ (l m : List UInt8), (∀ j, (h1 : j < l.length) → (h2 : j < m.length) → l[j] = m[j]) → Op.bytesLess l m = decide (l.length < m.length)
  | [], [], _ => by simp [Op.bytesLess]
  | [], y :: m, _ => by simp [Op.bytesLess]
  | x :: l, [], _ => by simp [Op.bytesLess]
  | x :: l, y :: m, h => by
    have h0 := h 0 (by simp) (by simp)
    simp only [List.getElem_cons_zero] at h0
    subst h0
    have ih := bytesLess_len l m fun j h1 h2 => by have := h (j + 1) (by simpa using h1) (by simpa using h2); simpa using this
    simp [Op.bytesLess, ih]
theorem bytesLess_at : ∀ (l m : List UInt8) (k : Nat) (h1 : k < l.length) (h2 : k < m.length), (∀ j, j < k → (h1 : j < l.length) → (h2 : j < m.length) → l[j] = m[j]) → l[k] ≠ m[k] → Op.bytesLess l m = decide (l[k] < m[k])
  | [], _, k, h1, _, _, _ => by simp at h1
  | _ :: _, [], k, _, h2, _, _ => by simp at h2
  | x :: l, y :: m, 0, _, _, _, hne => by
    simp only [List.getElem_cons_zero] at hne ⊢
    simp [Op.bytesLess, hne]
  | x :: l, y :: m, k + 1, h1, h2, h, hne => by
    have h0 := h 0 (by omega) (by simp) (by simp)
    simp only [List.getElem_cons_zero] at h0
    subst h0
    have ih := bytesLess_at l m k (by simpa using h1) (by simpa using h2) (fun j hj h1 h2 => by have := h (j + 1) (by omega) (by simpa using h1) (by simpa using h2); simpa using this) (by simpa using hne)
    simp [Op.bytesLess, ih]

theorem size_toList (s : ByteArray) : s.toList.length = s.size := by rw [Lib.toList_data]; simp
theorem toList_get (s : ByteArray) (i : Nat) (h : i < s.toList.length) : s.toList[i] = s[i]'(by rw [size_toList] at h; exact h) := by
  simp only [Lib.toList_data]; simp; rfl
def rcmpV (x y : Val) : Int := if lessV x y then -1 else if lessV y x then 1 else 0
def so3 (cmp c : Int) : Bool := if cmp == 1 then c == 0 else if cmp == 2 then c != 0 else if cmp == 3 then decide (c < 0) else if cmp == 4 then decide (c ≤ 0) else if cmp == 5 then decide (0 < c) else decide (0 ≤ c)
end Go.Proofs.YtcffcblfmlclnaaGreatDoor
