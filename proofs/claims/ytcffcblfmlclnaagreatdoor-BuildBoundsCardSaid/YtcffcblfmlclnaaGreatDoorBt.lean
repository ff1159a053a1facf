
/- Build, plain: names, columns, configurations that fit; the bound. -/
import Derived.WalkKit
import Derived.Lib.Hide
import Derived.WalkSpells
import Derived.WalkLawsBesides
import Derived.BigQuiet
import Derived.Shelf.Abstract
import Derived.Test.YtcffcblfmlclnaaGreatDoorQcol
namespace Go.Proofs.YtcffcblfmlclnaaGreatDoor
def okB (b : Nat) : Bool := !((decide (b < 97) || decide (122 < b)) && (decide (b < 48) || decide (57 < b)) && !(decide (b = 95)))
structure NameP (s : ByteArray) : Prop where
  ok : ∀ i, (h : i < s.size) → okB (s[i]'h).toNat = true
  lo : 1 ≤ s.size
  hi : s.size ≤ 64
structure MayP (l : List Col) : Prop where
  name : ∀ i, (h : i < l.length) → NameP l[i].name
  kind : ∀ i, (h : i < l.length) → 1 ≤ l[i].kind ∧ l[i].kind ≤ 3
  one : ∀ i k, (h : i < l.length) → (hk : k < i) → (l[k]'(by omega)).name.toList ≠ l[i].name.toList
  lo : 1 ≤ l.length
  hi : l.length ≤ 256
def dimP (l : List Col) (i : Int) : Bool := match i with
  | .ofNat k => match l[k]? with | some c => c.kind == 1 || c.kind == 2 | none => false
  | .negSucc _ => false
def hasB (f : List Bool) (i : Nat) : Bool := f.getD i false
structure FlagP (l : List Col) (f : List Bool) : Prop where
  len : f.length = 0 ∨ f.length = l.length
  ok : ∀ i, f.getD i false = true → dimP l (i : Int) = true
structure FitsP (l : List Col) (s : Int) (v r : List Bool) (sp : List Int) (leaf : Int) : Prop where
  may : MayP l
  sort : s = -1 ∨ dimP l s = true
  inv : FlagP l v
  rng : FlagP l r
  split : ∀ i, (h : i < sp.length) → dimP l sp[i] = true
  one : ∀ i k, (h : i < sp.length) → (hk : k < i) → sp[k]'(by omega) ≠ sp[i]
  few : sp.length ≤ 8
  lo : 1 ≤ leaf
  hi : leaf ≤ 1000000
theorem idxP_first {α : Type} (p : α → Bool) : ∀ (xs : List α) (i k : Nat) (h : k < xs.length), p xs[k] = true → (∀ j, (hj : j < k) → p (xs[j]'(by omega)) = false) → idxP p xs i = ((i + k : Nat) : Int)
  | x :: r, i, 0, _, h, _ => by simp [idxP] at h ⊢; simp [h]
  | x :: r, i, k + 1, hk, h, hf => by
    have h0 := hf 0 (by omega)
    simp only [List.getElem_cons_zero] at h0
    have := idxP_first p r (i + 1) k (by simpa using hk) (by simpa using h) fun j hj => by simpa using hf (j + 1) (by omega)
    simp only [idxP, h0, Bool.false_eq_true, if_false, this]
    congr 1; omega
theorem idxP_le {α : Type} (p : α → Bool) : ∀ (xs : List α) (i k : Nat) (h : k < xs.length), p xs[k] = true → idxP p xs i ≤ ((i + k : Nat) : Int)
  | x :: r, i, 0, _, h => by simp [idxP] at h ⊢; simp [h]
  | x :: r, i, k + 1, hk, h => by
    have := idxP_le p r (i + 1) k (by simpa using hk) (by simpa using h)
    simp only [idxP]
    split <;> omega
/-- the place that Find gives is i just if no column ahead has the name -/
theorem find_first (l : List Col) (i : Nat) (h : i < l.length) : idxP (isCol l[i].name) l 0 = (i : Int) ↔ ∀ k, (hk : k < i) → (l[k]'(by omega)).name.toList ≠ l[i].name.toList := by
  constructor
  · intro he k hk heq
    have := idxP_le (isCol l[i].name) l 0 k (by omega) (by simp [isCol, heq])
    omega
  · intro hall
    have := idxP_first (isCol l[i].name) l 0 i h (by simp [isCol]) fun j hj => by simpa [isCol] using hall j hj
    simpa using this

/-- what a column adds to the bound -/
def addB (l : List Col) (v r : List Bool) (s rows : Int) (i : Nat) (d : Int) : Int :=
  if dimP l (i : Int) then 88 + 3 * rows + (if v.getD i false then 24 + 25 * d + 29 * rows else 0) + (if r.getD i false then 24 + d * (16 + 8201 * (rows / 65536 + 1)) else 0) + (if s = (i : Int) then 24 + 4 * d else 0) else 49 + 8 * rows
def sumBd (l : List Col) (v r : List Bool) (s rows : Int) (many : List Int) : Nat → Int
  | 0 => 0
  | k + 1 => sumBd l v r s rows many k + addB l v r s rows k (many.getD k 0)
def metB (l : List Col) : Nat → Nat
  | 0 => 0
  | k + 1 => metB l k + if dimP l (k : Int) then 0 else 1
/-- the bound, but for the test whether columns and configuration fit -/
def bodyB (l : List Col) (v r : List Bool) (s : Int) (sp : List Int) (rows : Int) (many : List Int) (texts : Int) : Int :=
  6 + 96 + 69 * l.length + 2 * sp.length + 29 + texts + sumBd l v r s rows many many.length +
    (if sp.length = 0 then 0 else 40 + 13 + (sp.length + 1) * rows * (4 * sp.length + 8 + 24 * metB l many.length + 21 * (sp.length + 1)))
end Go.Proofs.YtcffcblfmlclnaaGreatDoor
