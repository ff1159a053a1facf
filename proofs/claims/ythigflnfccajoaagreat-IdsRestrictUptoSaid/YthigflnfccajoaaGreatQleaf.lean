
/- What is wrong with a question: the gatherer's methods out, by, agg, leaf. -/
import Derived.WalkKit
import Derived.Lib.Hide
import Derived.WalkSpells
import Derived.WalkLawsBesides
import Derived.BigQuiet
import Derived.Shelf.Abstract
import Derived.Deep.RegionWith
import Derived.Deep.CutRange
import Derived.Deep.DeepCutAuto
import Derived.Test.YthigflnfccajoaaGreatQwr
namespace Go.Proofs.YthigflnfccajoaaGreat
open Go.RowKit Go.Zone Go.Shelf
attribute [local go_sem] Zone.zone Zone.stepZ Zone.fill Zone.lookFs Zone.goes Zone.goesUpon Zone.dropFs Zone.cell_gro Zone.frozen_gro Zone.size_gro Zone.lt_add Zone.drew_gro Zone.tape_gro Zone.keep_refl
attribute [local go_sem] Zone.lt_add2 Zone.lt_add3 Zone.lt_add4 Zone.lt_add5 Zone.lt_add6 Zone.lt_add7 Zone.lt_add8 Zone.lt_add9 Zone.lt_add10 Zone.lt_add11 Zone.lt_add12
def outE (kinds : List Int) (e n : Int) : Int := if n < 0 ∨ (kinds.length : Int) ≤ n then soE e true 7 else e
def outK (kinds : List Int) (n : Int) : Int := if n < 0 ∨ (kinds.length : Int) ≤ n then 0 else kinds.getD n.toNat 0
@[reducible] def byteK (k : Int) : List Value := [.int .u8 k]
theorem sl_k {w : World} {c : Nat} {A : Option Addr} {xs : List Int} (h : Sl w 1 byteK A c xs) (i : Nat) (hi : i < xs.length) : ∃ b off, A = some ⟨b, off, none⟩ ∧ b < w.heap.size ∧ w.cell? ⟨b, off + i, none⟩ = some (.int .u8 xs[i]) := by
  obtain ⟨b, off, hA, hc⟩ := h.at_ i hi
  have h0 := hc 0 _ rfl
  exact ⟨b, off, hA, World.block_lt_of_cell? w _ h0, by simpa using h0⟩
section
variable {b c d : Nat} {A B : Option Addr} {cols : List Col} {kinds : List Int} {e : Int}
def byE (cols : List Col) (e : Int) (n : ByteArray) : Int := soE (soE e (!(findC cols n).2) 7) ((findC cols n).2 && (findC cols n).1.kind == 3) 9
/-- an aggregate -/
structure Ag where
  fn : Int
  col : ByteArray
def Ag.cells (x : Ag) : List Value := [.int .u8 x.fn, .string x.col]
@[reducible] def Ag.v (x : Ag) : Value := .agg #[.int .u8 x.fn, .string x.col]
instance : Inhabited Ag := ⟨⟨0, ByteArray.empty⟩⟩
def aggE (cols : List Col) (e : Int) (x : Ag) : Int :=
  if x.fn = 1 then soE (soE e (decide (x.fn < 1) || decide (4 < x.fn)) 5) (!x.col.toList.isEmpty) 5
  else soE (soE (soE e (decide (x.fn < 1) || decide (4 < x.fn)) 5) (!(findC cols x.col).2) 7) ((findC cols x.col).2 && (findC cols x.col).1.kind != 3) 9
end
end Go.Proofs.YthigflnfccajoaaGreat
