
/- What is wrong with a question: the rows of texts, aggregates, keys; the outputs' kinds. -/
import Derived.WalkKit
import Derived.Lib.Hide
import Derived.WalkSpells
import Derived.WalkLawsBesides
import Derived.BigQuiet
import Derived.Shelf.Abstract
import Derived.Test.YthigflnfccajoaaGreatQtest
import Derived.Test.YthigflnfccajoaaGreatOwn
namespace Go.Proofs.YthigflnfccajoaaGreat
open Go.RowKit Go.Zone Go.Shelf
attribute [local go_sem] Zone.zone Zone.stepZ Zone.fill Zone.lookFs Zone.goes Zone.goesUpon Zone.dropFs Zone.cell_gro Zone.frozen_gro Zone.size_gro Zone.lt_add Zone.drew_gro Zone.tape_gro Zone.keep_refl
attribute [local go_sem] Zone.lt_add2 Zone.lt_add3 Zone.lt_add4 Zone.lt_add5 Zone.lt_add6 Zone.lt_add7 Zone.lt_add8 Zone.lt_add9 Zone.lt_add10 Zone.lt_add11 Zone.lt_add12
@[reducible] def strK (s : ByteArray) : List Value := [.string s]
theorem sl_str {w : World} {c : Nat} {A : Option Addr} {xs : List ByteArray} (h : Sl w 1 strK A c xs) (i : Nat) (hi : i < xs.length) : ∃ b off, A = some ⟨b, off, none⟩ ∧ b < w.heap.size ∧ w.cell? ⟨b, off + i, none⟩ = some (.string xs[i]) := by
  obtain ⟨b, off, hA, hc⟩ := h.at_ i hi
  have h0 := hc 0 _ rfl
  exact ⟨b, off, hA, World.block_lt_of_cell? w _ h0, by simpa using h0⟩
def isStr (s x : ByteArray) : Bool := s.toList == x.toList
section
variable {b c d : Nat} {A B : Option Addr} {cols : List Col} {kinds : List Int} {e : Int}
def bysE (cols : List Col) (e : Int) (l : List ByteArray) : Int := l.foldl (byE cols) e
theorem bysE_succ (cols : List Col) (e : Int) (l : List ByteArray) (i : Nat) (h : i < l.length) : bysE cols e (l.take (i + 1)) = byE cols (bysE cols e (l.take i)) l[i] := by
  unfold bysE
  rw [List.take_succ_eq_append_getElem h, List.foldl_append]
  rfl
theorem sl_ag {w : World} {c : Nat} {A : Option Addr} {xs : List Ag} (h : Sl w 2 Ag.cells A c xs) (i : Nat) (hi : i < xs.length) : ∃ b off, A = some ⟨b, off, none⟩ ∧ b < w.heap.size ∧ w.cell? ⟨b, off + i * 2, none⟩ = some (.int .u8 xs[i].fn) ∧ w.cell? ⟨b, off + i * 2 + 1, none⟩ = some (.string xs[i].col) := by
  obtain ⟨b, off, hA, hc⟩ := h.at_ i hi
  have h0 := hc 0 _ rfl
  exact ⟨b, off, hA, World.block_lt_of_cell? w _ h0, h0, hc 1 _ rfl⟩
def aggsE (cols : List Col) (e : Int) (l : List Ag) : Int := l.foldl (aggE cols) e
theorem aggsE_succ (cols : List Col) (e : Int) (l : List Ag) (i : Nat) (h : i < l.length) : aggsE cols e (l.take (i + 1)) = aggE cols (aggsE cols e (l.take i)) l[i] := by
  unfold aggsE
  rw [List.take_succ_eq_append_getElem h, List.foldl_append]
  rfl
end
end Go.Proofs.YthigflnfccajoaaGreat
