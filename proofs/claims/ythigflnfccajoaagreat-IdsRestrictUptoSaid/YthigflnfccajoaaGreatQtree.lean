
/- What is wrong with a question: a filter's node. -/
import Derived.WalkKit
import Derived.Lib.Hide
import Derived.WalkSpells
import Derived.WalkLawsBesides
import Derived.BigQuiet
import Derived.Shelf.Abstract
import Derived.Deep.RegionWith
import Derived.Deep.CutRange
import Derived.Deep.DeepCutAuto
import Derived.Deep.CutBlock
import Derived.Test.YthigflnfccajoaaGreatQnode
namespace Go.Proofs.YthigflnfccajoaaGreat
open Go.RowKit Go.Zone Go.Shelf
attribute [local go_sem] Zone.zone Zone.stepZ Zone.fill Zone.lookFs Zone.goes Zone.goesUpon Zone.dropFs Zone.cell_gro Zone.frozen_gro Zone.size_gro Zone.lt_add Zone.drew_gro Zone.tape_gro Zone.keep_refl
attribute [local go_sem] Zone.lt_add2 Zone.lt_add3 Zone.lt_add4 Zone.lt_add5 Zone.lt_add6 Zone.lt_add7 Zone.lt_add8 Zone.lt_add9 Zone.lt_add10 Zone.lt_add11 Zone.lt_add12
theorem kid_lt {n k : Nd} (h : k ∈ n.kids) : SizeOf.sizeOf k < SizeOf.sizeOf n := by
  have h1 := List.sizeOf_lt_of_mem h
  cases n
  simp only [Nd.mk.sizeOf_spec] at h1 ⊢
  omega
def innerB (op kids depth : Int) : Bool := if op = 0 then depth == 1 && kids == 0 else if op = 3 then kids == 1 else op == 1 || op == 2
def formB (n : Nd) (depth : Nat) : Bool := !n.col.toList.isEmpty || n.cmp != 0 || decide (0 < n.vals.length) || !innerB n.op n.kids.length depth
def nodeE (cols : List Col) (depth : Nat) (e : Int) (n : Nd) : Int :=
  if 64 < depth then soE e true 11 else if n.op = 4 then leafE cols e n
  else n.kids.attach.foldl (fun e k => nodeE cols (depth + 1) e k.1) (soE e (formB n depth) 5)
termination_by SizeOf.sizeOf n
decreasing_by exact kid_lt k.2
def nodesE (cols : List Col) (depth : Nat) (e : Int) (l : List Nd) : Int := l.foldl (nodeE cols depth) e
theorem nodeE_eq (cols : List Col) (depth : Nat) (e : Int) (n : Nd) : nodeE cols depth e n = if 64 < depth then soE e true 11 else if n.op = 4 then leafE cols e n else nodesE cols (depth + 1) (soE e (formB n depth) 5) n.kids := by
  rw [nodeE]
  unfold nodesE
  congr 2
  exact List.foldl_attach (l := n.kids) (f := nodeE cols (depth + 1))
theorem nodesE_succ (cols : List Col) (depth : Nat) (e : Int) (l : List Nd) (i : Nat) (h : i < l.length) : nodesE cols depth e (l.take (i + 1)) = nodeE cols depth (nodesE cols depth e (l.take i)) l[i] := by
  unfold nodesE
  rw [List.take_succ_eq_append_getElem h, List.foldl_append]
  rfl
theorem sl_nd {w : World} {c : Nat} {A : Option Addr} {xs : List Nd} (h : Sl w 5 Nd.cells A c xs) (i : Nat) (hi : i < xs.length) : ∃ b off, A = some ⟨b, off, none⟩ ∧ b < w.heap.size ∧ w.cell? ⟨b, off + i * 5, none⟩ = some (.int .u8 xs[i].op) ∧
    w.cell? ⟨b, off + i * 5 + 1, none⟩ = some (.slice xs[i].A xs[i].kids.length xs[i].c) ∧ w.cell? ⟨b, off + i * 5 + 2, none⟩ = some (.string xs[i].col) ∧ w.cell? ⟨b, off + i * 5 + 3, none⟩ = some (.int .u8 xs[i].cmp) ∧ w.cell? ⟨b, off + i * 5 + 4, none⟩ = some (.slice xs[i].B xs[i].vals.length xs[i].d) := by
  obtain ⟨b, off, hA, hc⟩ := h.at_ i hi
  have h0 := hc 0 _ rfl
  exact ⟨b, off, hA, World.block_lt_of_cell? w _ h0, h0, hc 1 _ rfl, hc 2 _ rfl, hc 3 _ rfl, hc 4 _ rfl⟩
section
variable {b c d : Nat} {A B : Option Addr} {cols : List Col} {kinds : List Int}
end
end Go.Proofs.YthigflnfccajoaaGreat
