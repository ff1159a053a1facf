
/- What is wrong with a question: the gatherer, its methods so, values, out; inner. -/
import Derived.WalkKit
import Derived.Lib.Hide
import Derived.WalkSpells
import Derived.WalkLawsBesides
import Derived.BigQuiet
import Derived.Shelf.Abstract
import Derived.Test.YthigflnfccajoaaGreatQcol
namespace Go.Proofs.YthigflnfccajoaaGreat
open Go.RowKit Go.Zone Go.Shelf
attribute [local go_sem] Zone.zone Zone.stepZ Zone.fill Zone.lookFs Zone.goes Zone.goesUpon Zone.dropFs Zone.cell_gro Zone.frozen_gro Zone.size_gro Zone.lt_add Zone.drew_gro Zone.tape_gro Zone.keep_refl
attribute [local go_sem] Zone.lt_add2 Zone.lt_add3 Zone.lt_add4 Zone.lt_add5 Zone.lt_add6 Zone.lt_add7 Zone.lt_add8 Zone.lt_add9 Zone.lt_add10 Zone.lt_add11 Zone.lt_add12
/-- The gatherer in block b: its columns, its outputs' kinds, its error. -/
structure Wr (w : World) (b : Nat) (A : Option Addr) (c : Nat) (cols : List Col) (B : Option Addr) (d : Nat) (kinds : List Int) (e : Int) : Prop where
  c0 : w.cell? ⟨b, 0, none⟩ = some (.slice A cols.length c)
  c1 : w.cell? ⟨b, 1, none⟩ = some (.slice B kinds.length d)
  c2 : w.cell? ⟨b, 2, none⟩ = some (.int .i64 e)
  f2 : w.frozen? ⟨b, 2, none⟩ = false
  na : ∀ g off, A = some ⟨g, off, none⟩ → 0 < cols.length → g ≠ b
  nb : ∀ g off, B = some ⟨g, off, none⟩ → 0 < kinds.length → g ≠ b
/-- whole cells of a block -/
def At (w : World) (g : Nat) (vs : List Value) : Prop := ∀ j u, vs[j]? = some u → w.cell? ⟨g, j, none⟩ = some u
section
variable {w w' : World} {b c d : Nat} {A B : Option Addr} {cols : List Col} {kinds : List Int} {e : Int}
theorem Wr.lt (h : Wr w b A c cols B d kinds e) : b < w.heap.size := World.block_lt_of_cell? w _ h.c0
theorem Wr.keep (h : Wr w b A c cols B d kinds e) (hk : Keep w w') : Wr w' b A c cols B d kinds e :=
  ⟨(hk.cell (p := ⟨b, 0, none⟩) h.lt).trans h.c0, (hk.cell (p := ⟨b, 1, none⟩) h.lt).trans h.c1, (hk.cell (p := ⟨b, 2, none⟩) h.lt).trans h.c2, (hk.frozen (p := ⟨b, 2, none⟩) h.lt).trans h.f2, h.na, h.nb⟩
theorem Wr.set (h : Wr w b A c cols B d kinds e) (x : Int) : Wr (w.setCell ⟨b, 2, none⟩ (.int .i64 x)) b A c cols B d kinds x :=
  ⟨by rw [World.cell?_setCell_other _ _ _ _ (by simp)]; exact h.c0, by rw [World.cell?_setCell_other _ _ _ _ (by simp)]; exact h.c1, World.cell?_setCell_same _ _ _ h.c2, by rw [World.frozen?_setCell]; exact h.f2, h.na, h.nb⟩
theorem By.trans {w1 w2 w3 : World} {r : Option Nat} (h : w1.grownBy w2 r) (k : w2.grownBy w3 r) : w1.grownBy w3 r :=
  ⟨k.os.trans h.os, k.tape.trans h.tape, k.output.trans h.output, Nat.le_trans h.size k.size, fun i hi hr => (k.block i (Nat.lt_of_lt_of_le hi h.size) hr).trans (h.block i hi hr)⟩
theorem By.set (W : World) (a : Addr) (v : Value) : W.grownBy (W.setCell a v) (some a.block) :=
  ⟨rfl, rfl, rfl, by simp, fun k _ hk => by simp only [World.setCell, Array.getElem?_modify]; rw [if_neg (fun e => hk (by rw [e]))]⟩
theorem By.keep {w1 w2 : World} {r : Option Nat} (h : Keep w1 w2) : w1.grownBy w2 r := ⟨h.os, h.tape, h.output, h.size, fun i hi _ => h.block i hi⟩
theorem By.sl {α : Type} {w1 w2 : World} {r : Option Nat} {k c : Nat} {enc : α → List Value} {A : Option Addr} {xs : List α} (h : w1.grownBy w2 r) (hs : Sl w1 k enc A c xs) (hne : ∀ g off, A = some ⟨g, off, none⟩ → 0 < xs.length → some g ≠ r) : Sl w2 k enc A c xs :=
  ⟨hs.cap, hs.big, hs.len, fun i hi => by
    obtain ⟨b, off, hA, hc⟩ := hs.at_ i hi
    exact ⟨b, off, hA, fun j u hu => h.cell (hc j u hu) (hne b off hA (by omega))⟩⟩
theorem Wr.cols_ (h : Wr w b A c cols B d kinds e) {w1 w2 : World} (hg : w1.grownBy w2 (some b)) (hs : Sl w1 2 Col.cells A c cols) : Sl w2 2 Col.cells A c cols := By.sl hg hs (fun g off hA hp he => h.na g off hA hp (Option.some.inj he))
theorem At.by_ {w1 w2 : World} {r : Option Nat} {g : Nat} {vs : List Value} (h : w1.grownBy w2 r) (ha : At w1 g vs) (hne : some g ≠ r) : At w2 g vs := fun j u hu => h.cell (ha j u hu) hne
theorem At.keep {w1 w2 : World} {g : Nat} {vs : List Value} (h : Keep w1 w2) (ha : At w1 g vs) : At w2 g vs := fun j u hu => (h.cell (p := ⟨g, j, none⟩) (World.block_lt_of_cell? _ _ (ha j u hu))).trans (ha j u hu)
end
def soE (e : Int) (is : Bool) (x : Int) : Int := if is && (e == 0 || decide (x < e)) then x else e
def valE (k : Int) (e : Int) (v : Val) : Int := soE (soE e (!mayV v) 5) (mayV v && k != 0 && v.k != k) 9
def valsE (k : Int) (e : Int) (xs : List Val) : Int := xs.foldl (valE k) e
theorem valsE_succ (k e : Int) (xs : List Val) (i : Nat) (h : i < xs.length) : valsE k e (xs.take (i + 1)) = valE k (valsE k e (xs.take i)) xs[i] := by
  unfold valsE
  rw [List.take_succ_eq_append_getElem h, List.foldl_append]
  rfl
end Go.Proofs.YthigflnfccajoaaGreat
