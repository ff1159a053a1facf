/- A reader in a world that has changed elsewhere. -/
import Derived.Test.YtbblkabnijhdoaaReader
namespace Go.Proofs.Ytbblkabnijhdoaa
open Go.RowKit Go.Zone Go.Shelf
/-- below n, W is as W0 was -/
structure Bel (n : Nat) (W0 W : World) : Prop where
  le : n ≤ W0.heap.size
  b : Below n W0 W
section
variable {n : Nat} {W0 W W' : World}
theorem Bel.refl (h : n ≤ W0.heap.size) : Bel n W0 W0 := ⟨h, Below.refl _ _⟩
theorem Bel.size (h : Bel n W0 W) : n ≤ W.heap.size := Nat.le_trans h.le h.b.size
theorem Bel.keep (h : Bel n W0 W) (k : Keep W W') : Bel n W0 W' := ⟨h.le, h.b.trans (k.mono h.size)⟩
theorem Bel.gro (h : Bel n W0 W) (p : GB) : Bel n W0 (W.gro p) := h.keep (below_gro W p)
theorem Bel.alloc (h : Bel n W0 W) (o : Obj) : Bel n W0 (W.alloc o) := h.keep (Keep.alloc (Keep.refl _) o)
theorem Bel.setCell (h : Bel n W0 W) {a : Addr} (ha : n ≤ a.block) (v : Value) : Bel n W0 (W.setCell a v) := ⟨h.le, h.b.setCell ha v⟩
theorem Bel.grown {row : Option Nat} (h : Bel n W0 W) (hg : W.grownBy W' row) (hr : ∀ k, row = some k → n ≤ k) : Bel n W0 W' := ⟨h.le, Below.grown h.b hg h.size hr⟩
theorem Rd.later {w : World} {R c a0 a : Nat} {A : Option Addr} {bs : List UInt8} {b0 b : Bool} (h0 : Rd w R A c bs a0 b0) (h : Rd W R A c bs a b) (hb : Bel w.heap.size W W') : Rd W' R A c bs a b := by
  have hc : ∀ j u, W.cell? ⟨R, j, none⟩ = some u → W'.cell? ⟨R, j, none⟩ = some u := fun j u hu => (hb.b.cell (p := ⟨R, j, none⟩) h0.lt).trans hu
  have hf : ∀ j, W.frozen? ⟨R, j, none⟩ = false → W'.frozen? ⟨R, j, none⟩ = false := fun j hu => (hb.b.frozen (p := ⟨R, j, none⟩) h0.lt).trans hu
  refine ⟨hc _ _ h.b, hc _ _ h.p, hc _ _ h.d, hf _ h.f1, hf _ h.f2, ⟨h.sl.cap, h.sl.big, h.sl.len, fun i hi => ?_⟩, h.ne, h.le, h.nz⟩
  obtain ⟨b, off, hA, hcc⟩ := h.sl.at_ i hi
  obtain ⟨b', off', hA', hcc'⟩ := h0.sl.at_ i hi
  rw [hA] at hA'
  cases hA'
  have hlt : b < w.heap.size := World.block_lt_of_cell? w _ (hcc' 0 _ rfl)
  exact ⟨b, off, hA, fun j u hu => (hb.b.cell (p := ⟨b, off + i * 1 + j, none⟩) hlt).trans (hcc j u hu)⟩
theorem grownBy_bel {w : World} {row : Option Nat} (h : w.grownBy W row) (hb : Bel w.heap.size W W') : w.grownBy W' row :=
  ⟨hb.b.os.trans h.os, hb.b.tape.trans h.tape, hb.b.output.trans h.output, Nat.le_trans h.size hb.b.size, fun k hk hr => (hb.b.block k hk).trans (h.block k hk hr)⟩
end
/-- three cells of a block of the call's own -/
structure Box3 (w : World) (g : Nat) (x : Val) : Prop where
  c0 : w.cell? ⟨g, 0, none⟩ = some (.int .u8 x.k)
  c1 : w.cell? ⟨g, 1, none⟩ = some (.int .i64 x.n)
  c2 : w.cell? ⟨g, 2, none⟩ = some (.string x.s)
  f0 : w.frozen? ⟨g, 0, none⟩ = false
  f1 : w.frozen? ⟨g, 1, none⟩ = false
  f2 : w.frozen? ⟨g, 2, none⟩ = false
theorem Box3.lt {w : World} {g : Nat} {x : Val} (h : Box3 w g x) : g < w.heap.size := World.block_lt_of_cell? w _ h.c0
theorem Box3.grown {w w' : World} {row : Option Nat} {g : Nat} {x : Val} (h : Box3 w g x) (hg : w.grownBy w' row) (hne : some g ≠ row) : Box3 w' g x := by
  have hf : ∀ j, w.frozen? ⟨g, j, none⟩ = false → w'.frozen? ⟨g, j, none⟩ = false := fun j hj => by
    have hb := hg.block g h.lt hne
    unfold World.frozen? at hj ⊢
    rw [hb]
    exact hj
  exact ⟨hg.cell h.c0 hne, hg.cell h.c1 hne, hg.cell h.c2 hne, hf _ h.f0, hf _ h.f1, hf _ h.f2⟩
end Go.Proofs.Ytbblkabnijhdoaa
