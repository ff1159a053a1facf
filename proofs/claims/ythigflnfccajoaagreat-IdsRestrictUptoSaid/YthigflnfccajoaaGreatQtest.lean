
/- What is wrong with a question: a test. -/
import Derived.WalkKit
import Derived.Lib.Hide
import Derived.WalkSpells
import Derived.WalkLawsBesides
import Derived.BigQuiet
import Derived.Shelf.Abstract
import Derived.Deep.RegionWith
import Derived.Deep.CutRange
import Derived.Deep.DeepCutAuto
import Derived.Deep.CutBlock
import Derived.Test.YthigflnfccajoaaGreatQtree
namespace Go.Proofs.YthigflnfccajoaaGreat
open Go.RowKit Go.Zone Go.Shelf
attribute [local go_sem] Zone.zone Zone.stepZ Zone.fill Zone.lookFs Zone.goes Zone.goesUpon Zone.dropFs Zone.cell_gro Zone.frozen_gro Zone.size_gro Zone.lt_add Zone.drew_gro Zone.tape_gro Zone.keep_refl
attribute [local go_sem] Zone.lt_add2 Zone.lt_add3 Zone.lt_add4 Zone.lt_add5 Zone.lt_add6 Zone.lt_add7 Zone.lt_add8 Zone.lt_add9 Zone.lt_add10 Zone.lt_add11 Zone.lt_add12
/-- A test, as it lies in memory. -/
structure Ts where
  op : Int
  A : Option Addr
  c : Nat
  kids : List Ts
  out : Int
  cmp : Int
  v : Val
def Ts.cells (n : Ts) : List Value := [.int .u8 n.op, .slice n.A n.kids.length n.c, .int .i64 n.out, .int .u8 n.cmp, .int .u8 n.v.k, .int .i64 n.v.n, .string n.v.s]
@[reducible] def Ts.val (n : Ts) : Value := .agg #[.int .u8 n.op, .slice n.A n.kids.length n.c, .int .i64 n.out, .int .u8 n.cmp, .int .u8 n.v.k, .int .i64 n.v.n, .string n.v.s]
instance : Inhabited Ts := ⟨⟨0, none, 0, [], 0, 0, default⟩⟩
inductive Ts.In (w : World) (b : Nat) : Ts → Prop where
  | mk (n : Ts) (hk : Sl w 7 Ts.cells n.A n.c n.kids) (hA : ∀ g off, n.A = some ⟨g, off, none⟩ → 0 < n.kids.length → g ≠ b) (hi : ∀ k ∈ n.kids, Ts.In w b k) : Ts.In w b n
theorem Ts.In.kids_ {w : World} {b : Nat} {n : Ts} (h : Ts.In w b n) : Sl w 7 Ts.cells n.A n.c n.kids := by cases h; assumption
theorem Ts.In.neA {w : World} {b : Nat} {n : Ts} (h : Ts.In w b n) : ∀ g off, n.A = some ⟨g, off, none⟩ → 0 < n.kids.length → g ≠ b := by cases h; assumption
theorem Ts.In.kid {w : World} {b : Nat} {n : Ts} (h : Ts.In w b n) : ∀ k ∈ n.kids, Ts.In w b k := by cases h; assumption
theorem Ts.In.by_ {w w' : World} {b : Nat} {n : Ts} (h : Ts.In w b n) (hg : w.grownBy w' (some b)) : Ts.In w' b n := by
  induction h with
  | mk n hk hA _ ih => exact .mk n (By.sl hg hk fun g off e hp he => hA g off e hp (Option.some.inj he)) hA ih
theorem Ts.In.keep {w w' : World} {b : Nat} {n : Ts} (h : Ts.In w b n) (hg : Keep w w') : Ts.In w' b n := h.by_ (By.keep hg)
theorem kidT_lt {n k : Ts} (h : k ∈ n.kids) : SizeOf.sizeOf k < SizeOf.sizeOf n := by
  have h1 := List.sizeOf_lt_of_mem h
  cases n
  simp only [Ts.mk.sizeOf_spec] at h1 ⊢
  omega
def zeroB (v : Val) : Bool := v.k == 0 && (v.n == 0 && v.s.toList.isEmpty)
def formT (n : Ts) (depth : Nat) : Bool := n.out != 0 || n.cmp != 0 || !zeroB n.v || !innerB n.op n.kids.length depth
def leafT (kinds : List Int) (e : Int) (n : Ts) : Int :=
  valsE (outK kinds n.out) (outE kinds (soE e (decide (0 < n.kids.length) || decide (n.cmp < 1) || decide (6 < n.cmp)) 5) n.out) [n.v]
def testE (kinds : List Int) (depth : Nat) (e : Int) (n : Ts) : Int :=
  if 64 < depth then soE e true 11 else if n.op = 4 then leafT kinds e n
  else n.kids.attach.foldl (fun e k => testE kinds (depth + 1) e k.1) (soE e (formT n depth) 5)
termination_by SizeOf.sizeOf n
decreasing_by exact kidT_lt k.2
def testsE (kinds : List Int) (depth : Nat) (e : Int) (l : List Ts) : Int := l.foldl (testE kinds depth) e
theorem testE_eq (kinds : List Int) (depth : Nat) (e : Int) (n : Ts) : testE kinds depth e n = if 64 < depth then soE e true 11 else if n.op = 4 then leafT kinds e n else testsE kinds (depth + 1) (soE e (formT n depth) 5) n.kids := by
  rw [testE]
  unfold testsE
  congr 2
  exact List.foldl_attach (l := n.kids) (f := testE kinds (depth + 1))
theorem testsE_succ (kinds : List Int) (depth : Nat) (e : Int) (l : List Ts) (i : Nat) (h : i < l.length) : testsE kinds depth e (l.take (i + 1)) = testE kinds depth (testsE kinds depth e (l.take i)) l[i] := by
  unfold testsE
  rw [List.take_succ_eq_append_getElem h, List.foldl_append]
  rfl
theorem sl_ts {w : World} {c : Nat} {A : Option Addr} {xs : List Ts} (h : Sl w 7 Ts.cells A c xs) (i : Nat) (hi : i < xs.length) : ∃ b off, A = some ⟨b, off, none⟩ ∧ b < w.heap.size ∧ w.cell? ⟨b, off + i * 7, none⟩ = some (.int .u8 xs[i].op) ∧
    w.cell? ⟨b, off + i * 7 + 1, none⟩ = some (.slice xs[i].A xs[i].kids.length xs[i].c) ∧ w.cell? ⟨b, off + i * 7 + 2, none⟩ = some (.int .i64 xs[i].out) ∧ w.cell? ⟨b, off + i * 7 + 3, none⟩ = some (.int .u8 xs[i].cmp) ∧
    w.cell? ⟨b, off + i * 7 + 4, none⟩ = some (.int .u8 xs[i].v.k) ∧ w.cell? ⟨b, off + i * 7 + 5, none⟩ = some (.int .i64 xs[i].v.n) ∧ w.cell? ⟨b, off + i * 7 + 6, none⟩ = some (.string xs[i].v.s) := by
  obtain ⟨b, off, hA, hc⟩ := h.at_ i hi
  have h0 := hc 0 _ rfl
  exact ⟨b, off, hA, World.block_lt_of_cell? w _ h0, h0, hc 1 _ rfl, hc 2 _ rfl, hc 3 _ rfl, hc 4 _ rfl, hc 5 _ rfl, hc 6 _ rfl⟩
theorem sl_one {w : World} {g : Nat} {v : Val} (h0 : w.cell? ⟨g, 0, none⟩ = some (.int .u8 v.k)) (h1 : w.cell? ⟨g, 1, none⟩ = some (.int .i64 v.n)) (h2 : w.cell? ⟨g, 2, none⟩ = some (.string v.s)) : Sl w 3 Val.cells (some ⟨g, 0, none⟩) 1 [v] :=
  ⟨by simp, by simp, by simp, fun i hi => ⟨g, 0, rfl, fun j u hu => by
    have hi0 : i = 0 := by simpa using hi
    subst hi0
    have hj : j < 3 := (by obtain ⟨h1, _⟩ := List.getElem?_eq_some_iff.1 hu; simpa [Val.cells] using h1)
    rw [← hu]
    rcases j with _ | _ | _ | j
    · simpa [Val.cells] using h0
    · simpa [Val.cells] using h1
    · simpa [Val.cells] using h2
    · omega⟩⟩
section
variable {b c d : Nat} {A B : Option Addr} {cols : List Col} {kinds : List Int}
end
end Go.Proofs.YthigflnfccajoaaGreat
