
/- What is wrong with a question: a filter's leaf. -/
import Derived.WalkKit
import Derived.Lib.Hide
import Derived.WalkSpells
import Derived.WalkLawsBesides
import Derived.BigQuiet
import Derived.Shelf.Abstract
import Derived.Deep.RegionWith
import Derived.Deep.CutRange
import Derived.Deep.DeepCutAuto
import Derived.Deep.CutBlock
import Derived.Test.YthigflnfccajoaaGreatQleaf
namespace Go.Proofs.YthigflnfccajoaaGreat
open Go.RowKit Go.Zone Go.Shelf
attribute [local go_sem] Zone.zone Zone.stepZ Zone.fill Zone.lookFs Zone.goes Zone.goesUpon Zone.dropFs Zone.cell_gro Zone.frozen_gro Zone.size_gro Zone.lt_add Zone.drew_gro Zone.tape_gro Zone.keep_refl
attribute [local go_sem] Zone.lt_add2 Zone.lt_add3 Zone.lt_add4 Zone.lt_add5 Zone.lt_add6 Zone.lt_add7 Zone.lt_add8 Zone.lt_add9 Zone.lt_add10 Zone.lt_add11 Zone.lt_add12
/-- A filter, as it lies in memory. -/
structure Nd where
  op : Int
  A : Option Addr
  c : Nat
  kids : List Nd
  col : ByteArray
  cmp : Int
  B : Option Addr
  d : Nat
  vals : List Val
def Nd.cells (n : Nd) : List Value := [.int .u8 n.op, .slice n.A n.kids.length n.c, .string n.col, .int .u8 n.cmp, .slice n.B n.vals.length n.d]
@[reducible] def Nd.v (n : Nd) : Value := .agg #[.int .u8 n.op, .slice n.A n.kids.length n.c, .string n.col, .int .u8 n.cmp, .slice n.B n.vals.length n.d]
instance : Inhabited Nd := ⟨⟨0, none, 0, [], ByteArray.empty, 0, none, 0, []⟩⟩
/-- It lies in this world, in blocks other than b's. -/
inductive Nd.In (w : World) (b : Nat) : Nd → Prop where
  | mk (n : Nd) (hk : Sl w 5 Nd.cells n.A n.c n.kids) (hv : Sl w 3 Val.cells n.B n.d n.vals) (hA : ∀ g off, n.A = some ⟨g, off, none⟩ → 0 < n.kids.length → g ≠ b) (hB : ∀ g off, n.B = some ⟨g, off, none⟩ → 0 < n.vals.length → g ≠ b) (hi : ∀ k ∈ n.kids, Nd.In w b k) : Nd.In w b n
theorem Nd.In.vals_ {w : World} {b : Nat} {n : Nd} (h : Nd.In w b n) : Sl w 3 Val.cells n.B n.d n.vals := by cases h; assumption
theorem Nd.In.kids_ {w : World} {b : Nat} {n : Nd} (h : Nd.In w b n) : Sl w 5 Nd.cells n.A n.c n.kids := by cases h; assumption
theorem Nd.In.neA {w : World} {b : Nat} {n : Nd} (h : Nd.In w b n) : ∀ g off, n.A = some ⟨g, off, none⟩ → 0 < n.kids.length → g ≠ b := by cases h; assumption
theorem Nd.In.neB {w : World} {b : Nat} {n : Nd} (h : Nd.In w b n) : ∀ g off, n.B = some ⟨g, off, none⟩ → 0 < n.vals.length → g ≠ b := by cases h; assumption
theorem Nd.In.kid {w : World} {b : Nat} {n : Nd} (h : Nd.In w b n) : ∀ k ∈ n.kids, Nd.In w b k := by cases h; assumption
theorem Nd.In.by_ {w w' : World} {b : Nat} {n : Nd} (h : Nd.In w b n) (hg : w.grownBy w' (some b)) : Nd.In w' b n := by
  induction h with
  | mk n hk hv hA hB _ ih => exact .mk n (By.sl hg hk fun g off e hp he => hA g off e hp (Option.some.inj he)) (By.sl hg hv fun g off e hp he => hB g off e hp (Option.some.inj he)) hA hB ih
theorem Nd.In.keep {w w' : World} {b : Nat} {n : Nd} (h : Nd.In w b n) (hg : Keep w w') : Nd.In w' b n := h.by_ (By.keep hg)

def leafOk (n : Nd) : Bool := if 1 ≤ n.cmp ∧ n.cmp ≤ 6 then (n.vals.length : Int) == 1 else if n.cmp = 7 then true else if n.cmp = 8 then (n.vals.length : Int) == 2 else false
def leafE1 (e : Int) (n : Nd) : Int := if n.cmp = 7 then soE e (decide (100 < (n.vals.length : Int))) 3 else e
def leafE (cols : List Col) (e : Int) (n : Nd) : Int :=
  valsE (if (findC cols n.col).2 then kindC (findC cols n.col).1.kind else 0)
    (soE (soE (soE (leafE1 e n) (!leafOk n || decide (0 < n.kids.length)) 5) (!(findC cols n.col).2) 7) ((findC cols n.col).2 && (findC cols n.col).1.kind == 3) 9) n.vals
section
variable {b c d : Nat} {A B : Option Addr} {cols : List Col} {kinds : List Int} {e : Int}
end
end Go.Proofs.YthigflnfccajoaaGreat
