
/- Chains of nots around a leaf: what is wrong with them, and what they take. -/
import Derived.WalkKit
import Derived.Lib.Hide
import Derived.WalkSpells
import Derived.WalkLawsBesides
import Derived.BigQuiet
import Derived.Shelf.Abstract
import Derived.Test.YthigflnfccajoaaQvalid
import Derived.Test.YthigflnfccajoaaQpass
namespace Go.Proofs.Ythigflnfccajoaa
open Go.RowKit Go.Zone Go.Shelf
@[reducible] def bA : ByteArray := ⟨#[97]⟩
@[reducible] def bM : ByteArray := ⟨#[109]⟩
@[reducible] def bE : ByteArray := ⟨#[]⟩
theorem tl_a : bA.toList = [97] := by first | rfl | kernel_rfl | decide +kernel
theorem tl_m : bM.toList = [109] := by first | rfl | kernel_rfl | decide +kernel
theorem tl_e : bE.toList = [] := by first | rfl | kernel_rfl | decide +kernel
theorem tl_e2 : ByteArray.empty.toList = [] := by first | rfl | kernel_rfl | decide +kernel
theorem bl_nil : Op.bytesLess [] [] = false := rfl
theorem par_succ (k : Nat) : (!decide (k % 2 = 1)) = decide ((k + 1) % 2 = 1) := by
  by_cases h : k % 2 = 1
  · rw [decide_eq_true h, decide_eq_false (by omega)]; rfl
  · rw [decide_eq_false h, decide_eq_true (by omega)]; rfl
theorem soE_f (e x : Int) : soE e false x = e := rfl
theorem soE_t (x : Int) : soE 0 true x = x := rfl
@[reducible] def vI (v : Int) : Val := ⟨1, v, bE⟩
theorem may_vI (v : Int) : mayV (vI v) = true := by simp [mayV, tl_e]
@[reducible] def colA : List Col := [⟨bA, 1⟩]
theorem find_a : findC colA bA = (⟨bA, 1⟩, true) := by simp [findC, isCol, tl_a]
/-- A chain of k nots around a leaf. -/
def IsChain (v : Int) : Nat → Nd → Prop
  | 0, f => f.op = 4 ∧ f.col = bA ∧ f.cmp = 3 ∧ f.vals = [vI v] ∧ f.kids = []
  | k + 1, f => f.op = 3 ∧ f.col = bE ∧ f.cmp = 0 ∧ f.vals = [] ∧ ∃ g, f.kids = [g] ∧ IsChain v k g
theorem chain_node (v : Int) : ∀ (k depth : Nat) (f : Nd), IsChain v k f → 1 ≤ depth → nodeE colA depth 0 f = if 64 < depth + k then 11 else 0
  | 0, depth, f, ⟨h1, h2, h3, h4, h5⟩, _ => by
    rw [nodeE_eq]
    by_cases h : 64 < depth
    · simp [h, soE_t]
    · simp [h, h1, leafE, leafOk, leafE1, h2, h3, h4, h5, find_a, soE_f, valsE, valE, may_vI, kindC]
  | k + 1, depth, f, ⟨h1, h2, h3, h4, g, h5, hg⟩, hd => by
    rw [nodeE_eq]
    by_cases h : 64 < depth
    · rw [if_pos h, if_pos (by omega), soE_t]
    · have hf : formB f depth = false := by simp [formB, h1, h2, h3, h4, h5, innerB, tl_e]
      rw [if_neg h, if_neg (by omega), hf, soE_f, h5]
      have := chain_node v k (depth + 1) g hg (by omega)
      simp only [nodesE, List.foldl_cons, List.foldl_nil]
      rw [this, show depth + 1 + k = depth + (k + 1) by omega]
theorem chain_takes (v : Int) : ∀ (k : Nat) (f : Nd), IsChain v k f → takesB colA [vI v] f = decide (k % 2 = 1)
  | 0, f, ⟨h1, h2, h3, h4, h5⟩ => by
    rw [takesB_eq]
    simp [h1, h2, h3, h4, leafB, idxP, isCol, compB, soB, cmpV, cmpI, cmpS, orL, bl_nil]
  | k + 1, f, ⟨h1, h2, h3, h4, g, h5, hg⟩ => by
    rw [takesB_eq]
    have := chain_takes v k g hg
    rw [if_neg (by omega), if_neg (by omega), if_pos h1, h5]
    simp only [List.any_cons, List.any_nil, Bool.or_false]
    rw [this, par_succ]
/-- The like, of tests. -/
def IsChainT (v : Int) : Nat → Ts → Prop
  | 0, f => f.op = 4 ∧ f.out = 0 ∧ f.cmp = 3 ∧ f.v = vI v ∧ f.kids = []
  | k + 1, f => f.op = 3 ∧ f.out = 0 ∧ f.cmp = 0 ∧ f.v = ⟨0, 0, bE⟩ ∧ ∃ g, f.kids = [g] ∧ IsChainT v k g
theorem chain_test (v : Int) : ∀ (k depth : Nat) (f : Ts), IsChainT v k f → 1 ≤ depth → testE [1] depth 0 f = if 64 < depth + k then 11 else 0
  | 0, depth, f, ⟨h1, h2, h3, h4, h5⟩, _ => by
    rw [testE_eq]
    by_cases h : 64 < depth
    · simp [h, soE_t]
    · simp [h, h1, leafT, h2, h3, h4, h5, soE_f, valsE, valE, may_vI, outE, outK]
  | k + 1, depth, f, ⟨h1, h2, h3, h4, g, h5, hg⟩, hd => by
    rw [testE_eq]
    by_cases h : 64 < depth
    · rw [if_pos h, if_pos (by omega), soE_t]
    · have hf : formT f depth = false := by simp [formT, zeroB, h1, h2, h3, h4, h5, innerB, tl_e]
      rw [if_neg h, if_neg (by omega), hf, soE_f, h5]
      have := chain_test v k (depth + 1) g hg (by omega)
      simp only [testsE, List.foldl_cons, List.foldl_nil]
      rw [this, show depth + 1 + k = depth + (k + 1) by omega]
theorem chain_pass (v : Int) : ∀ (k : Nat) (f : Ts), IsChainT v k f → passB [vI v] f = decide (k % 2 = 1)
  | 0, f, ⟨h1, h2, h3, h4, h5⟩ => by
    rw [passB_eq]
    simp [h1, h2, h3, h4, passL, compB, soB, cmpV, cmpI, cmpS, orL, bl_nil]
  | k + 1, f, ⟨h1, h2, h3, h4, g, h5, hg⟩ => by
    rw [passB_eq]
    have := chain_pass v k g hg
    rw [if_neg (by omega), if_neg (by omega), if_pos h1, h5]
    simp only [List.any_cons, List.any_nil, Bool.or_false]
    rw [this, par_succ]
end Go.Proofs.Ythigflnfccajoaa
