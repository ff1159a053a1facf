
/- A filter's columns: slices.Sort and slices.Compact at texts, query.Columns. -/
import Derived.WalkKit
import Derived.Lib.Hide
import Derived.WalkSpells
import Derived.WalkLawsBesides
import Derived.BigQuiet
import Derived.Shelf.Abstract
import Derived.Test.YthigflnfccajoaaGreatQkinds
import Derived.Test.YthigflnfccajoaaGreatSortS
namespace Go.Proofs.YthigflnfccajoaaGreat
open Go.RowKit Go.Zone Go.Shelf Go.Sort
attribute [local go_sem] Zone.zone Zone.stepZ Zone.fill Zone.lookFs Zone.goes Zone.goesUpon Zone.dropFs Zone.cell_gro Zone.frozen_gro Zone.size_gro Zone.lt_add Zone.drew_gro Zone.tape_gro Zone.keep_refl
attribute [local go_sem] Zone.lt_add2 Zone.lt_add3 Zone.lt_add4 Zone.lt_add5 Zone.lt_add6 Zone.lt_add7 Zone.lt_add8 Zone.lt_add9 Zone.lt_add10 Zone.lt_add11 Zone.lt_add12
abbrev Nm := List UInt8
def nmV (s : Nm) : List Value := [encStr s]
theorem nm_len (x : Nm) : (nmV x).length = 1 := rfl
theorem nm_one (x : Nm) : ∀ u ∈ nmV x, u.oneCell' = true := by simp [nmV, Value.oneCell']
theorem info_n : (Tryz.prog.info? 9).map (fun i => (i.zero, i.size, i.bytes)) = some (some (.string ⟨#[]⟩), 1, 16) := by kernel_rfl
theorem elt_n : Elt Tryz.prog 34 9 1 16 := by
  obtain ⟨i, hi, h1, h2, h3⟩ := info_partsK info_n
  exact ⟨i, _, Tryz.underlying34, hi, h1, h2, h3, rfl, by decide, by decide⟩
abbrev OwnN (w : World) (base : Nat) (v : Value) (xs : List Nm) : Prop := Own w base 9 1 nmV v xs
def sortN (xs : List Nm) : List Nm := xs.mergeSort fun x y => decide (x ≤ y)
theorem flatN (xs : List Nm) : xs.flatMap nmV = xs.map encStr := by
  induction xs with
  | nil => rfl
  | cons x r ih => simp [nmV, ih]
theorem holdsN {w : World} {g c : Nat} {cur : Array Value} {xs : List Nm} (hg : w.heap[g]? = some (.cells cur 9)) (hn : xs.length ≤ cur.size) (ht : cur.toList.take xs.length = xs.flatMap nmV) : Holds encStr w g 0 xs.toArray := fun j hj => by
  have hj' : j < xs.length := by simpa using hj
  rw [getElem!_pos _ j hj]
  refine ⟨?_, by simp [World.frozen?, hg]⟩
  have h1 : (xs.flatMap nmV)[j]? = some (encStr xs[j]) := by rw [flatN]; simp [hj']
  rw [← ht, List.getElem?_take, if_pos hj'] at h1
  simp only [World.cell?, hg, Nat.zero_add, Option.isSome_none, Bool.false_eq_true, if_false]
  simpa using h1
theorem sortN_any (A : Option Addr) (c : Nat) (xs : List Nm) (base : Nat) (w : World) (h : OwnN w base (.slice A xs.length c) xs) (hl : xs.length ≤ 1000000000) :
    Calls Tryz.prog 67 #[.slice A xs.length c] w fun e w' => e = .returned (.tuple #[]) ∧ OwnN w' base (.slice A xs.length c) (sortN xs) ∧ w.grownBy w' (Value.slice A xs.length c).ownBlock := by
  by_cases h0 : xs.length = 0
  · have hx : xs = [] := List.eq_nil_of_length_eq_zero h0
    subst hx
    refine (Any.slices_Sort_string_none (P := Tryz.prog) (ρ := Tryz.sortS_ren) Tryz.sortS A c w).mono ?_
    rintro e w' ⟨rfl, rfl⟩
    refine ⟨rfl, ?_, ⟨rfl, rfl, rfl, Nat.le_refl _, fun _ _ _ => rfl⟩⟩
    have : sortN [] = [] := by simp [sortN]
    rw [this]
    exact h
  · rcases h.2 with ⟨_, h1⟩ | ⟨g, cap, cur, hv, hb, hg, hn, hm, hs, ht⟩
    · exact absurd h1 h0
    · injection hv with hA _ hc
      subst hA; subst hc
      simp only [Nat.mul_one] at hs ht
      have hH : Holds encStr w g 0 xs.toArray := holdsN (c := c) hg (by omega) ht
      have hlt : g < w.heap.size := (Array.getElem?_eq_some_iff.1 hg).1
      refine (Any.slices_Sort_string (P := Tryz.prog) (ρ := Tryz.sortS_ren) Tryz.sortS g 0 c xs w hH hlt (by omega)).mono ?_
      rintro e w' ⟨rfl, n, os, rfl⟩
      have hsl : (sortN xs).length = xs.length := List.length_mergeSort _
      have hheap : (grow (putRow encStr (Sort.ahead w n) g 0 (xs.mergeSort fun x y => decide (x ≤ y)).toArray) os).heap = w.heap.modify g (onCells (putCells encStr 0 (sortN xs).toArray)) ++ os := rfl
      refine ⟨rfl, ?_, rfl, rfl, rfl, by rw [hheap]; simp, fun k hk hne => ?_⟩
      · refine ⟨by rw [flat_len nm_len, hsl], .inr ⟨g, c, putCells encStr 0 (sortN xs).toArray cur, by rw [hsl], hb, ?_, by rw [hsl]; exact hn, hm, ?_, ?_⟩⟩
        · rw [hheap, Array.getElem?_append, if_pos (by simpa using hlt), Array.getElem?_modify, if_pos rfl, hg]
          rfl
        · simp [putCells, hs]
        · rw [hsl, Nat.mul_one, flatN]
          apply List.ext_getElem?
          intro i
          rw [List.getElem?_take]
          by_cases hi : i < xs.length
          · rw [if_pos hi]
            have hic : i < cur.size := by omega
            have hi2 : i < (sortN xs).length := by omega
            simp [putCells, hic, hi2]
          · rw [if_neg hi, List.getElem?_eq_none (by simp; omega)]
      · have hkg : k ≠ g := fun e => hne (by simp [Value.ownBlock, e])
        rw [hheap, Array.getElem?_append, if_pos (by simpa using hk), Array.getElem?_modify, if_neg (Ne.symm hkg)]
def compN (xs : List Nm) : List Nm := Lib.compact xs
theorem compN_len (xs : List Nm) : (compN xs).length ≤ xs.length := by
  unfold compN Lib.compact Lib.compactUpTo
  rw [List.length_map]
  refine Nat.le_trans (List.length_filter_le _ _) (by simp)
theorem compN_any (A : Option Addr) (c : Nat) (xs : List Nm) (base : Nat) (w : World) (h : OwnN w base (.slice A xs.length c) xs) (hl : xs.length ≤ 1000000000) :
    Calls Tryz.prog 68 #[.slice A xs.length c] w fun e w' => e = .returned (.slice A (compN xs).length c) ∧ OwnN w' base (.slice A (compN xs).length c) (compN xs) ∧ w.grownBy w' (Value.slice A xs.length c).ownBlock := by
  by_cases h0 : xs.length = 0
  · have hx : xs = [] := List.eq_nil_of_length_eq_zero h0
    subst hx
    refine (Any.slices_Compact_string_empty (P := Tryz.prog) (ρ := Tryz.compS_ren) Tryz.compS A c w).mono ?_
    rintro e w' ⟨rfl, rfl⟩
    have : compN [] = [] := by simp [compN, Lib.compact, Lib.compactUpTo]
    rw [this]
    exact ⟨rfl, h, ⟨rfl, rfl, rfl, Nat.le_refl _, fun _ _ _ => rfl⟩⟩
  · rcases h.2 with ⟨_, h1⟩ | ⟨g, cap, cur, hv, hb, hg, hn, hm, hs, ht⟩
    · exact absurd h1 h0
    · injection hv with hA _ hc
      subst hA; subst hc
      simp only [Nat.mul_one] at hs ht
      have hH : Holds encStr w g 0 xs.toArray := holdsN (c := c) hg (by omega) ht
      have hlt : g < w.heap.size := (Array.getElem?_eq_some_iff.1 hg).1
      refine (Any.slices_Compact_string (P := Tryz.prog) (ρ := Tryz.compS_ren) Tryz.compS g 0 c xs w hH (by omega) hn).mono ?_
      rintro e w' ⟨rfl, q, rfl⟩
      have hcl := compN_len xs
      generalize hL : Lib.compact xs ++ List.replicate (xs.length - (Lib.compact xs).length) [] = L
      have hLl : L.length = xs.length := by rw [← hL]; simp; unfold compN at hcl; omega
      have hLt : L.take (compN xs).length = compN xs := by rw [← hL]; unfold compN; simp
      have hheap : (putRow encStr (Sort.ahead w q) g 0 L.toArray).heap = w.heap.modify g (onCells (putCells encStr 0 L.toArray)) := rfl
      refine ⟨rfl, ?_, rfl, rfl, rfl, by rw [hheap]; simp, fun k hk hne => ?_⟩
      · refine ⟨by rw [flat_len nm_len], .inr ⟨g, c, putCells encStr 0 L.toArray cur, rfl, hb, ?_, by omega, hm, ?_, ?_⟩⟩
        · rw [hheap, Array.getElem?_modify, if_pos rfl, hg]
          rfl
        · simp [putCells, hs]
        · rw [Nat.mul_one, flatN]
          apply List.ext_getElem?
          intro i
          rw [List.getElem?_take]
          by_cases hi : i < (compN xs).length
          · rw [if_pos hi]
            have hic : i < cur.size := by omega
            have hi2 : i < L.length := by omega
            have h3 : L[i] = (compN xs)[i] := by
              have := congrArg (fun l => l[i]?) hLt
              simp only [List.getElem?_take, if_pos hi] at this
              rw [List.getElem?_eq_getElem hi2, List.getElem?_eq_getElem hi] at this
              exact Option.some.inj this
            simp [putCells, hic, hi2, hi, h3]
          · rw [if_neg hi, List.getElem?_eq_none (by simp; omega)]
      · have hkg : k ≠ g := fun e => hne (by simp [Value.ownBlock, e])
        rw [hheap, Array.getElem?_modify, if_neg (Ne.symm hkg)]
end Go.Proofs.YthigflnfccajoaaGreat
