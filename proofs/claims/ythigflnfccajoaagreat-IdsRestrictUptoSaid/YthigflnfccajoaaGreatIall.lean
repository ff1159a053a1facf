
/- Rows of flags; ids.all: of each id the same. -/
import Derived.WalkKit
import Derived.Lib.Hide
import Derived.WalkSpells
import Derived.WalkLawsBesides
import Derived.BigQuiet
import Derived.Shelf.Abstract
import Derived.Laws.OwnMore
import Derived.Test.YthigflnfccajoaaGreatAll
import Derived.Test.YthigflnfccajoaaGreatQcols2
namespace Go.Proofs.YthigflnfccajoaaGreat
open Go.RowKit Go.Zone Go.Shelf
attribute [local go_sem] Zone.zone Zone.stepZ Zone.fill Zone.lookFs Zone.goes Zone.goesUpon Zone.dropFs Zone.cell_gro Zone.frozen_gro Zone.size_gro Zone.lt_add Zone.drew_gro Zone.tape_gro Zone.keep_refl
attribute [local go_sem] Zone.lt_add2 Zone.lt_add3 Zone.lt_add4 Zone.lt_add5 Zone.lt_add6 Zone.lt_add7 Zone.lt_add8 Zone.lt_add9 Zone.lt_add10 Zone.lt_add11 Zone.lt_add12
def boolV (b : Bool) : List Value := [.bool b]
theorem bool_len (x : Bool) : (boolV x).length = 1 := rfl
theorem bool_one (x : Bool) : ∀ u ∈ boolV x, u.oneCell' = true := by simp [boolV, Value.oneCell']
theorem info_b1 : (Tryz.prog.info? 4).map (fun i => (i.zero, i.size, i.bytes)) = some (some (.bool false), 1, 1) := by kernel_rfl
theorem elt_b1 : Elt Tryz.prog 45 4 1 1 := by
  obtain ⟨i, hi, h1, h2, h3⟩ := info_partsK info_b1
  exact ⟨i, _, Tryz.underlying45, hi, h1, h2, h3, rfl, by decide, by decide⟩
abbrev OwnF (w : World) (base : Nat) (v : Value) (xs : List Bool) : Prop := Zone.Own w base 4 1 boolV v xs
theorem flatF (xs : List Bool) : xs.flatMap boolV = xs.map Value.bool := by
  induction xs with
  | nil => rfl
  | cons x r ih => simp [boolV, ih]
theorem made_f (n : Nat) : (madeCells (Value.bool false).cells (n * 1)).toList = (List.replicate n false).flatMap boolV := by
  rw [flatF]
  apply List.ext_getElem
  · simp [madeCells]
  · intro i h1 h2
    simp [madeCells, Value.cells, Nat.mod_one]
theorem own_make (n base : Nat) (W : World) (hn : n ≤ 1000000) (hb : base ≤ W.heap.size) :
    ∃ W', (Instr.makeSlice 45 (.int .i64 (n : Int)) (.int .i64 (n : Int))).run Tryz.prog W = .ok (.slice (some ⟨W.heap.size, 0, none⟩) n n) W' ∧ OwnF W' base (.slice (some ⟨W.heap.size, 0, none⟩) n n) (List.replicate n false) ∧ Keep W W' := by
  obtain ⟨i, hi, h1, h2, h3⟩ := info_partsK info_b1
  obtain ⟨W', hr, ho, hg⟩ := run_makeSlice_full (P := Tryz.prog) W base 45 4 i (.bool false) 1 Tryz.underlying45 hi h1 h2 .i64 .i64 n (by omega) (by rw [h3]; omega) (by unfold maxLen; omega) hb
  rw [made_f] at ho
  refine ⟨W', hr, ?_, ⟨hg.os, hg.tape, hg.output, hg.size, fun k hk => hg.block k hk (by simp)⟩⟩
  unfold OwnF Zone.Own
  rw [List.length_replicate]
  exact ho
theorem own_setF {w : World} {base g n c : Nat} {xs : List Bool} (h : OwnF w base (.slice (some ⟨g, 0, none⟩) n c) xs) (hn : n = xs.length) (j : Nat) (b : Bool) :
    OwnF (w.setCell ⟨g, j, none⟩ (.bool b)) base (.slice (some ⟨g, 0, none⟩) n c) (xs.set j b) := by
  subst hn
  have := (World.ownsRow.stored h j (.bool b)).1
  unfold OwnF Zone.Own
  rw [List.length_set, flatF, List.map_set, ← flatF]
  exact this
theorem own_cellF {w : World} {base g n c : Nat} {xs : List Bool} (h : OwnF w base (.slice (some ⟨g, 0, none⟩) n c) xs) (hn : n = xs.length) (j : Nat) (hj : j < xs.length) :
    w.cell? ⟨g, j, none⟩ = some (.bool xs[j]) ∧ w.frozen? ⟨g, j, none⟩ = false ∧ g < w.heap.size ∧ base ≤ g := by
  rcases h.2 with ⟨h', _⟩ | ⟨g', cap', cur, h', hb, hg, hnc, hcm, hcs, htake⟩
  · simp at h'
  · simp only [Value.slice.injEq, Option.some.injEq, Addr.mk.injEq, and_true, true_and] at h'
    obtain ⟨rfl, _, _⟩ := h'
    refine ⟨?_, by simp [World.frozen?, hg], (Array.getElem?_eq_some_iff.1 hg).1, hb⟩
    have h1 : (xs.flatMap boolV)[j]? = some (.bool xs[j]) := by rw [flatF]; simp [hj]
    rw [← htake, List.getElem?_take, if_pos (by omega)] at h1
    simp only [World.cell?, hg, Option.isSome_none, Bool.false_eq_true, if_false]
    simpa using h1
set_option maxHeartbeats 1000000 in
theorem all_f (n : Nat) (is : Bool) (w : World) (hn : n ≤ 1000000) :
    Calls Tryz.prog 33 #[.int .i64 n, .bool is] w fun e w' => e = .returned (.slice (some ⟨w.heap.size, 0, none⟩) n n) ∧ OwnF w' w.heap.size (.slice (some ⟨w.heap.size, 0, none⟩) n n) (List.replicate n is) ∧ Keep w w' := by
  obtain ⟨W', hr, ho, hk⟩ := own_make n w.heap.size w hn (Nat.le_refl _)
  have HO := Lib.hid ho
  have HK := Lib.hid hk
  have e0 : (List.replicate n false) = (List.replicate 0 is) ++ List.replicate (n - 0) false := by simp
  rw [e0] at HO
  clear ho hk e0
  generalize hg : w.heap.size = g at hr HO ⊢
  go_enter Tryz.func33, Tryz.ntmps33
  go_wp2
  go_loopw [6, 11] (fun _ i wr => ∃ k : Nat, k ≤ n ∧ i = .int .i64 k ∧ Hid (OwnF wr g (.slice (some ⟨g, 0, none⟩) n n) (List.replicate k is ++ List.replicate (n - k) false)) ∧ Hid (Keep w wr)) (fun _ i _ => n - (intOf i).toNat)
  case atStart => exact ⟨0, Nat.zero_le _, rfl, HO.out, HK.out⟩
  case round =>
    obtain ⟨k, hk, rfl, HO1, HK1⟩ := hrel
    by_cases hlt : k < n
    · have hlen : (List.replicate k is ++ List.replicate (n - k) false).length = n := by simp; omega
      obtain ⟨c0, c1, c2, c3⟩ := own_cellF HO1.out hlen.symm k (by omega)
      generalize (List.replicate k is ++ List.replicate (n - k) false)[k] = u0 at c0
      have ho2 := own_setF HO1.out hlen.symm k is
      have hset : (List.replicate k is ++ List.replicate (n - k) false).set k is = List.replicate (k + 1) is ++ List.replicate (n - (k + 1)) false := by
        rw [List.set_append_right _ _ (by simp), List.length_replicate, Nat.sub_self, show n - k = (n - (k + 1)) + 1 by omega, List.replicate_succ, List.set_cons_zero, List.replicate_succ' (n := k), List.append_assoc]; rfl
      rw [hset] at ho2
      have HO2 := Lib.hid ho2
      have HGE := Lib.hid (show w.heap.size ≤ g by omega)
      clear ho2 hset hlen c3
      go_wp2
      go_roundw
      case rel => exact ⟨k + 1, by omega, by go_num, HO2.out, HK1.out.setCell HGE.out _⟩
      case measure => simp [intOf]; omega
    · have : k = n := by omega
      subst this
      rw [Nat.sub_self, List.replicate_zero, List.append_nil] at HO1
      go_wp2
      go_ret
      exact ⟨rfl, HO1.out, HK1.out⟩
end Go.Proofs.YthigflnfccajoaaGreat
