
/- Contracts of slices.Clone and slices.SortFunc at values. -/
import Derived.WalkKit
import Derived.Lib.Hide
import Derived.WalkSpells
import Derived.WalkLawsBesides
import Derived.BigQuiet
import Derived.Shelf.Abstract
import Derived.StillTailTactics
import Derived.Test.YtcffcblfmlclnaaGreatDoorOrd
import Derived.Test.YtcffcblfmlclnaaGreatDoorSort
namespace Go.Proofs.YtcffcblfmlclnaaGreatDoor
open Go.RowKit Go.Zone Go.Shelf Go.Sort
attribute [local go_sem] Zone.zone Zone.stepZ Zone.fill Zone.lookFs Zone.goes Zone.goesUpon Zone.dropFs Zone.cell_gro Zone.frozen_gro Zone.size_gro Zone.lt_add Zone.drew_gro Zone.tape_gro Zone.keep_refl
theorem alloc3_grow (W : World) (a b c : Obj) : (((W.alloc a).alloc b).alloc c).drew = grow (W.drewN 1) ((#[a] ++ #[b]) ++ #[c]) := by
  simp only [alloc_eq_grow, grow_grow]; rfl
set_option maxRecDepth 100000 in
set_option maxHeartbeats 1000000 in
theorem compare_grow (x y : Val) (W : World) : Calls Tryz.prog 37 #[x.v, y.v] W fun e w' => e = .returned (.int .i64 (cmpV x y)) ∧ ∃ q os', w' = grow (W.drewN q) os' := by
  obtain ⟨k, n, s⟩ := x
  obtain ⟨k', n', s'⟩ := y
  simp only [Val.v, cmpV]
  go_enter Tryz.func37, Tryz.ntmps37
  go_wp2
  refine wp_region_still_tail 15 (by kernel_rfl) (by kernel_rfl) ?_
  simp only [List.take_succ_cons, List.take_zero, List.drop_succ_cons, List.drop_zero]
  change wpStill _ _ (World.drew _) (fun a' => wpList _ _ _ _ a' (World.drew _)) _ _
  repeat still_step
  still_call ((cmp8 _ _ _).mono fun _ _ h => ⟨h.1, h.2.symm⟩)
  repeat still_step
  still_call ((cmp64 _ _ _).mono fun _ _ h => ⟨h.1, h.2.symm⟩)
  repeat still_step
  still_call ((cmpStr _ _ _).mono fun _ _ h => ⟨h.1, h.2.symm⟩)
  refine wpStill_nil ?_
  go_wp2_with (go_at_call 72; refine (or_any _ 0 [cmpI k k', cmpI n n', cmpS s s'] 3 3 _ rfl (by omega) (fun i hi => by match i, hi with | 0, _ => simp [go_sem] | 1, _ => simp [go_sem] | 2, _ => simp [go_sem])).mono ?_; rintro e w' ⟨rfl, rfl⟩)
  go_ret
  exact ⟨rfl, 1, _, alloc3_grow W _ _ _⟩
theorem cmpLaysV (blk off size : Nat) (w : World) : CmpLays Tryz.prog 37 #[] Val.cells 3 cmpV blk off size w :=
  fun _ _ _ _ x y => compare_grow x y _

theorem aggV (w : World) : (isAgg 76).run Tryz.prog w = .ok true w := by kernel_rfl
theorem sizeV (w : World) : (Go.sizeOf 76).run Tryz.prog w = .ok 3 w := by kernel_rfl
def sortV (xs : List Val) : List Val := xs.mergeSort fun x y => !(ltOf cmpV) y x

theorem flat_toArray (xs : List Val) : flatK Val.cells 3 xs.toArray = (xs.flatMap Val.cells).toArray := by
  apply Array.ext
  · simp [flat_len val_len]
  · intro i h1 h2
    have h3 : i < xs.length * 3 := by simpa using h1
    have hd : i / 3 < xs.length := by omega
    have := flat_get val_len xs (i / 3) (i % 3) hd ((xs[i / 3].cells)[i % 3]!) (by
      have : i % 3 < (xs[i / 3].cells).length := by rw [val_len]; omega
      rw [List.getElem?_eq_getElem this, getElem!_pos (xs[i / 3].cells) (i % 3) this])
    have hj : i / 3 * 3 + i % 3 = i := by omega
    rw [hj] at this
    have h4 := get_flatK Val.cells 3 xs.toArray i (by simpa using h3)
    rw [getElem!_pos (flatK Val.cells 3 xs.toArray) i h1] at h4
    rw [h4]
    simp only [List.getElem_toArray]
    rw [getElem!_pos xs.toArray (i / 3) (by simpa using hd)]
    have h5 := List.getElem?_eq_some_iff.1 this
    obtain ⟨_, h6⟩ := h5
    rw [h6]
    simp
theorem sort_any (A : Option Addr) (c : Nat) (xs : List Val) (base : Nat) (w : World) (h : Own w base 76 3 Val.cells (.slice A xs.length c) xs) (hl : xs.length ≤ 1000000000) :
    Calls Tryz.prog 84 #[.slice A xs.length c, .func (.func 37) #[] #[]] w fun e w' => e = .returned (.tuple #[]) ∧ Own w' base 76 3 Val.cells (.slice A xs.length c) (sortV xs) ∧ w.grownBy w' (Value.slice A xs.length c).ownBlock := by
  by_cases h0 : xs.length = 0
  · have hx : xs = [] := List.eq_nil_of_length_eq_zero h0
    subst hx
    refine (AnyF.slices_SortFunc_none (P := Tryz.prog) (ρ := Tryz.sortV_ren) { Tryz.sortV with } A c (.func (.func 37) #[] #[]) w).mono ?_
    rintro e w' ⟨rfl, rfl⟩
    refine ⟨rfl, ?_, ⟨rfl, rfl, rfl, Nat.le_refl _, fun _ _ _ => rfl⟩⟩
    have : sortV [] = [] := by simp [sortV]
    rw [this]
    exact h
  · rcases h.2 with ⟨_, h1⟩ | ⟨g, cap, cur, hv, hb, hg, hn, hm, hs, ht⟩
    · exact absurd h1 h0
    · injection hv with hA _ hc
      subst hA; subst hc
      have hH : HoldsK Val.cells 3 w g 0 xs.toArray := fun j hj => by
        rw [flat_toArray] at hj ⊢
        have hj' : j < (xs.flatMap Val.cells).length := by simpa using hj
        have hjl : j < xs.length * 3 := by rw [flat_len val_len] at hj'; exact hj'
        have e1 : cur[j]? = some (xs.flatMap Val.cells)[j] := by
          have h7 : (xs.flatMap Val.cells)[j]? = some (xs.flatMap Val.cells)[j] := List.getElem?_eq_getElem hj'
          generalize (xs.flatMap Val.cells)[j] = u at h7 ⊢
          rw [← ht, List.getElem?_take, if_pos hjl] at h7
          simpa using h7
        rw [getElem!_pos _ j hj]
        refine ⟨?_, by simp [World.frozen?, hg]⟩
        simp only [World.cell?, hg, Nat.zero_add, Option.isSome_none, Bool.false_eq_true, if_false, id]
        rw [e1]; simp
      have hlt : g < w.heap.size := (Array.getElem?_eq_some_iff.1 hg).1
      have := AnyQ.slices_SortFunc_total (P := Tryz.prog) (ρ := Tryz.sortV_ren) Tryz.sortV 3 aggV sizeV Val.cells val_len val_one cmpV swoV 37 #[] g 0 c xs.toArray w (enters_of Tryz.func37 (by kernel_rfl) rfl) (cmpLaysV _ _ _ _) hH hlt (by simp; omega) totV
      refine Calls.mono this ?_
      rintro e w' ⟨rfl, n, os, rfl⟩
      have hsl : (sortV xs).length = xs.length := List.length_mergeSort _
      have hF : flatK Val.cells 3 (xs.toArray.toList.mergeSort fun x y => !ltOf cmpV y x).toArray = ((sortV xs).flatMap Val.cells).toArray := flat_toArray (sortV xs)
      have hheap : (sortWorldK Val.cells 3 w g 0 n (xs.toArray.toList.mergeSort fun x y => !ltOf cmpV y x).toArray os).heap = w.heap.modify g (onCells (putCells id 0 ((sortV xs).flatMap Val.cells).toArray)) ++ os := by
        unfold sortWorldK putRowK
        rw [hF]
        rfl
      have hfl : ((sortV xs).flatMap Val.cells).length = xs.length * 3 := by rw [flat_len val_len, hsl]
      refine ⟨rfl, ?_, rfl, rfl, rfl, by rw [hheap]; simp, fun k hk hne => ?_⟩
      · refine ⟨by rw [hfl, hsl], .inr ⟨g, c, putCells id 0 ((sortV xs).flatMap Val.cells).toArray cur, by rw [hsl], hb, ?_, by rw [hsl]; exact hn, hm, ?_, ?_⟩⟩
        · rw [hheap, Array.getElem?_append, if_pos (by simpa using hlt), Array.getElem?_modify, if_pos rfl, hg]
          rfl
        · simp [putCells, hs]
        · rw [hsl]
          apply List.ext_getElem?
          intro i
          rw [List.getElem?_take]
          by_cases hi : i < xs.length * 3
          · rw [if_pos hi]
            have hic : i < cur.size := by rw [hs]; have := Nat.mul_le_mul_right 3 hn; omega
            simp [putCells, hic, hfl, hi]
          · rw [if_neg hi, List.getElem?_eq_none (by omega)]
      · have hkg : k ≠ g := fun e => hne (by simp [Value.ownBlock, e])
        rw [hheap, Array.getElem?_append, if_pos (by simpa using hk), Array.getElem?_modify, if_neg (Ne.symm hkg)]
end Go.Proofs.YtcffcblfmlclnaaGreatDoor
