/-
  DERIVED: THE SHELF's CONTRACTS AT THIS DUMP, IN PLAIN WORDS (tools/lay-plain.mjs out of 'TryShelf.lean', which tools/lay-shelf.mjs wrote): THE SAME DECLARATIONS UNDER THE SAME NAMES: 'import', 'namespace', 'open', 'def', 'theorem' AND NOTHING ELSE: no command of the shelf's: FOR A HAND-IN. Each laying: the table of numbers ('.._ren') and one theorem, a field a fact of the dump's own or the kernel's comparison; each contract: ONE APPLICATION.
-/
import Derived.Shelf.SlGeneric
import Derived.Shelf.SlSortCmp.NoneTotal
import Derived.Ground.SlsfProg
import Derived.Test.YtmcaednlilhnoaaGreatDoorProg
import Derived.WalkKit
import Derived.Lib.Hide
import Derived.WalkSpells
import Derived.WalkLawsBesides
import Derived.BigQuiet
import Derived.Shelf.Abstract
import Derived.StillTailTactics
import Derived.Test.YtmcaednlilhnoaaGreatDoorJc
import Derived.Lib.SliceRun
namespace Go.Proofs
open Go.Shelf
def Tryz.sortV_ren : Go.Shelf.Ren := ⟨fun | 6 => 121 | 15 => 179 | 14 => 178 | 28 => 229 | 29 => 181 | 20 => 221 | 21 => 222 | 22 => 223 | 23 => 224 | 24 => 225 | 25 => 226 | 26 => 227 | 27 => 228 | 46 => 270 | 47 => 271 | 48 => 272 | 49 => 273 | 50 => 274 | 57 => 321 | n => n, fun | 22 => 33 | 24 => 61 | 25 => 121 | 3 => 3 | 39 => 159 | 0 => 0 | 53 => 100 | 55 => 85 | 4 => 4 | 46 => 309 | 45 => 308 | 50 => 135 | 5 => 5 | 9 => 9 | 66 => 345 | 70 => 348 | 76 => 384 | 77 => 385 | n => n, fun | n => n⟩
theorem Tryz.sortV : Go.Proofs.SlLaysF0.n6 Tryz.prog Tryz.sortV_ren := {
  mixed := by kernel_rfl
  f6 := ⟨Tryz.f121.name, by decide, Tryz.func121.trans (congrArg some (by kernel_rfl))⟩
  f14 := ⟨Tryz.f178.name, by decide, Tryz.func178.trans (congrArg some (by kernel_rfl))⟩
  f15 := Tryz.func179.trans (congrArg some (by kernel_rfl))
  f20 := ⟨Tryz.f221.name, by decide, Tryz.func221.trans (congrArg some (by kernel_rfl))⟩
  f21 := ⟨Tryz.f222.name, by decide, Tryz.func222.trans (congrArg some (by kernel_rfl))⟩
  f22 := ⟨Tryz.f223.name, by decide, Tryz.func223.trans (congrArg some (by kernel_rfl))⟩
  f23 := ⟨Tryz.f224.name, by decide, Tryz.func224.trans (congrArg some (by kernel_rfl))⟩
  f24 := ⟨Tryz.f225.name, by decide, Tryz.func225.trans (congrArg some (by kernel_rfl))⟩
  f25 := ⟨Tryz.f226.name, by decide, Tryz.func226.trans (congrArg some (by kernel_rfl))⟩
  f26 := ⟨Tryz.f227.name, by decide, Tryz.func227.trans (congrArg some (by kernel_rfl))⟩
  f27 := ⟨Tryz.f228.name, by decide, Tryz.func228.trans (congrArg some (by kernel_rfl))⟩
  f28 := Tryz.func229.trans (congrArg some (by kernel_rfl))
  f29 := Tryz.func181.trans (congrArg some (by kernel_rfl))
  f46 := ⟨Tryz.f270.name, by decide, Tryz.func270.trans (congrArg some (by kernel_rfl))⟩
  f47 := Tryz.func271.trans (congrArg some (by kernel_rfl))
  f48 := Tryz.func272.trans (congrArg some (by kernel_rfl))
  f49 := ⟨Tryz.f273.name, by decide, Tryz.func273.trans (congrArg some (by kernel_rfl))⟩
  f50 := ⟨Tryz.f274.name, by decide, Tryz.func274.trans (congrArg some (by kernel_rfl))⟩
  f57 := ⟨Tryz.f321.name, by decide, Tryz.func321.trans (congrArg some (by kernel_rfl))⟩
  t0 := Tryz.underlying0
  a0 := Tryz.isAgg0
  z0 := Tryz.sizeOf0
  v0 := Tryz.zeroValue0
  t3 := Tryz.underlying3
  a3 := Tryz.isAgg3
  z3 := Tryz.sizeOf3
  v3 := Tryz.zeroValue3
  t4 := Tryz.underlying4
  a4 := Tryz.isAgg4
  z4 := Tryz.sizeOf4
  v4 := Tryz.zeroValue4
  t5 := Tryz.underlying5
  a5 := Tryz.isAgg5
  z5 := Tryz.sizeOf5
  v5 := Tryz.zeroValue5
  t9 := Tryz.underlying9
  a9 := Tryz.isAgg9
  z9 := Tryz.sizeOf9
  v9 := Tryz.zeroValue9
  t22 := Tryz.underlying33
  a22 := Tryz.isAgg33
  z22 := Tryz.sizeOf33
  v22 := Tryz.zeroValue33
  t25 := Tryz.underlying121
  a25 := Tryz.isAgg121
  z25 := Tryz.sizeOf121
  v25 := Tryz.zeroValue121
  t39 := Tryz.underlying159
  a39 := Tryz.isAgg159
  z39 := Tryz.sizeOf159
  v39 := Tryz.zeroValue159
  t45 := Tryz.underlying308
  a45 := Tryz.isAgg308
  z45 := Tryz.sizeOf308
  v45 := Tryz.zeroValue308
  t46 := Tryz.underlying309
  a46 := Tryz.isAgg309
  z46 := Tryz.sizeOf309
  v46 := Tryz.zeroValue309
  t50 := Tryz.underlying135
  a50 := Tryz.isAgg135
  z50 := Tryz.sizeOf135
  v50 := Tryz.zeroValue135
  t53 := Tryz.underlying100
  a53 := Tryz.isAgg100
  z53 := Tryz.sizeOf100
  v53 := Tryz.zeroValue100
  t55 := Tryz.underlying85
  a55 := Tryz.isAgg85
  z55 := Tryz.sizeOf85
  v55 := Tryz.zeroValue85
  t66 := Tryz.underlying345
  a66 := Tryz.isAgg345
  z66 := Tryz.sizeOf345
  v66 := Tryz.zeroValue345
  t70 := Tryz.underlying348
  a70 := Tryz.isAgg348
  z70 := Tryz.sizeOf348
  v70 := Tryz.zeroValue348
  t76 := Tryz.underlying384
  a76 := Tryz.isAgg384
  z76 := Tryz.sizeOf384
  v76 := Tryz.zeroValue384
  t77 := Tryz.underlying385
  a77 := Tryz.isAgg385
  z77 := Tryz.sizeOf385
  v77 := Tryz.zeroValue385 }
end Go.Proofs
namespace Go.Proofs.YtmcaednlilhnoaaGreatDoor
open Go.RowKit Go.Zone Go.Shelf Go.Sort
attribute [local go_sem] Zone.zone Zone.stepZ Zone.fill Zone.lookFs Zone.goes Zone.goesUpon Zone.dropFs Zone.cell_gro Zone.frozen_gro Zone.size_gro Zone.lt_add Zone.drew_gro Zone.tape_gro Zone.keep_refl
theorem alloc3_grow (W : World) (a b c : Obj) : (((W.alloc a).alloc b).alloc c).drew = grow (W.drewN 1) ((#[a] ++ #[b]) ++ #[c]) := by
  simp only [alloc_eq_grow, grow_grow]; rfl
set_option maxRecDepth 100000 in
set_option maxHeartbeats 1000000 in
theorem compare_grow (x y : Val) (W : World) : Calls Tryz.prog 58 #[x.v, y.v] W fun e w' => e = .returned (.int .i64 (cmpV x y)) ∧ ∃ q os', w' = grow (W.drewN q) os' := by
  obtain ⟨k, n, s⟩ := x
  obtain ⟨k', n', s'⟩ := y
  simp only [Val.v, cmpV]
  go_enter Tryz.func58, Tryz.ntmps58
  go_wp2
  refine wp_region_still_tail 15 (by kernel_rfl) (by kernel_rfl) ?_
  simp only [List.take_succ_cons, List.take_zero, List.drop_succ_cons, List.drop_zero]
  change wpStill _ _ (World.drew _) (fun a' => wpList _ _ _ _ a' (World.drew _)) _ _
  repeat still_step
  still_call ((cmp8 _ _ _).mono fun _ _ h => ⟨h.1, h.2.symm⟩)
  repeat still_step
  still_call ((cmp64 _ _ _).mono fun _ _ h => ⟨h.1, h.2.symm⟩)
  repeat still_step
  still_call ((cmpStr _ _ _).mono fun _ _ h => ⟨h.1, h.2.symm⟩)
  refine wpStill_nil ?_
  go_wp2_with (go_at_call 110; refine (or_any _ 0 [cmpI k k', cmpI n n', cmpS s s'] 3 3 _ rfl (by omega) (fun i hi => by match i, hi with | 0, _ => simp [go_sem] | 1, _ => simp [go_sem] | 2, _ => simp [go_sem])).mono ?_; rintro e w' ⟨rfl, rfl⟩)
  go_ret
  exact ⟨rfl, 1, _, alloc3_grow W _ _ _⟩
theorem cmpLaysV (blk off size : Nat) (w : World) : CmpLays Tryz.prog 58 #[] Val.cells 3 cmpV blk off size w :=
  fun _ _ _ _ x y => compare_grow x y _

theorem aggV (w : World) : (isAgg 61).run Tryz.prog w = .ok true w := by kernel_rfl
theorem sizeV (w : World) : (Go.sizeOf 61).run Tryz.prog w = .ok 3 w := by kernel_rfl
def sortV (xs : List Val) : List Val := xs.mergeSort fun x y => !(ltOf cmpV) y x

theorem flat_toArray (xs : List Val) : flatK Val.cells 3 xs.toArray = (xs.flatMap Val.cells).toArray := by
  apply Array.ext
  · simp [flat_len val_len]
  · intro i h1 h2
    have h3 : i < xs.length * 3 := by simpa using h1
    have hd : i / 3 < xs.length := by omega
    have := flat_get val_len xs (i / 3) (i % 3) hd ((xs[i / 3].cells)[i % 3]!) (by
      have : i % 3 < (xs[i / 3].cells).length := by rw [val_len]; omega
      rw [List.getElem?_eq_getElem this, getElem!_pos (xs[i / 3].cells) (i % 3) this])
    have hj : i / 3 * 3 + i % 3 = i := by omega
    rw [hj] at this
    have h4 := get_flatK Val.cells 3 xs.toArray i (by simpa using h3)
    rw [getElem!_pos (flatK Val.cells 3 xs.toArray) i h1] at h4
    rw [h4]
    simp only [List.getElem_toArray]
    rw [getElem!_pos xs.toArray (i / 3) (by simpa using hd)]
    have h5 := List.getElem?_eq_some_iff.1 this
    obtain ⟨_, h6⟩ := h5
    rw [h6]
    simp
theorem sort_any (A : Option Addr) (c : Nat) (xs : List Val) (base : Nat) (w : World) (h : Own w base 61 3 Val.cells (.slice A xs.length c) xs) (hl : xs.length ≤ 1000000000) :
    Calls Tryz.prog 121 #[.slice A xs.length c, .func (.func 58) #[] #[]] w fun e w' => e = .returned (.tuple #[]) ∧ Own w' base 61 3 Val.cells (.slice A xs.length c) (sortV xs) ∧ w.grownBy w' (Value.slice A xs.length c).ownBlock := by
  by_cases h0 : xs.length = 0
  · have hx : xs = [] := List.eq_nil_of_length_eq_zero h0
    subst hx
    refine (AnyF.slices_SortFunc_none (P := Tryz.prog) (ρ := Tryz.sortV_ren) { Tryz.sortV with } A c (.func (.func 58) #[] #[]) w).mono ?_
    rintro e w' ⟨rfl, rfl⟩
    refine ⟨rfl, ?_, ⟨rfl, rfl, rfl, Nat.le_refl _, fun _ _ _ => rfl⟩⟩
    have : sortV [] = [] := by simp [sortV]
    rw [this]
    exact h
  · rcases h.2 with ⟨_, h1⟩ | ⟨g, cap, cur, hv, hb, hg, hn, hm, hs, ht⟩
    · exact absurd h1 h0
    · injection hv with hA _ hc
      subst hA; subst hc
      have hH : HoldsK Val.cells 3 w g 0 xs.toArray := fun j hj => by
        rw [flat_toArray] at hj ⊢
        have hj' : j < (xs.flatMap Val.cells).length := by simpa using hj
        have hjl : j < xs.length * 3 := by rw [flat_len val_len] at hj'; exact hj'
        have e1 : cur[j]? = some (xs.flatMap Val.cells)[j] := by
          have h7 : (xs.flatMap Val.cells)[j]? = some (xs.flatMap Val.cells)[j] := List.getElem?_eq_getElem hj'
          generalize (xs.flatMap Val.cells)[j] = u at h7 ⊢
          rw [← ht, List.getElem?_take, if_pos hjl] at h7
          simpa using h7
        rw [getElem!_pos _ j hj]
        refine ⟨?_, by simp [World.frozen?, hg]⟩
        simp only [World.cell?, hg, Nat.zero_add, Option.isSome_none, Bool.false_eq_true, if_false, id]
        rw [e1]; simp
      have hlt : g < w.heap.size := (Array.getElem?_eq_some_iff.1 hg).1
      have := AnyQ.slices_SortFunc_total (P := Tryz.prog) (ρ := Tryz.sortV_ren) Tryz.sortV 3 aggV sizeV Val.cells val_len val_one cmpV swoV 58 #[] g 0 c xs.toArray w (enters_of Tryz.func58 (by kernel_rfl) rfl) (cmpLaysV _ _ _ _) hH hlt (by simp; omega) totV
      refine Calls.mono this ?_
      rintro e w' ⟨rfl, n, os, rfl⟩
      have hsl : (sortV xs).length = xs.length := List.length_mergeSort _
      have hF : flatK Val.cells 3 (xs.toArray.toList.mergeSort fun x y => !ltOf cmpV y x).toArray = ((sortV xs).flatMap Val.cells).toArray := flat_toArray (sortV xs)
      have hheap : (sortWorldK Val.cells 3 w g 0 n (xs.toArray.toList.mergeSort fun x y => !ltOf cmpV y x).toArray os).heap = w.heap.modify g (onCells (putCells id 0 ((sortV xs).flatMap Val.cells).toArray)) ++ os := by
        unfold sortWorldK putRowK
        rw [hF]
        rfl
      have hfl : ((sortV xs).flatMap Val.cells).length = xs.length * 3 := by rw [flat_len val_len, hsl]
      refine ⟨rfl, ?_, rfl, rfl, rfl, by rw [hheap]; simp, fun k hk hne => ?_⟩
      · refine ⟨by rw [hfl, hsl], .inr ⟨g, c, putCells id 0 ((sortV xs).flatMap Val.cells).toArray cur, by rw [hsl], hb, ?_, by rw [hsl]; exact hn, hm, ?_, ?_⟩⟩
        · rw [hheap, Array.getElem?_append, if_pos (by simpa using hlt), Array.getElem?_modify, if_pos rfl, hg]
          rfl
        · simp [putCells, hs]
        · rw [hsl]
          apply List.ext_getElem?
          intro i
          rw [List.getElem?_take]
          by_cases hi : i < xs.length * 3
          · rw [if_pos hi]
            have hic : i < cur.size := by rw [hs]; have := Nat.mul_le_mul_right 3 hn; omega
            simp [putCells, hic, hfl, hi]
          · rw [if_neg hi, List.getElem?_eq_none (by omega)]
      · have hkg : k ≠ g := fun e => hne (by simp [Value.ownBlock, e])
        rw [hheap, Array.getElem?_append, if_pos (by simpa using hk), Array.getElem?_modify, if_neg (Ne.symm hkg)]
end Go.Proofs.YtmcaednlilhnoaaGreatDoor
namespace Go.Proofs.YtmcaednlilhnoaaGreatDoor
open Go.RowKit Go.Zone Go.Shelf
attribute [local go_sem] Zone.zone Zone.stepZ Zone.fill Zone.lookFs Zone.goes Zone.goesUpon Zone.dropFs Zone.cell_gro Zone.frozen_gro Zone.size_gro Zone.lt_add Zone.drew_gro Zone.tape_gro Zone.keep_refl
attribute [local go_sem high] run_eq_val run_ne_val run_eqG_val
theorem own_form {α : Type} {w : World} {base k : Nat} {e : TypeId} {enc : α → List Value} {v : Value} {xs : List α} (h : Own w base e k enc v xs) : ∃ A c, v = .slice A xs.length c := by
  rcases h.2 with ⟨rfl, h0⟩ | ⟨g, cap, cur, rfl, _⟩
  · exact ⟨none, 0, by rw [h0]⟩
  · exact ⟨_, _, rfl⟩
set_option maxRecDepth 100000 in
set_option maxHeartbeats 1000000 in
theorem clone_any (A : Option Addr) (c : Nat) (xs : List Val) (w : World) (h : Sl w 3 Val.cells A c xs) (hl : xs.length ≤ 1000000000) :
    Calls Tryz.prog 120 #[.slice A xs.length c] w fun e w' => ∃ A' c', e = .returned (.slice A' xs.length c') ∧ Own w' w.heap.size 61 3 Val.cells (.slice A' xs.length c') xs ∧ Keep w w' := by
  have hn := fun W : World => Lib.run_eql_slice_nil W 33 61 A xs.length c 0 0 Tryz.underlying33
  cases A with
  | none =>
    have hx : xs = [] := by
      rcases xs with _ | ⟨y, r⟩
      · rfl
      · obtain ⟨_, _, hA, _⟩ := h.at_ 0 (by simp)
        cases hA
    subst hx
    simp only [List.length_nil, Option.isNone_none] at hn ⊢
    go_enter Tryz.func120, Tryz.ntmps120
    go_wp2
    go_ret
    exact ⟨none, 0, rfl, Own.nil_ _ _ _ _ _, Keep.refl _⟩
  | some ad =>
    have H := Lib.hid h; clear h
    go_enter Tryz.func120, Tryz.ntmps120
    go_wp2_with (at_builtin; refine Zone.hold ?_)
    refine Zone.unhold ?_
    have HO1 : Own (w.alloc (.cells #[] 61)) w.heap.size 61 3 Val.cells (.slice (some ⟨w.heap.size, 0, none⟩) 0 0) ([] : List Val) := World.ownsRow_made w #[] 0 (Nat.le_refl _) (by unfold maxLen; omega) rfl
    refine wpList_app elt_val val_len val_one rfl (.tmp 5) (.tmp 6) rfl (ys := xs) HO1 rfl rfl (H.out.keep (by repeat (first | exact Keep.refl _ | apply Keep.alloc | apply Keep.gro | apply Keep.drew | apply Keep.drewN))) (by simp; omega) (by simp) ?_
    intro v1 w1 hown1 hg1 _
    have ⟨a1, a2, a3⟩ := HO1.after (w := w) hg1 (by repeat (first | exact Keep.refl _ | apply Keep.alloc | apply Keep.gro | apply Keep.drew | apply Keep.drewN)) (Nat.le_refl _)
    clear hn a2 a3
    go_wp2
    go_ret
    simp only [List.nil_append] at hown1
    obtain ⟨A', c', hv⟩ := own_form hown1
    exact ⟨A', c', by rw [← hv]; rfl, by rw [← hv]; exact hown1, a1⟩

def ddTo (xs : List Val) : Nat → List Val
  | 0 => []
  | m + 1 => if m = 0 ∨ eqV (xs.getD m default) (xs.getD (m - 1) default) = false then ddTo xs m ++ [xs.getD m default] else ddTo xs m
theorem ddTo_len (xs : List Val) : ∀ m, (ddTo xs m).length ≤ m
  | 0 => Nat.le_refl _
  | m + 1 => by
    have := ddTo_len xs m
    unfold ddTo
    split <;> simp <;> omega
theorem ddTo_all (xs : List Val) : ∀ m, m ≤ xs.length → (∀ j, 0 < j → j < m → eqV (xs.getD j default) (xs.getD (j - 1) default) = false) → ddTo xs m = xs.take m
  | 0, _, _ => by simp [ddTo]
  | m + 1, hm, h => by
    have ih := ddTo_all xs m (by omega) fun j h0 hj => h j h0 (by omega)
    have hc : m = 0 ∨ eqV (xs.getD m default) (xs.getD (m - 1) default) = false := by
      rcases Nat.eq_zero_or_pos m with h0 | h0
      · exact .inl h0
      · exact .inr (h m h0 (by omega))
    rw [ddTo, if_pos hc, ih, List.take_succ_eq_append_getElem (by omega)]
    simp [show m < xs.length by omega]
def compactV (xs : List Val) : List Val := ddTo xs xs.length

theorem flatMap_set : ∀ (L : List Val) (k : Nat) (y : Val), k < L.length → (L.set k y).flatMap Val.cells = (((L.flatMap Val.cells).set (k * 3) (.int .u8 y.k)).set (k * 3 + 1) (.int .i64 y.n)).set (k * 3 + 2) (.string y.s)
  | [], k, _, h => by simp at h
  | x :: r, 0, y, _ => by simp [Val.cells]
  | x :: r, k + 1, y, h => by
    have ih := flatMap_set r k y (by simpa using h)
    simp only [List.set_cons_succ, List.flatMap_cons, ih]
    rw [show (k + 1) * 3 = k * 3 + 3 by omega]
    simp [Val.cells, Nat.add_right_comm _ 3]
theorem own_set {w : World} {base g c k : Nat} {L : List Val} (h : Own w base 61 3 Val.cells (.slice (some ⟨g, 0, none⟩) L.length c) L) (hk : k < L.length) (y : Val) :
    Own (((w.setCell ⟨g, k * 3, none⟩ (.int .u8 y.k)).setCell ⟨g, k * 3 + 1, none⟩ (.int .i64 y.n)).setCell ⟨g, k * 3 + 2, none⟩ (.string y.s)) base 61 3 Val.cells (.slice (some ⟨g, 0, none⟩) L.length c) (L.set k y) ∧
    w.grownBy (((w.setCell ⟨g, k * 3, none⟩ (.int .u8 y.k)).setCell ⟨g, k * 3 + 1, none⟩ (.int .i64 y.n)).setCell ⟨g, k * 3 + 2, none⟩ (.string y.s)) (some g) := by
  rcases h.2 with ⟨h0, _⟩ | ⟨g', cap, cur, hv, hb, hg, hn, hm, hs, ht⟩
  · cases h0
  · injection hv with hA _ hc
    injection hA with hA
    injection hA with hA
    subst hA; subst hc
    rw [setCell_eq_setRow w g (k * 3) cur _ (0, 0) _ hg, setCell_eq_setRow _ g (k * 3 + 1) _ _ (0, 0) _ (setRow_heap w g cur _ _ _ hg), setRow_setRow, setCell_eq_setRow _ g (k * 3 + 2) _ _ (0, 0) _ (setRow_heap w g cur _ _ _ hg), setRow_setRow]
    refine ⟨⟨by rw [flat_len val_len], .inr ⟨g, c, _, by simp, hb, setRow_heap w g cur _ _ _ hg, by simpa using hn, hm, by simpa using hs, ?_⟩⟩, rfl, rfl, rfl, by simp, fun j _ hj => setRow_other w g j _ (fun e => hj (by rw [e]))⟩
    rw [flatMap_set L k y hk, ← ht]
    simp [List.take_set]
theorem own_frozen {w : World} {base g c n : Nat} {L : List Val} (h : Own w base 61 3 Val.cells (.slice (some ⟨g, 0, none⟩) n c) L) : ∀ i, w.frozen? ⟨g, i, none⟩ = false := by
  rcases h.2 with ⟨h0, _⟩ | ⟨g', cap, cur, hv, hb, hg, hn, hm, hs, ht⟩
  · cases h0
  · injection hv with hA _ hc
    injection hA with hA
    injection hA with hA
    subst hA
    intro i
    simp [World.frozen?, hg]

theorem wrap_pred {k : Nat} (h0 : 0 < k) (h : k ≤ 1000000000000) : IntKind.i64.wrap ((k : Int) - 1) = ((k - 1 : Nat) : Int) := by rw [IntWalk.i64_in _ ⟨by omega, by omega⟩]; omega
theorem zeroV (w : World) : (zeroValue 61).run Tryz.prog w = .ok (.agg #[.int .u8 0, .int .i64 0, .string ByteArray.empty]) w := by kernel_rfl
theorem take_set_succ {α : Type} : ∀ (L : List α) (q : Nat) (y : α), q < L.length → (L.set q y).take (q + 1) = L.take q ++ [y]
  | [], q, _, h => by simp at h
  | x :: r, 0, y, _ => by simp
  | x :: r, q + 1, y, h => by
    have := take_set_succ r q y (by simpa using h)
    simp only [List.set_cons_succ, List.take_succ_cons, List.cons_append, this]
theorem grownBy_trans {a b c : World} {g : Nat} (h : a.grownBy b (some g)) (k : b.grownBy c (some g)) : a.grownBy c (some g) :=
  ⟨k.os.trans h.os, k.tape.trans h.tape, k.output.trans h.output, Nat.le_trans h.size k.size, fun i hi hn => (k.block i (Nat.lt_of_lt_of_le hi h.size) hn).trans (h.block i hi hn)⟩
theorem grownBy_keep {a b : World} {g : Nat} (k : Keep a b) : a.grownBy b (some g) := ⟨k.os, k.tape, k.output, k.size, fun i hi _ => k.block i hi⟩
theorem own_clear {w : World} {base g c n q : Nat} {L : List Val} (hn : n = L.length) (h : Own w base 61 3 Val.cells (.slice (some ⟨g, 0, none⟩) n c) L) (hq : q < n) :
    ∃ w', (∀ ty, (Builtin.clear_ #[33] ty #[.slice (some ⟨g, q * 3, none⟩) (n - q) (c - q)]).run Tryz.prog w = .ok (.tuple #[]) w') ∧ Own w' base 61 3 Val.cells (.slice (some ⟨g, 0, none⟩) q c) (L.take q) ∧ w.grownBy w' (some g) := by
  subst hn
  rcases h.2 with ⟨h0, _⟩ | ⟨g', cap, cur, hv, hb, hg, hn, hm, hs, ht⟩
  · cases h0
  · injection hv with hA _ hc
    injection hA with hA
    injection hA with hA
    subst hA; subst hc
    have hzl : (Builtin.zeroCells #[.int .u8 0, .int .i64 0, .string ⟨#[]⟩] (L.length - q)).toList.length = (L.length - q) * 3 := by simp [Builtin.zeroCells]
    have hzo : ∀ v ∈ (Builtin.zeroCells #[.int .u8 0, .int .i64 0, .string ⟨#[]⟩] (L.length - q)).toList, v.oneCell' = true := by
      intro v hv
      simp only [Builtin.zeroCells, Array.toList_map, List.mem_map] at hv
      obtain ⟨i, _, rfl⟩ := hv
      have : i % 3 < 3 := Nat.mod_lt _ (by decide)
      show (#[Value.int .u8 0, .int .i64 0, .string ⟨#[]⟩][i % 3]!).oneCell' = true
      generalize i % 3 = m at this
      match m, this with
      | 0, _ => rfl
      | 1, _ => rfl
      | 2, _ => rfl
    have hst := run_storeCells_at (P := Tryz.prog) g (q * 3) 61 _ 0 cur w hg (by rw [hzl, hs]; omega) hzo
    simp only [Nat.add_zero] at hst
    generalize hX : (List.take (q * 3) cur.toList ++ (Builtin.zeroCells #[.int .u8 0, .int .i64 0, .string ⟨#[]⟩] (L.length - q)).toList ++ List.drop (q * 3 + (Builtin.zeroCells #[.int .u8 0, .int .i64 0, .string ⟨#[]⟩] (L.length - q)).toList.length) cur.toList).toArray = X at hst
    refine ⟨w.setRow g X, fun ty => ?_, ⟨?_, .inr ⟨g, c, X, ?_, hb, setRow_heap w g cur _ _ _ hg, ?_, hm, ?_, ?_⟩⟩, rfl, rfl, rfl, by simp, fun j _ hj => setRow_other w g j _ (fun e => hj (by rw [e]))⟩
    · obtain ⟨m, hm'⟩ : ∃ m, L.length - q = m + 1 := ⟨L.length - q - 1, by omega⟩
      rw [hm'] at hst ⊢
      simp only [Builtin.clear_]
      simp [run_underlying Tryz.underlying33, zeroV, Value.cells, hst]
    · rw [flat_len val_len]
    · simp [Nat.le_of_lt hq]
    · simp; omega
    · rw [← hX]; simp [hzl, hs]; omega
    · rw [← hX]; simp only [List.length_take, Nat.min_eq_left (Nat.le_of_lt hq)]
      have e1 : (L.take q).flatMap Val.cells = (L.flatMap Val.cells).take (q * 3) := by
        have := flat_len val_len (L.take q)
        conv => rhs; rw [← List.take_append_drop q L, List.flatMap_append]
        rw [List.take_left']
        rw [this]
        simp [Nat.min_eq_left (Nat.le_of_lt hq)]
      rw [e1, ← ht, List.take_take, Nat.min_eq_left (by omega)]
      simp only [List.append_assoc]
      rw [List.take_left']
      simp; omega

set_option maxRecDepth 100000 in
set_option maxHeartbeats 1000000 in
theorem compact_any (A : Option Addr) (c : Nat) (xs : List Val) (base : Nat) (w : World) (h : Own w base 61 3 Val.cells (.slice A xs.length c) xs) (hl : xs.length ≤ 1000000000) :
    Calls Tryz.prog 122 #[.slice A xs.length c] w fun e w' => ∃ A' c', e = .returned (.slice A' (compactV xs).length c') ∧ Own w' base 61 3 Val.cells (.slice A' (compactV xs).length c') (compactV xs) ∧ w.grownBy w' (Value.slice A xs.length c).ownBlock := by
  by_cases h2 : xs.length < 2
  · have hd : Hid (compactV xs = xs) := by
      show _ = _
      unfold compactV
      rw [ddTo_all xs xs.length (Nat.le_refl _) (fun j h0 hj => by omega), List.take_length]
    go_enter Tryz.func122, Tryz.ntmps122
    go_wp2
    go_ret
    exact ⟨A, c, by rw [hd.out]; rfl, by rw [hd.out]; exact h, rfl, rfl, rfl, Nat.le_refl _, fun _ _ _ => rfl⟩
  · rcases h.2 with ⟨_, h0⟩ | ⟨g, cap, cur, hv, hb, hg, hn, hm, hs, ht⟩
    · omega
    · injection hv with hA _ hc
      subst hA; subst hc
      clear hb hg hs ht cur
      unfold maxLen at hm
      have HO := Lib.hid h; clear h
      go_enter Tryz.func122, Tryz.ntmps122
      go_wp2
      go_loopw [3] (fun vk wr => ∃ (k : Nat), 0 < k ∧ k ≤ xs.length ∧ vk = .int .i64 k ∧ Hid (Keep w wr) ∧ Hid (∀ j, 0 < j → j < k → eqV (xs.getD j default) (xs.getD (j - 1) default) = false)) (fun vk _ => xs.length - (intOf vk).toNat)
      case atStart => exact ⟨1, by omega, by omega, rfl, Keep.refl _, fun j h0 hj => by omega⟩
      case round =>
        obtain ⟨k, hk0, hk, rfl, HK, HD⟩ := hrel
        have HO1 := Lib.hid (HO.out.keep HK.out)
        by_cases hlt : k < xs.length
        · obtain ⟨A1, c1, hv1, hsl⟩ := HO1.out.sl val_len (by omega)
          injection hv1 with hv1 _ hv2
          subst hv1; subst hv2
          obtain ⟨b, off, hA, hbx, c0, c1, c2⟩ := sl_val hsl k hlt
          obtain ⟨b', off', hA', hbx', d0, d1, d2⟩ := sl_val hsl (k - 1) (by omega)
          cases hA; cases hA'
          clear hsl
          simp only [Nat.zero_add] at c0 c1 c2 d0 d1 d2
          cases he : eqV xs[k] xs[k - 1]
          · unfold eqV at he
            have hw := wrap_pred hk0 (by omega)
            have hk1 : k - 1 < xs.length := by omega
            go_wp2
            first | refine Zone.wp_region_all_gro (by kernel_rfl) (by kernel_rfl) ?_ | refine Zone.wp_region_all (by kernel_rfl) (by kernel_rfl) ?_
            repeat
              refine Zone.wpZ_step (fun K hK => ?_)
              go_simp
              first
              | (refine hK _ _ ?_; clear hK K)
              | (apply Exists.intro
                 refine ⟨fun p => ?_, hK _ _ ?_⟩
                 (fail)
                 clear hK K)
            refine Zone.wpZ_nil ?_
            intro p
            simp only [Zone.fill]
            have HE := Lib.hid he
            clear hw he
            go_wp2
            go_roundw
            case rel => exact ⟨k + 1, by omega, by omega, by go_num, HK.out.gro _, fun j h0 hj => by
              by_cases e : j = k
              · subst e
                have := HE.out
                simpa [eqV, hlt, hk1] using this
              · exact HD.out j h0 (by omega)⟩
            case measure => simp [intOf]; omega
          · unfold eqV at he
            have hw := wrap_pred hk0 (by omega)
            have hk1 : k - 1 < xs.length := by omega
            have hkc : k < c := by omega
            go_wp2
            first | refine Zone.wp_region_all_gro (by kernel_rfl) (by kernel_rfl) ?_ | refine Zone.wp_region_all (by kernel_rfl) (by kernel_rfl) ?_
            repeat
              refine Zone.wpZ_step (fun K hK => ?_)
              go_simp
              first
              | (refine hK _ _ ?_; clear hK K)
              | (apply Exists.intro
                 refine ⟨fun p => ?_, hK _ _ ?_⟩
                 (fail)
                 clear hK K)
            refine Zone.wpZ_nil ?_
            intro p
            simp only [Zone.fill]
            have HE := Lib.hid he
            clear hw he
            have hdd : Hid (xs.take k = ddTo xs (k + 1)) := by
              show _ = _
              have h0 := ddTo_all xs k (by omega) HD.out
              rw [ddTo, if_neg, h0]
              intro h1
              rcases h1 with h1 | h1
              · omega
              · have h3 := HE.out
                simp only [eqV, List.getD_eq_getElem?_getD, List.getElem?_eq_getElem hlt, List.getElem?_eq_getElem hk1, Option.getD_some] at h1
                rw [h1] at h3
                cases h3
            clear HE HD c0 c1 c2 d0 d1 d2
            go_wp2
            go_loopw [3, 5] (fun vk vi wq => ∃ (q i : Nat) (L : List Val), 0 < i ∧ i ≤ xs.length - k ∧ q < k + i ∧ vk = .int .i64 q ∧ vi = .int .i64 i ∧ Hid (L.length = xs.length) ∧ Hid (Own wq base 61 3 Val.cells (.slice (some ⟨g, 0, none⟩) xs.length c) L) ∧ Hid (w.grownBy wq (some g)) ∧
              Hid (L.take q = ddTo xs (k + i)) ∧ Hid (∀ j, k + i - 1 ≤ j → L.getD j default = xs.getD j default)) (fun _ vi _ => xs.length - (intOf vi).toNat)
            case atStart => exact ⟨k, 1, xs, by omega, by omega, by omega, rfl, rfl, rfl, HO1.out.keep (below_gro _ _), ⟨HK.out.os, HK.out.tape, HK.out.output, by simp [size_gro]; have := HK.out.size; omega, fun j hj _ => (below_gro wr p).block j (Nat.lt_of_lt_of_le hj HK.out.size) |>.trans (HK.out.block j hj)⟩, hdd.out, fun j _ => rfl⟩
            case round =>
              obtain ⟨q, i, L, hi0, hi, hq, rfl, rfl, HL, HO2, HG, HT, HR⟩ := hrel
              by_cases hlt2 : i < xs.length - k
              · have hkL : k + i < L.length := by have := HL.out; omega
                have hkL1 : k + i - 1 < L.length := by omega
                have hqL : q < L.length := by omega
                have HO2' := HO2.out
                rw [← HL.out] at HO2'
                obtain ⟨A1, c1, hv1, hsl⟩ := HO2'.sl val_len (by have := HL.out; omega)
                injection hv1 with hv1 _ hv2
                subst hv1; subst hv2
                obtain ⟨b, off, hA, hbx1, c0, c1, c2⟩ := sl_val hsl (k + i) hkL
                obtain ⟨b', off', hA', _, d0, d1, d2⟩ := sl_val hsl (k + i - 1) hkL1
                obtain ⟨b'', off'', hA'', _, e0, e1, e2⟩ := sl_val hsl q hqL
                cases hA; cases hA'; cases hA''
                have hfz := own_frozen HO2'
                have g0 : L[k + i] = xs[k + i]'(by omega) := by
                  have := HR.out (k + i) (by omega)
                  simpa [hkL, show k + i < xs.length by omega] using this
                have g1 : L[k + i - 1] = xs[k + i - 1]'(by omega) := by
                  have := HR.out (k + i - 1) (by omega)
                  simpa [hkL1, show k + i - 1 < xs.length by omega] using this
                rw [g0] at c0 c1 c2
                rw [g1] at d0 d1 d2
                have f0 := hfz (q * 3)
                have f1 := hfz (q * 3 + 1)
                have f2 := hfz (q * 3 + 2)
                have hsd : ddTo xs (k + i + 1) = if k + i = 0 ∨ eqV (xs[k + i]'(by omega)) (xs[k + i - 1]'(by omega)) = false then ddTo xs (k + i) ++ [xs[k + i]'(by omega)] else ddTo xs (k + i) := by
                  rw [ddTo]
                  simp [show k + i < xs.length by omega, show k + i - 1 < xs.length by omega]
                clear hsl hfz g0 g1 HO2'
                rw [show 0 + (k + i) * 3 = k * 3 + i * 3 by omega] at c0 c1 c2
                rw [show 0 + (k + i - 1) * 3 = k * 3 + (i - 1) * 3 by omega] at d0 d1 d2
                simp only [Nat.zero_add] at e0 e1 e2
                have hw := wrap_pred hi0 (by omega)
                have hi1 : i - 1 < xs.length - k := by omega
                have hqn : q < xs.length := by omega
                cases he : eqV (xs[k + i]'(by omega)) (xs[k + i - 1]'(by omega))
                · have hs2 := hsd
                  rw [if_pos (.inr he)] at hs2
                  have HSD := Lib.hid hs2
                  clear hsd hs2
                  unfold eqV at he
                  generalize xs[k + i]'(by omega) = y at c0 c1 c2 he HSD
                  go_wp2
                  first | refine Zone.wp_region_all_gro (by kernel_rfl) (by kernel_rfl) ?_ | refine Zone.wp_region_all (by kernel_rfl) (by kernel_rfl) ?_
                  repeat
                    refine Zone.wpZ_step (fun K hK => ?_)
                    go_simp
                    first
                    | (refine hK _ _ ?_; clear hK K)
                    | (apply Exists.intro
                       refine ⟨fun p => ?_, hK _ _ ?_⟩
                       (fail)
                       clear hK K)
                  refine Zone.wpZ_nil ?_
                  intro p2
                  simp only [Zone.fill]
                  clear hw he
                  have HO3 := HO2.out.keep (below_gro wr p2)
                  rw [← HL.out] at HO3
                  obtain ⟨HO4, HG4⟩ := own_set HO3 hqL y
                  rw [HL.out] at HO4
                  have HO5 := Lib.hid HO4
                  have HG5 := Lib.hid HG4
                  clear HO3 HO4 HG4
                  go_wp2
                  go_roundw
                  case rel => exact ⟨q + 1, i + 1, L.set q y, by omega, by omega, by omega, by go_num, by go_num, (by show _ = _; simp [HL.out]), HO5.out, grownBy_trans (grownBy_trans HG.out (grownBy_keep (below_gro wr p2))) HG5.out,
                    (by show _ = _; rw [take_set_succ _ _ _ hqL, HT.out, ← Nat.add_assoc, HSD.out]), fun j hj => by
                      have := HR.out j (by omega)
                      rw [← this]
                      simp only [List.getD_eq_getElem?_getD]
                      rw [List.getElem?_set_ne (by omega)]⟩
                  case measure => simp [intOf]; omega
                · have hs2 := hsd
                  rw [if_neg (by simp [he]; omega)] at hs2
                  have HSD := Lib.hid hs2
                  clear hsd hs2
                  unfold eqV at he
                  go_wp2
                  first | refine Zone.wp_region_all_gro (by kernel_rfl) (by kernel_rfl) ?_ | refine Zone.wp_region_all (by kernel_rfl) (by kernel_rfl) ?_
                  repeat
                    refine Zone.wpZ_step (fun K hK => ?_)
                    go_simp
                    first
                    | (refine hK _ _ ?_; clear hK K)
                    | (apply Exists.intro
                       refine ⟨fun p => ?_, hK _ _ ?_⟩
                       (fail)
                       clear hK K)
                  refine Zone.wpZ_nil ?_
                  intro p2
                  simp only [Zone.fill]
                  clear hw he
                  go_wp2
                  go_roundw
                  case rel => exact ⟨q, i + 1, L, by omega, by omega, by omega, rfl, by go_num, HL.out, HO2.out.keep (below_gro wr p2), grownBy_trans HG.out (grownBy_keep (below_gro wr p2)),
                    (by show _ = _; rw [HT.out, ← Nat.add_assoc, HSD.out]), fun j hj => HR.out j (by omega)⟩
                  case measure => simp [intOf]; omega
              · have hil : k + i = xs.length := by omega
                have hqn : q < xs.length := by omega
                have hqc : q < c := by omega
                have hcv : Hid (L.take q = compactV xs) := by
                  show _ = _
                  rw [HT.out, hil]
                  rfl
                obtain ⟨w9, hrun, HO9, HG9⟩ := own_clear HL.out.symm HO2.out hqn
                have HO8 := Lib.hid HO9
                have HG8 := Lib.hid HG9
                have hql : Hid (q = (compactV xs).length) := by
                  show _ = _
                  rw [← hcv.out, List.length_take, HL.out]
                  omega
                clear hil HO9 HG9
                go_wp2
                go_ret
                refine ⟨some ⟨g, 0, none⟩, c, by rw [← hql.out]; rfl, ?_, grownBy_trans HG.out HG8.out⟩
                rw [← hql.out, ← hcv.out]
                exact HO8.out
        · go_wp2
          go_ret
          have hd : compactV xs = xs := by
            unfold compactV
            rw [ddTo_all xs xs.length (Nat.le_refl _) (fun j h0 hj => HD.out j h0 (by omega)), List.take_length]
          exact ⟨some ⟨g, 0, none⟩, c, by rw [hd]; rfl, by rw [hd]; exact HO1.out, HK.out.os, HK.out.tape, HK.out.output, HK.out.size, fun j hj _ => HK.out.block j hj⟩
end Go.Proofs.YtmcaednlilhnoaaGreatDoor
