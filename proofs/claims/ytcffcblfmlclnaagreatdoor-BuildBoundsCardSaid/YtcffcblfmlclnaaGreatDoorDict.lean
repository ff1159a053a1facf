
/- The contract of dict.Of. -/
import Derived.WalkKit
import Derived.Lib.Hide
import Derived.WalkSpells
import Derived.WalkLawsBesides
import Derived.BigQuiet
import Derived.Shelf.Abstract
import Derived.Test.YtcffcblfmlclnaaGreatDoorCompact
namespace Go.Proofs.YtcffcblfmlclnaaGreatDoor
open Go.RowKit Go.Zone Go.Shelf
attribute [local go_sem] Zone.zone Zone.stepZ Zone.fill Zone.lookFs Zone.goes Zone.goesUpon Zone.dropFs Zone.cell_gro Zone.frozen_gro Zone.size_gro Zone.lt_add Zone.drew_gro Zone.tape_gro Zone.keep_refl
/-- A dictionary in memory. -/
structure DictAt (w : World) (b : Nat) (kind : Int) (A : Option Addr) (c : Nat) (xs : List Val) : Prop where
  k : w.cell? ⟨b, 0, none⟩ = some (.int .u8 kind)
  l : w.cell? ⟨b, 1, none⟩ = some (.slice A xs.length c)
  sl : Sl w 3 Val.cells A c xs
theorem DictAt.keep {w w' : World} {b : Nat} {kind : Int} {A : Option Addr} {c : Nat} {xs : List Val} (h : DictAt w b kind A c xs) (hk : Keep w w') : DictAt w' b kind A c xs :=
  ⟨(Below.cell hk (p := ⟨b, 0, none⟩) (World.block_lt_of_cell? w _ h.k)).trans h.k, (Below.cell hk (p := ⟨b, 1, none⟩) (World.block_lt_of_cell? w _ h.l)).trans h.l, h.sl.keep hk⟩
theorem DictAt.lt {w : World} {b : Nat} {kind : Int} {A : Option Addr} {c : Nat} {xs : List Val} (h : DictAt w b kind A c xs) : b < w.heap.size := World.block_lt_of_cell? w _ h.k

def badKind (kind : Int) : Bool := !(kind == 1 || kind == 2)
def dOwn (xs : List Val) : List Val := compactV (sortV xs)
def dErr (kind : Int) (xs : List Val) : Int := if badKind kind then 2 else if xs.any noMay then 2 else if (dOwn xs).any (fun x => x.k != kind) then 9 else 0
def DictRes (w : World) (v : Value) (kind : Int) (ys : List Val) (err : Int) : Prop := (err ≠ 0 ∧ v = .pointer none) ∨ (err = 0 ∧ ∃ b A c, v = .pointer (some ⟨b, 0, none⟩) ∧ DictAt w b kind A c ys)
def DictNew (base : Nat) (w : World) (v : Value) (kind : Int) (ys : List Val) (err : Int) : Prop := (err ≠ 0 ∧ v = .pointer none) ∨ (err = 0 ∧ ∃ b A c, v = .pointer (some ⟨b, 0, none⟩) ∧ DictAt w b kind A c ys ∧ base ≤ b ∧ Fresh base A ys.length)
theorem sortV_len (xs : List Val) : (sortV xs).length = xs.length := List.length_mergeSort _
theorem dOwn_len (xs : List Val) : (dOwn xs).length ≤ xs.length := by
  have := ddTo_len (sortV xs) (sortV xs).length
  rw [sortV_len] at this
  exact sortV_len xs ▸ this

set_option maxRecDepth 100000 in
set_option maxHeartbeats 2000000 in
theorem of_new (kind : Int) (A : Option Addr) (c : Nat) (xs : List Val) (w : World) (h : Sl w 3 Val.cells A c xs) (hl : xs.length ≤ 1000000) :
    Calls Tryz.prog 44 #[.int .u8 kind, .slice A xs.length c] w fun e w' => ∃ v, e = .returned (.tuple #[v, .int .i64 (dErr kind xs)]) ∧ DictNew w.heap.size w' v kind (dOwn xs) (dErr kind xs) ∧ Keep w w' := by
  have hkind := fun W => isKind_any kind W
  generalize hD : dOwn xs = ys
  have HD := Lib.hid hD; clear hD
  generalize hR : dErr kind xs = R
  have HR := Lib.hid hR; clear hR
  cases hb : (kind == 1 || kind == 2)
  · have hr : R = 2 := by rw [← HR.out]; unfold dErr badKind; rw [hb]; rfl
    rw [hb] at hkind
    have HK := Lib.hid hkind; clear hkind
    subst hr
    go_enter Tryz.func44, Tryz.ntmps44
    go_wp2_with (go_at_call 80; refine (HK.out _).mono ?_; rintro e w' ⟨rfl, rfl⟩)
    go_ret2
    exact ⟨_, rfl, .inl ⟨by decide, rfl⟩, (by repeat (first | exact Keep.refl _ | apply Keep.alloc | apply Keep.gro | apply Keep.drew | apply Keep.drewN))⟩
  · rw [hb] at hkind
    have HK := Lib.hid hkind; clear hkind
    have hcon := fun W (hW : Keep w W) => containsFunc_any A c xs 82 #[] noMay W (enters_of Tryz.func82 (by kernel_rfl) rfl) (h.keep hW) (fun W' x _ => of1_any x W')
    cases hm : xs.any noMay
    · rw [hm] at hcon
      have HC := Lib.hid hcon; clear hcon
      have hr : R = if (dOwn xs).any (fun x => x.k != kind) then 9 else 0 := by rw [← HR.out]; unfold dErr badKind; rw [hb, hm]; rfl
      have HR2 := Lib.hid hr; clear hr
      have HH := Lib.hid h; clear h
      go_enter Tryz.func44, Tryz.ntmps44
      go_wp2_with (first | (go_at_call 80; refine (HK.out _).mono ?_; rintro e w' ⟨rfl, rfl⟩) | (go_at_call 81; refine (HC.out _ (by repeat (first | exact Keep.refl _ | apply Keep.alloc | apply Keep.gro | apply Keep.drew | apply Keep.drewN))).mono ?_; rintro e w' ⟨rfl, hk⟩; obtain ⟨p, rfl⟩ := Zone.gro_of_below _ hk; clear hk) | (go_at_call 83; refine Zone.hold ?_))
      refine Zone.unhold ?_
      refine (clone_any A c xs _ (HH.out.keep (by repeat (first | exact Keep.refl _ | apply Keep.alloc | apply Keep.gro | apply Keep.drew | apply Keep.drewN))) (by omega)).mono ?_
      rintro e w1 ⟨A1, c1, rfl, hown1, hk1⟩
      have hown0 := hown1.base_mono (base' := w.heap.size + 1) (by simp [size_gro])
      have hw1 : Keep (w.alloc (.cells #[.int .u8 kind] 5)) w1 := Keep.trans (Keep.gro (Keep.refl _) p) hk1
      have HO1 := Lib.hid hown0
      have HW1 := Lib.hid hw1
      clear hown0 hw1 hown1 hk1
      go_wp2_with (go_at_call 84; refine Zone.hold ?_)
      refine Zone.unhold ?_
      refine (sort_any A1 c1 xs _ _ HO1.out (by omega)).mono ?_
      rintro e w2 ⟨rfl, hown2, hg2⟩
      have HW2 := Lib.hid (HO1.out.after hg2 HW1.out (by simp)).1
      have HO2 := Lib.hid hown2
      clear hown2 hg2
      rw [← sortV_len xs] at HO2
      go_wp2_with (go_at_call 85; refine Zone.hold ?_)
      refine Zone.unhold ?_
      have h9 := compact_any A1 c1 (sortV xs) _ _ HO2.out (by rw [sortV_len]; omega)
      rw [sortV_len] at h9
      refine h9.mono ?_
      clear h9
      rintro e w3 ⟨A3, c3, rfl, hown3, hg3⟩
      have hg3' : w2.grownBy w3 (Value.slice A1 (sortV xs).length c1).ownBlock := by rw [sortV_len]; exact hg3
      have HW3 := Lib.hid (HO2.out.after hg3' HW2.out (by simp)).1
      have hdl : (compactV (sortV xs)).length ≤ 1000000 := Nat.le_trans (dOwn_len xs) hl
      obtain ⟨A4, c4, hv4, hsl⟩ := hown3.sl val_len (by omega)
      injection hv4 with hv4 _ hv5
      subst hv4; subst hv5
      have hbox : w3.cell? ⟨w.heap.size, 0, none⟩ = some (.int .u8 kind) := by rw [HW3.out.cell (p := ⟨w.heap.size, 0, none⟩) (by simp)]; simp [go_sem]
      have hsz : w.heap.size < w3.heap.size := by have := HW3.out.size; simp at this; omega
      have HSL := Lib.hid hsl
      have HFR := Lib.hid (fresh_own (base := w.heap.size) (m := ys.length) hown3 (by omega))
      clear hsl hown3 hg3 hg3' HO1 HO2 HW1 HW2 HC HK HH
      have hcon := fun W (hW : Keep w3 W) => containsFunc_any A3 c3 (compactV (sortV xs)) 86 #[.pointer (some ⟨w.heap.size, 0, none⟩)] (fun x => x.k != kind) W (enters_of Tryz.func86 (by kernel_rfl) rfl) (HSL.out.keep hW) (fun W' x hW' => of2_any x kind w.heap.size W' (by
        rw [(hW.trans hW').cell (p := ⟨w.heap.size, 0, none⟩) hsz]; exact hbox) (by have := (hW.trans hW').size; omega))
      have hkw : Hid (Keep w w3) := Keep.trans (Keep.alloc (Keep.refl w) _) HW3.out
      have HR3 : Hid (R = if (compactV (sortV xs)).any (fun x => x.k != kind) then 9 else 0) := HR2.out
      clear HR2 HR HW3
      have hD' : compactV (sortV xs) = ys := HD.out
      rw [hD'] at hdl HSL HR3 hcon ⊢
      clear hD'
      cases hq : ys.any (fun x => x.k != kind)
      · rw [hq] at hcon HR3
        have HC := Lib.hid hcon; clear hcon
        go_wp2_with (go_at_call 81; refine (HC.out _ (Keep.refl _)).mono ?_; rintro e w' ⟨rfl, hk⟩; obtain ⟨p2, rfl⟩ := Zone.gro_of_below _ hk; clear hk)
        go_ret2
        have hr0 : R = 0 := HR3.out
        subst hr0
        refine ⟨_, rfl, .inr ⟨rfl, _, A3, c3, rfl, ⟨?_, ?_, (HSL.out.keep (below_gro _ _)).keep (Keep.alloc (Keep.refl _) _)⟩, by omega, HFR.out⟩, (hkw.out.gro _).alloc _⟩
        · simp [go_sem]
        · simp [go_sem]
      · rw [hq] at hcon HR3
        have HC := Lib.hid hcon; clear hcon
        go_wp2_with (go_at_call 81; refine (HC.out _ (Keep.refl _)).mono ?_; rintro e w' ⟨rfl, hk⟩; obtain ⟨p2, rfl⟩ := Zone.gro_of_below _ hk; clear hk)
        go_ret2
        have hr9 : R = 9 := HR3.out
        subst hr9
        exact ⟨_, rfl, .inl ⟨by decide, rfl⟩, hkw.out.gro _⟩
    · rw [hm] at hcon
      have HC := Lib.hid hcon; clear hcon
      have hr : R = 2 := by rw [← HR.out]; unfold dErr badKind; rw [hb, hm]; rfl
      subst hr
      clear h
      go_enter Tryz.func44, Tryz.ntmps44
      go_wp2_with (first | (go_at_call 80; refine (HK.out _).mono ?_; rintro e w' ⟨rfl, rfl⟩) | (go_at_call 81; refine (HC.out _ (by repeat (first | exact Keep.refl _ | apply Keep.alloc | apply Keep.gro | apply Keep.drew | apply Keep.drewN))).mono ?_; rintro e w' ⟨rfl, hk⟩; obtain ⟨p, rfl⟩ := Zone.gro_of_below _ hk; clear hk))
      go_ret2
      exact ⟨_, rfl, .inl ⟨by decide, rfl⟩, (by repeat (first | exact Keep.refl _ | apply Keep.alloc | apply Keep.gro | apply Keep.drew | apply Keep.drewN))⟩
theorem of_any (kind : Int) (A : Option Addr) (c : Nat) (xs : List Val) (w : World) (h : Sl w 3 Val.cells A c xs) (hl : xs.length ≤ 1000000) :
    Calls Tryz.prog 44 #[.int .u8 kind, .slice A xs.length c] w fun e w' => ∃ v, e = .returned (.tuple #[v, .int .i64 (dErr kind xs)]) ∧ DictRes w' v kind (dOwn xs) (dErr kind xs) ∧ Keep w w' := by
  refine (of_new kind A c xs w h hl).mono ?_
  rintro e w' ⟨v, he, hr, hk⟩
  refine ⟨v, he, ?_, hk⟩
  rcases hr with h | ⟨h, b, A1, c1, h1, h2, _, _⟩
  · exact .inl h
  · exact .inr ⟨h, b, A1, c1, h1, h2⟩
end Go.Proofs.YtcffcblfmlclnaaGreatDoor
