
/- The contract of dict.Of. -/
import Derived.WalkKit
import Derived.Lib.Hide
import Derived.WalkSpells
import Derived.WalkLawsBesides
import Derived.BigQuiet
import Derived.Shelf.Abstract
import Derived.Test.YtmcaednlilhnoaaGreatDoorJf
import Derived.Test.YtmcaednlilhnoaaGreatDoorJc
namespace Go.Proofs.YtmcaednlilhnoaaGreatDoor
open Go.RowKit Go.Zone Go.Shelf
attribute [local go_sem] Zone.zone Zone.stepZ Zone.fill Zone.lookFs Zone.goes Zone.goesUpon Zone.dropFs Zone.cell_gro Zone.frozen_gro Zone.size_gro Zone.lt_add Zone.drew_gro Zone.tape_gro Zone.keep_refl
/-- A dictionary in memory. -/
structure DictAt (w : World) (b : Nat) (kind : Int) (A : Option Addr) (c : Nat) (xs : List Val) : Prop where
  k : w.cell? ⟨b, 0, none⟩ = some (.int .u8 kind)
  l : w.cell? ⟨b, 1, none⟩ = some (.slice A xs.length c)
  sl : Sl w 3 Val.cells A c xs
theorem DictAt.keep {w w' : World} {b : Nat} {kind : Int} {A : Option Addr} {c : Nat} {xs : List Val} (h : DictAt w b kind A c xs) (hk : Keep w w') : DictAt w' b kind A c xs :=
  ⟨(Below.cell hk (p := ⟨b, 0, none⟩) (World.block_lt_of_cell? w _ h.k)).trans h.k, (Below.cell hk (p := ⟨b, 1, none⟩) (World.block_lt_of_cell? w _ h.l)).trans h.l, h.sl.keep hk⟩
theorem DictAt.lt {w : World} {b : Nat} {kind : Int} {A : Option Addr} {c : Nat} {xs : List Val} (h : DictAt w b kind A c xs) : b < w.heap.size := World.block_lt_of_cell? w _ h.k

def badKind (kind : Int) : Bool := !(kind == 1 || kind == 2)
def dOwn (xs : List Val) : List Val := compactV (sortV xs)
def dErr (kind : Int) (xs : List Val) : Int := if badKind kind then 2 else if xs.any noMay then 2 else if (dOwn xs).any (fun x => x.k != kind) then 9 else 0
def DictRes (w : World) (v : Value) (kind : Int) (ys : List Val) (err : Int) : Prop := (err ≠ 0 ∧ v = .pointer none) ∨ (err = 0 ∧ ∃ b A c, v = .pointer (some ⟨b, 0, none⟩) ∧ DictAt w b kind A c ys)
def DictNew (base : Nat) (w : World) (v : Value) (kind : Int) (ys : List Val) (err : Int) : Prop := (err ≠ 0 ∧ v = .pointer none) ∨ (err = 0 ∧ ∃ b A c, v = .pointer (some ⟨b, 0, none⟩) ∧ DictAt w b kind A c ys ∧ base ≤ b ∧ Fresh base A ys.length)
theorem sortV_len (xs : List Val) : (sortV xs).length = xs.length := List.length_mergeSort _
theorem dOwn_len (xs : List Val) : (dOwn xs).length ≤ xs.length := by
  have := ddTo_len (sortV xs) (sortV xs).length
  rw [sortV_len] at this
  exact sortV_len xs ▸ this

set_option maxRecDepth 100000 in
set_option maxHeartbeats 2000000 in
theorem of_new (kind : Int) (A : Option Addr) (c : Nat) (xs : List Val) (w : World) (h : Sl w 3 Val.cells A c xs) (hl : xs.length ≤ 1000000) :
    Calls Tryz.prog 66 #[.int .u8 kind, .slice A xs.length c] w fun e w' => ∃ v, e = .returned (.tuple #[v, .int .i64 (dErr kind xs)]) ∧ DictNew w.heap.size w' v kind (dOwn xs) (dErr kind xs) ∧ Keep w w' := by
  have hkind := fun W => isKind_any kind W
  generalize hD : dOwn xs = ys
  have HD := Lib.hid hD; clear hD
  generalize hR : dErr kind xs = R
  have HR := Lib.hid hR; clear hR
  cases hb : (kind == 1 || kind == 2)
  · have hr : R = 2 := by rw [← HR.out]; unfold dErr badKind; rw [hb]; rfl
    rw [hb] at hkind
    have HK := Lib.hid hkind; clear hkind
    subst hr
    go_enter Tryz.func66, Tryz.ntmps66
    go_wp2_with (go_at_call 117; refine (HK.out _).mono ?_; rintro e w' ⟨rfl, rfl⟩)
    go_ret2
    exact ⟨_, rfl, .inl ⟨by decide, rfl⟩, (by repeat (first | exact Keep.refl _ | apply Keep.alloc | apply Keep.gro | apply Keep.drew | apply Keep.drewN))⟩
  · rw [hb] at hkind
    have HK := Lib.hid hkind; clear hkind
    have hcon := fun W (hW : Keep w W) => containsFunc_any A c xs 119 #[] noMay W (enters_of Tryz.func119 (by kernel_rfl) rfl) (h.keep hW) (fun W' x _ => of1_any x W')
    cases hm : xs.any noMay
    · rw [hm] at hcon
      have HC := Lib.hid hcon; clear hcon
      have hr : R = if (dOwn xs).any (fun x => x.k != kind) then 9 else 0 := by rw [← HR.out]; unfold dErr badKind; rw [hb, hm]; rfl
      have HR2 := Lib.hid hr; clear hr
      have HH := Lib.hid h; clear h
      go_enter Tryz.func66, Tryz.ntmps66
      go_wp2_with (first | (go_at_call 117; refine (HK.out _).mono ?_; rintro e w' ⟨rfl, rfl⟩) | (go_at_call 118; refine (HC.out _ (by repeat (first | exact Keep.refl _ | apply Keep.alloc | apply Keep.gro | apply Keep.drew | apply Keep.drewN))).mono ?_; rintro e w' ⟨rfl, hk⟩; obtain ⟨p, rfl⟩ := Zone.gro_of_below _ hk; clear hk) | (go_at_call 120; refine Zone.hold ?_))
      refine Zone.unhold ?_
      refine (clone_any A c xs _ (HH.out.keep (by repeat (first | exact Keep.refl _ | apply Keep.alloc | apply Keep.gro | apply Keep.drew | apply Keep.drewN))) (by omega)).mono ?_
      rintro e w1 ⟨A1, c1, rfl, hown1, hk1⟩
      have hown0 := hown1.base_mono (base' := w.heap.size + 1) (by simp [size_gro])
      have hw1 : Keep (w.alloc (.cells #[.int .u8 kind] 5)) w1 := Keep.trans (Keep.gro (Keep.refl _) p) hk1
      have HO1 := Lib.hid hown0
      have HW1 := Lib.hid hw1
      clear hown0 hw1 hown1 hk1
      go_wp2_with (go_at_call 121; refine Zone.hold ?_)
      refine Zone.unhold ?_
      refine (sort_any A1 c1 xs _ _ HO1.out (by omega)).mono ?_
      rintro e w2 ⟨rfl, hown2, hg2⟩
      have HW2 := Lib.hid (HO1.out.after hg2 HW1.out (by simp)).1
      have HO2 := Lib.hid hown2
      clear hown2 hg2
      rw [← sortV_len xs] at HO2
      go_wp2_with (go_at_call 122; refine Zone.hold ?_)
      refine Zone.unhold ?_
      have h9 := compact_any A1 c1 (sortV xs) _ _ HO2.out (by rw [sortV_len]; omega)
      rw [sortV_len] at h9
      refine h9.mono ?_
      clear h9
      rintro e w3 ⟨A3, c3, rfl, hown3, hg3⟩
      have hg3' : w2.grownBy w3 (Value.slice A1 (sortV xs).length c1).ownBlock := by rw [sortV_len]; exact hg3
      have HW3 := Lib.hid (HO2.out.after hg3' HW2.out (by simp)).1
      have hdl : (compactV (sortV xs)).length ≤ 1000000 := Nat.le_trans (dOwn_len xs) hl
      obtain ⟨A4, c4, hv4, hsl⟩ := hown3.sl val_len (by omega)
      injection hv4 with hv4 _ hv5
      subst hv4; subst hv5
      have hbox : w3.cell? ⟨w.heap.size, 0, none⟩ = some (.int .u8 kind) := by rw [HW3.out.cell (p := ⟨w.heap.size, 0, none⟩) (by simp)]; simp [go_sem]
      have hsz : w.heap.size < w3.heap.size := by have := HW3.out.size; simp at this; omega
      have HSL := Lib.hid hsl
      have HFR := Lib.hid (fresh_own (base := w.heap.size) (m := ys.length) hown3 (by omega))
      clear hsl hown3 hg3 hg3' HO1 HO2 HW1 HW2 HC HK HH
      have hcon := fun W (hW : Keep w3 W) => containsFunc_any A3 c3 (compactV (sortV xs)) 123 #[.pointer (some ⟨w.heap.size, 0, none⟩)] (fun x => x.k != kind) W (enters_of Tryz.func123 (by kernel_rfl) rfl) (HSL.out.keep hW) (fun W' x hW' => of2_any x kind w.heap.size W' (by
        rw [(hW.trans hW').cell (p := ⟨w.heap.size, 0, none⟩) hsz]; exact hbox) (by have := (hW.trans hW').size; omega))
      have hkw : Hid (Keep w w3) := Keep.trans (Keep.alloc (Keep.refl w) _) HW3.out
      have HR3 : Hid (R = if (compactV (sortV xs)).any (fun x => x.k != kind) then 9 else 0) := HR2.out
      clear HR2 HR HW3
      have hD' : compactV (sortV xs) = ys := HD.out
      rw [hD'] at hdl HSL HR3 hcon ⊢
      clear hD'
      cases hq : ys.any (fun x => x.k != kind)
      · rw [hq] at hcon HR3
        have HC := Lib.hid hcon; clear hcon
        go_wp2_with (go_at_call 118; refine (HC.out _ (Keep.refl _)).mono ?_; rintro e w' ⟨rfl, hk⟩; obtain ⟨p2, rfl⟩ := Zone.gro_of_below _ hk; clear hk)
        go_ret2
        have hr0 : R = 0 := HR3.out
        subst hr0
        refine ⟨_, rfl, .inr ⟨rfl, _, A3, c3, rfl, ⟨?_, ?_, (HSL.out.keep (below_gro _ _)).keep (Keep.alloc (Keep.refl _) _)⟩, by omega, HFR.out⟩, (hkw.out.gro _).alloc _⟩
        · simp [go_sem]
        · simp [go_sem]
      · rw [hq] at hcon HR3
        have HC := Lib.hid hcon; clear hcon
        go_wp2_with (go_at_call 118; refine (HC.out _ (Keep.refl _)).mono ?_; rintro e w' ⟨rfl, hk⟩; obtain ⟨p2, rfl⟩ := Zone.gro_of_below _ hk; clear hk)
        go_ret2
        have hr9 : R = 9 := HR3.out
        subst hr9
        exact ⟨_, rfl, .inl ⟨by decide, rfl⟩, hkw.out.gro _⟩
    · rw [hm] at hcon
      have HC := Lib.hid hcon; clear hcon
      have hr : R = 2 := by rw [← HR.out]; unfold dErr badKind; rw [hb, hm]; rfl
      subst hr
      clear h
      go_enter Tryz.func66, Tryz.ntmps66
      go_wp2_with (first | (go_at_call 117; refine (HK.out _).mono ?_; rintro e w' ⟨rfl, rfl⟩) | (go_at_call 118; refine (HC.out _ (by repeat (first | exact Keep.refl _ | apply Keep.alloc | apply Keep.gro | apply Keep.drew | apply Keep.drewN))).mono ?_; rintro e w' ⟨rfl, hk⟩; obtain ⟨p, rfl⟩ := Zone.gro_of_below _ hk; clear hk))
      go_ret2
      exact ⟨_, rfl, .inl ⟨by decide, rfl⟩, (by repeat (first | exact Keep.refl _ | apply Keep.alloc | apply Keep.gro | apply Keep.drew | apply Keep.drewN))⟩
theorem of_any (kind : Int) (A : Option Addr) (c : Nat) (xs : List Val) (w : World) (h : Sl w 3 Val.cells A c xs) (hl : xs.length ≤ 1000000) :
    Calls Tryz.prog 66 #[.int .u8 kind, .slice A xs.length c] w fun e w' => ∃ v, e = .returned (.tuple #[v, .int .i64 (dErr kind xs)]) ∧ DictRes w' v kind (dOwn xs) (dErr kind xs) ∧ Keep w w' := by
  refine (of_new kind A c xs w h hl).mono ?_
  rintro e w' ⟨v, he, hr, hk⟩
  refine ⟨v, he, ?_, hk⟩
  rcases hr with h | ⟨h, b, A1, c1, h1, h2, _, _⟩
  · exact .inl h
  · exact .inr ⟨h, b, A1, c1, h1, h2⟩
end Go.Proofs.YtmcaednlilhnoaaGreatDoor
namespace Go.Proofs.YtmcaednlilhnoaaGreatDoor
open Go.RowKit Go.Zone Go.Shelf
attribute [local go_sem] Zone.zone Zone.stepZ Zone.fill Zone.lookFs Zone.goes Zone.goesUpon Zone.dropFs Zone.cell_gro Zone.frozen_gro Zone.size_gro Zone.lt_add Zone.drew_gro Zone.tape_gro Zone.keep_refl
section
variable {b : Nat} {kind : Int} {A : Option Addr} {c : Nat} {xs : List Val}
theorem none_nil (w : World) : Calls Tryz.prog 32 #[.pointer none] w fun e w' => e = .returned (.bool true) ∧ w = w' := by
  go_enter Tryz.func32, Tryz.ntmps32
  go_wp2
  go_ret
  exact ⟨rfl, rfl⟩
theorem none_at (w : World) (h : DictAt w b kind A c xs) : Calls Tryz.prog 32 #[.pointer (some ⟨b, 0, none⟩)] w fun e w' => e = .returned (.bool (kind == 0)) ∧ w = w' := by
  have h0 := h.k
  clear h
  go_enter Tryz.func32, Tryz.ntmps32
  go_wp2
  go_ret
  exact ⟨rfl, rfl⟩
theorem len_nil (w : World) : Calls Tryz.prog 69 #[.pointer none] w fun e w' => e = .returned (.int .i64 0) ∧ w = w' := by
  go_enter Tryz.func69, Tryz.ntmps69
  go_wp2_with (go_at_call 32; refine (none_nil _).mono ?_; rintro e w' ⟨rfl, rfl⟩)
  go_ret
  exact ⟨rfl, rfl⟩
theorem len_at (w : World) (h : DictAt w b kind A c xs) : Calls Tryz.prog 69 #[.pointer (some ⟨b, 0, none⟩)] w fun e w' => e = .returned (.int .i64 (if kind = 0 then 0 else xs.length)) ∧ w = w' := by
  have h1 := h.l
  have hn := none_at w h
  clear h
  by_cases hk : kind = 0
  · rw [if_pos hk]
    rw [show (kind == 0) = true by simp [hk]] at hn
    have HN := Lib.hid hn
    clear hn hk
    go_enter Tryz.func69, Tryz.ntmps69
    go_wp2_with (go_at_call 32; refine (HN.out).mono ?_; rintro e w' ⟨rfl, rfl⟩)
    go_ret
    exact ⟨rfl, rfl⟩
  · rw [if_neg hk]
    rw [show (kind == 0) = false by simp [hk]] at hn
    have HN := Lib.hid hn
    clear hn hk
    go_enter Tryz.func69, Tryz.ntmps69
    go_wp2_with (go_at_call 32; refine (HN.out).mono ?_; rintro e w' ⟨rfl, rfl⟩)
    go_ret
    exact ⟨rfl, rfl⟩
theorem kind_nil (w : World) : Calls Tryz.prog 95 #[.pointer none] w fun e w' => e = .returned (.int .u8 0) ∧ w = w' := by
  go_enter Tryz.func95, Tryz.ntmps95
  go_wp2_with (go_at_call 32; refine (none_nil _).mono ?_; rintro e w' ⟨rfl, rfl⟩)
  go_ret
  exact ⟨rfl, rfl⟩
theorem kind_at (w : World) (h : DictAt w b kind A c xs) : Calls Tryz.prog 95 #[.pointer (some ⟨b, 0, none⟩)] w fun e w' => e = .returned (.int .u8 kind) ∧ w = w' := by
  have h1 := h.k
  have hn := none_at w h
  clear h
  by_cases hk : kind = 0
  · subst hk
    have HN := Lib.hid hn
    clear hn
    go_enter Tryz.func95, Tryz.ntmps95
    go_wp2_with (go_at_call 32; refine (HN.out).mono ?_; rintro e w' ⟨rfl, rfl⟩)
    go_ret
    exact ⟨rfl, rfl⟩
  · rw [show (kind == 0) = false by simp [hk]] at hn
    have HN := Lib.hid hn
    clear hn hk
    go_enter Tryz.func95, Tryz.ntmps95
    go_wp2_with (go_at_call 32; refine (HN.out).mono ?_; rintro e w' ⟨rfl, rfl⟩)
    go_ret
    exact ⟨rfl, rfl⟩
def zeroVal : Val := ⟨0, 0, ⟨#[]⟩⟩
theorem value_nil (id : Int) (w : World) : Calls Tryz.prog 20 #[.pointer none, .int .i64 id] w fun e w' => e = .returned (.tuple #[zeroVal.v, .int .i64 1]) ∧ Keep w w' := by
  go_enter Tryz.func20, Tryz.ntmps20
  go_wp2_with (go_at_call 32; refine (none_nil _).mono ?_; rintro e w' ⟨rfl, rfl⟩)
  exact bodyPost_ret (v := .tuple #[zeroVal.v, .int .i64 1]) (by simp [results, Tryz.results20, go_sem, zeroVal]) rfl ⟨rfl, (by repeat (first | exact Keep.refl _ | apply Keep.alloc | apply Keep.gro | apply Keep.drew | apply Keep.drewN))⟩
theorem value_zero (id : Int) (w : World) (h : DictAt w b 0 A c xs) : Calls Tryz.prog 20 #[.pointer (some ⟨b, 0, none⟩), .int .i64 id] w fun e w' => e = .returned (.tuple #[zeroVal.v, .int .i64 1]) ∧ Keep w w' := by
  have HN := Lib.hid (fun W (hW : Keep w W) => none_at W (h.keep hW))
  clear h
  go_enter Tryz.func20, Tryz.ntmps20
  go_wp2_with (go_at_call 32; refine (HN.out _ (by repeat (first | exact Keep.refl _ | apply Keep.alloc | apply Keep.gro | apply Keep.drew | apply Keep.drewN))).mono ?_; rintro e w' ⟨rfl, rfl⟩)
  exact bodyPost_ret (v := .tuple #[zeroVal.v, .int .i64 1]) (by simp [results, Tryz.results20, go_sem, zeroVal]) rfl ⟨rfl, (by repeat (first | exact Keep.refl _ | apply Keep.alloc | apply Keep.gro | apply Keep.drew | apply Keep.drewN))⟩
set_option maxHeartbeats 1000000 in
theorem value_out (id : Int) (w : World) (h : DictAt w b kind A c xs) (hk : kind ≠ 0) (hi : id < 0 ∨ (xs.length : Int) ≤ id) : Calls Tryz.prog 20 #[.pointer (some ⟨b, 0, none⟩), .int .i64 id] w fun e w' => e = .returned (.tuple #[zeroVal.v, .int .i64 7]) ∧ Keep w w' := by
  have HN := Lib.hid (fun W (hW : Keep w W) => by have := none_at W (h.keep hW); rw [show (kind == 0) = false by simp [hk]] at this; exact this)
  have h1 := h.l
  have hb := h.lt
  clear h
  by_cases hi0 : id < 0
  · go_enter Tryz.func20, Tryz.ntmps20
    go_wp2_with (go_at_call 32; refine (HN.out _ (by repeat (first | exact Keep.refl _ | apply Keep.alloc | apply Keep.gro | apply Keep.drew | apply Keep.drewN))).mono ?_; rintro e w' ⟨rfl, rfl⟩)
    exact bodyPost_ret (v := .tuple #[zeroVal.v, .int .i64 7]) (by simp [results, Tryz.results20, go_sem, zeroVal]) rfl ⟨rfl, (by repeat (first | exact Keep.refl _ | apply Keep.alloc | apply Keep.gro | apply Keep.drew | apply Keep.drewN))⟩
  · have hi1 : (xs.length : Int) ≤ id := by omega
    clear hi
    go_enter Tryz.func20, Tryz.ntmps20
    go_wp2_with (go_at_call 32; refine (HN.out _ (by repeat (first | exact Keep.refl _ | apply Keep.alloc | apply Keep.gro | apply Keep.drew | apply Keep.drewN))).mono ?_; rintro e w' ⟨rfl, rfl⟩)
    exact bodyPost_ret (v := .tuple #[zeroVal.v, .int .i64 7]) (by simp [results, Tryz.results20, go_sem, zeroVal]) rfl ⟨rfl, (by repeat (first | exact Keep.refl _ | apply Keep.alloc | apply Keep.gro | apply Keep.drew | apply Keep.drewN))⟩
set_option maxHeartbeats 1000000 in
theorem value_at (i : Nat) (w : World) (h : DictAt w b kind A c xs) (hk : kind ≠ 0) (hi : i < xs.length) : Calls Tryz.prog 20 #[.pointer (some ⟨b, 0, none⟩), .int .i64 i] w fun e w' => e = .returned (.tuple #[xs[i].v, .int .i64 0]) ∧ Keep w w' := by
  have HN := Lib.hid (fun W (hW : Keep w W) => by have := none_at W (h.keep hW); rw [show (kind == 0) = false by simp [hk]] at this; exact this)
  have h1 := h.l
  have hb := h.lt
  obtain ⟨bx, off, rfl, hbx, c0, c1, c2⟩ := sl_val h.sl i hi
  clear h
  go_enter Tryz.func20, Tryz.ntmps20
  go_wp2_with (go_at_call 32; refine (HN.out _ (by repeat (first | exact Keep.refl _ | apply Keep.alloc | apply Keep.gro | apply Keep.drew | apply Keep.drewN))).mono ?_; rintro e w' ⟨rfl, rfl⟩)
  exact bodyPost_ret (v := .tuple #[xs[i].v, .int .i64 0]) (by simp [results, Tryz.results20, go_sem]) rfl ⟨rfl, by repeat (first | exact Keep.refl _ | apply Keep.alloc | (refine Keep.setCell ?_ (by simp) _))⟩

theorem mono_of (hs : xs.Pairwise LtV) (v : Val) : ∀ i j, (hi : i < xs.length) → (hj : j < xs.length) → i ≤ j → cmpV xs[j] v < 0 → cmpV xs[i] v < 0 := fun i j hi hj hij h => by
  rw [cmpV_lt] at *
  rcases Nat.lt_or_ge i j with h1 | h1
  · exact (List.pairwise_iff_getElem.1 hs i j hi hj h1).trans h
  · have : i = j := by omega
    subst this; exact h
def findV (kind : Int) (xs : List Val) (v : Val) : Int × Bool := if kind = 0 then (0, false) else if hits xs v then (lower xs v, true) else (0, false)
theorem ret_ib {a a' : Int} {x x' : Bool} (h : (a, x) = (a', x')) : Ending.returned (.tuple #[.int .i64 a, .bool x]) = .returned (.tuple #[.int .i64 a', .bool x']) := by
  simp only [Prod.mk.injEq] at h
  obtain ⟨rfl, rfl⟩ := h
  rfl
theorem find_nil (v : Val) (w : World) : Calls Tryz.prog 68 #[.pointer none, v.v] w fun e w' => e = .returned (.tuple #[.int .i64 0, .bool false]) ∧ Keep w w' := by
  obtain ⟨k, n, s⟩ := v
  go_enter Tryz.func68, Tryz.ntmps68
  go_wp2_with (go_at_call 32; refine (none_nil _).mono ?_; rintro e w' ⟨rfl, rfl⟩)
  go_ret2
  exact ⟨rfl, (by repeat (first | exact Keep.refl _ | apply Keep.alloc | apply Keep.gro | apply Keep.drew | apply Keep.drewN))⟩
set_option maxHeartbeats 1000000 in
theorem find_at (v : Val) (w : World) (h : DictAt w b kind A c xs) (hs : xs.Pairwise LtV) : Calls Tryz.prog 68 #[.pointer (some ⟨b, 0, none⟩), v.v] w fun e w' => e = .returned (.tuple #[.int .i64 (findV kind xs v).1, .bool (findV kind xs v).2]) ∧ Keep w w' := by
  have hse := fun W (hW : Keep w W) => search_any A c xs v W (h.sl.keep hW) (mono_of hs v)
  generalize hR : findV kind xs v = R
  have h1 := h.l
  have hb := h.lt
  by_cases hk : kind = 0
  · have hr : R = (0, false) := by rw [← hR]; simp [findV, hk]
    have HR := Lib.hid hr
    subst hk
    have HN := Lib.hid (fun W (hW : Keep w W) => none_at W (h.keep hW))
    obtain ⟨k, n, s⟩ := v
    clear h hr hR h1 hse
    go_enter Tryz.func68, Tryz.ntmps68
    go_wp2_with (go_at_call 32; refine (HN.out _ (by repeat (first | exact Keep.refl _ | apply Keep.alloc | apply Keep.gro | apply Keep.drew | apply Keep.drewN))).mono ?_; rintro e w' ⟨rfl, rfl⟩)
    go_ret2
    exact ⟨ret_ib HR.out.symm, (by repeat (first | exact Keep.refl _ | apply Keep.alloc | apply Keep.gro | apply Keep.drew | apply Keep.drewN))⟩
  · have hr : R = if hits xs v then ((lower xs v : Int), true) else (0, false) := by rw [← hR]; simp [findV, hk]
    have HR := Lib.hid hr
    have HN := Lib.hid (fun W (hW : Keep w W) => by have := none_at W (h.keep hW); rw [show (kind == 0) = false by simp [hk]] at this; exact this)
    generalize hits xs v = q at hse HR
    generalize lower xs v = l at hse HR
    obtain ⟨k, n, s⟩ := v
    have HS := Lib.hid hse
    clear h hr hR hse
    cases q
    all_goals
      go_enter Tryz.func68, Tryz.ntmps68
      go_wp2_with (go_at_call 32; refine (HN.out _ (by repeat (first | exact Keep.refl _ | apply Keep.alloc | apply Keep.gro | apply Keep.drew | apply Keep.drewN))).mono ?_; rintro e w' ⟨rfl, rfl⟩)
      first | refine Zone.wp_region_all_gro (by kernel_rfl) (by kernel_rfl) ?_ | refine Zone.wp_region_all (by kernel_rfl) (by kernel_rfl) ?_
      repeat
        refine Zone.wpZ_step (fun K hK => ?_)
        go_simp
        first
        | (refine hK _ _ ?_; clear hK K)
        | (apply Exists.intro
           refine ⟨fun p => ?_, hK _ _ ?_⟩
           ((go_at_call 124; exact Zone.zc (HS.out _ (by repeat (first | exact Keep.refl _ | apply Keep.alloc | apply Keep.gro | apply Keep.drew | apply Keep.drewN)))))
           clear hK K)
      refine Zone.wpZ_nil ?_
      intro p
      simp only [Zone.fill]
      go_wp2
      go_ret2
      exact ⟨ret_ib HR.out.symm, (by repeat (first | exact Keep.refl _ | apply Keep.alloc | apply Keep.gro | apply Keep.drew | apply Keep.drewN))⟩

def dIval (kind : Int) (xs : List Val) (cmp : Int) (v : Val) : Int × Int × Int :=
  if kind = 0 then (0, 0, 1) else if badCmp v cmp then (0, 0, 2) else if v.k != kind then (0, 0, 9) else
  if cmp == 1 then (lower xs v, if hits xs v then (lower xs v : Int) + 1 else lower xs v, 0)
  else if cmp == 3 then (0, lower xs v, 0)
  else if cmp == 4 then (0, if hits xs v then (lower xs v : Int) + 1 else lower xs v, 0)
  else if cmp == 5 then (if hits xs v then (lower xs v : Int) + 1 else lower xs v, xs.length, 0)
  else (lower xs v, xs.length, 0)
end
end Go.Proofs.YtmcaednlilhnoaaGreatDoor
namespace Go.Proofs.YtmcaednlilhnoaaGreatDoor
open Go.RowKit Go.Zone Go.Shelf Go.Sort

theorem sorted_unique : ∀ (l m : List Val), l.Pairwise LtV → m.Pairwise LtV → (∀ x, x ∈ l ↔ x ∈ m) → l = m
  | [], [], _, _, _ => rfl
  | [], y :: m, _, _, h => by have := (h y).2 (by simp); cases this
  | x :: l, [], _, _, h => by have := (h x).1 (by simp); cases this
  | x :: l, y :: m, hl, hm, h => by
    have hl' := List.pairwise_cons.1 hl
    have hm' := List.pairwise_cons.1 hm
    have hxy : x = y := by
      rcases List.mem_cons.1 ((h x).1 (by simp)) with e | e
      · exact e
      · rcases List.mem_cons.1 ((h y).2 (by simp)) with e' | e'
        · exact e'.symm
        · exact absurd ((hm'.1 x e).trans (hl'.1 y e')) (LtV.irrefl y)
    subst hxy
    congr 1
    refine sorted_unique l m hl'.2 hm'.2 fun z => ?_
    have hz := h z
    simp only [List.mem_cons] at hz
    constructor
    · intro hzl
      rcases hz.1 (.inr hzl) with e | e
      · subst e; exact absurd (hl'.1 z hzl) (LtV.irrefl z)
      · exact e
    · intro hzm
      rcases hz.2 (.inr hzm) with e | e
      · subst e; exact absurd (hm'.1 z hzm) (LtV.irrefl z)
      · exact e

/-- Put's fold on a rising list. -/
theorem putS_false (v : Val) : ∀ (xs : List Val) (a : List Val), (∀ x ∈ xs, ¬ LtV v x) → xs.foldl (stepPut v) (a, false) = (a ++ xs, false)
  | [], a, _ => by simp
  | x :: r, a, h => by
    have h0 : lessV v x = false := by
      cases hl : lessV v x
      · rfl
      · exact absurd ((lessV_iff v x).1 hl) (h x (by simp))
    rw [List.foldl_cons]
    simp only [stepPut, h0, Bool.and_false, Bool.false_eq_true, if_false]
    rw [putS_false v r _ fun x hx => h x (by simp [hx])]
    simp
theorem putS_true (v : Val) : ∀ (xs : List Val) (a : List Val), xs.foldl (stepPut v) (a, true) = (a ++ xs, true)
  | [], a => by simp
  | x :: r, a => by
    rw [List.foldl_cons]
    simp only [stepPut, Bool.not_true, Bool.false_and, Bool.false_eq_true, if_false]
    rw [putS_true v r]
    simp
theorem any_eqV (xs : List Val) (v : Val) : (xs.any fun x => eqV x v) = true ↔ v ∈ xs := by
  rw [List.any_eq_true]
  constructor
  · rintro ⟨x, hx, he⟩; rw [(eqV_iff x v).1 he] at hx; exact hx
  · intro h; exact ⟨v, h, (eqV_iff v v).2 rfl⟩
theorem split_at (v : Val) : ∀ (xs : List Val), xs.Pairwise LtV → v ∉ xs → ∃ a b, xs = a ++ b ∧ (∀ x ∈ a, LtV x v) ∧ (∀ x ∈ b, LtV v x)
  | [], _, _ => ⟨[], [], rfl, by simp, by simp⟩
  | x :: r, h, hv => by
    have h' := List.pairwise_cons.1 h
    rcases LtV.tri x v with t | t | t
    · obtain ⟨a, b, e, h1, h2⟩ := split_at v r h'.2 (fun hm => hv (by simp [hm]))
      exact ⟨x :: a, b, by simp [e], fun y hy => by
        rcases List.mem_cons.1 hy with rfl | hy
        · exact t
        · exact h1 y hy, h2⟩
    · subst t; exact absurd (by simp) hv
    · exact ⟨[], x :: r, rfl, by simp, fun y hy => by
        rcases List.mem_cons.1 hy with rfl | hy
        · exact t
        · exact t.trans (h'.1 y hy)⟩
theorem putV_split (v : Val) (a b : List Val) (ha : ∀ x ∈ a, LtV x v) (hb : ∀ x ∈ b, LtV v x) : putV (a ++ b) v = a ++ v :: b := by
  have hv : v ∉ a ++ b := fun h => by
    rcases List.mem_append.1 h with h | h
    · exact LtV.irrefl v (ha v h)
    · exact LtV.irrefl v (hb v h)
  have h1 := putS_false v a [] fun x hx h => LtV.irrefl v (h.trans (ha x hx))
  have hS : putS v (a ++ b) = b.foldl (stepPut v) (a, false) := by
    unfold putS
    rw [List.foldl_append, h1]
    simp
  unfold putV
  rw [if_neg (fun h => hv ((any_eqV _ _).1 h)), hS]
  cases b with
  | nil => simp
  | cons y r =>
    have hy : lessV v y = true := (lessV_iff v y).2 (hb y (by simp))
    rw [List.foldl_cons]
    simp only [stepPut, hy, Bool.not_false, Bool.and_true, if_true]
    rw [putS_true v r]
    simp
theorem putV_sorted (xs : List Val) (v : Val) (h : xs.Pairwise LtV) : (putV xs v).Pairwise LtV ∧ ∀ x, x ∈ putV xs v ↔ x ∈ xs ∨ x = v := by
  by_cases hv : v ∈ xs
  · have : putV xs v = xs := by unfold putV; rw [if_pos ((any_eqV _ _).2 hv)]
    rw [this]
    refine ⟨h, fun x => ⟨.inl, fun hx => ?_⟩⟩
    rcases hx with hx | rfl
    · exact hx
    · exact hv
  · obtain ⟨a, b, rfl, ha, hb⟩ := split_at v xs h hv
    rw [putV_split v a b ha hb]
    refine ⟨?_, fun x => ?_⟩
    · rw [List.pairwise_append] at h ⊢
      refine ⟨h.1, List.pairwise_cons.2 ⟨hb, h.2.1⟩, fun x hx y hy => ?_⟩
      rcases List.mem_cons.1 hy with rfl | hy
      · exact ha x hx
      · exact h.2.2 x hx y hy
    · simp only [List.mem_append, List.mem_cons]
      constructor
      · rintro (h | rfl | h)
        · exact .inl (.inl h)
        · exact .inr rfl
        · exact .inl (.inr h)
      · rintro ((h | h) | rfl)
        · exact .inl h
        · exact .inr (.inr h)
        · exact .inr (.inl rfl)
theorem putAll_sorted (xs : List Val) : (putAll xs).Pairwise LtV ∧ ∀ x, x ∈ putAll xs ↔ x ∈ xs := by
  suffices h : ∀ (xs a : List Val), a.Pairwise LtV → (xs.foldl putV a).Pairwise LtV ∧ ∀ x, x ∈ xs.foldl putV a ↔ x ∈ xs ∨ x ∈ a by
    have := h xs [] List.Pairwise.nil
    exact ⟨this.1, fun x => by have := this.2 x; simpa [putAll] using this⟩
  intro xs
  induction xs with
  | nil => intro a ha; exact ⟨ha, fun x => by simp⟩
  | cons y r ih =>
    intro a ha
    have h1 := putV_sorted a y ha
    have h2 := ih (putV a y) h1.1
    refine ⟨h2.1, fun x => ?_⟩
    rw [List.foldl_cons, h2.2 x, h1.2 x, List.mem_cons]
    constructor
    · rintro (h | h | h)
      · exact .inl (.inr h)
      · exact .inr h
      · exact .inl (.inl h)
    · rintro ((h | h) | h)
      · exact .inr (.inr h)
      · exact .inl h
      · exact .inr (.inl h)

/-- not less in the other direction -/
def LeV (x y : Val) : Prop := ¬ LtV y x
theorem sortV_sorted (xs : List Val) : (sortV xs).Pairwise LeV := by
  have h := List.pairwise_mergeSort (le := fun x y => !(ltOf cmpV) y x) (fun a b c h1 h2 => by
    simp only [Bool.not_eq_true'] at *
    exact swoV.ntrans c b a h2 h1) (fun a b => by
    cases h1 : ltOf cmpV b a
    · rfl
    · cases h2 : ltOf cmpV a b
      · simp
      · exact absurd (swoV.trans a b a h2 h1) (by rw [swoV.irrefl]; simp)) xs
  refine h.imp fun {a b} hab => ?_
  simp only [Bool.not_eq_true', ltOf, decide_eq_false_iff_not, cmpV_lt] at hab
  exact hab
theorem sortV_mem (xs : List Val) (x : Val) : x ∈ sortV xs ↔ x ∈ xs := List.mem_mergeSort
theorem ddTo_sorted (xs : List Val) (h : xs.Pairwise LeV) : ∀ m, m ≤ xs.length → (ddTo xs m).Pairwise LtV ∧ (∀ x, x ∈ ddTo xs m ↔ x ∈ xs.take m)
  | 0, _ => ⟨by simp [ddTo], fun x => by simp [ddTo]⟩
  | m + 1, hm => by
    have ih := ddTo_sorted xs h m (by omega)
    have hml : m < xs.length := by omega
    have hg : xs.getD m default = xs[m] := by simp [hml]
    have hmem : ∀ x, x ∈ xs.take (m + 1) ↔ x ∈ xs.take m ∨ x = xs[m] := fun x => by
      rw [List.take_succ_eq_append_getElem hml, List.mem_append, List.mem_singleton]
    unfold ddTo
    rw [hg]
    split
    · rename_i hc
      refine ⟨?_, fun x => by rw [List.mem_append, ih.2 x, List.mem_singleton, hmem x]⟩
      rw [List.pairwise_append]
      refine ⟨ih.1, List.pairwise_singleton _ _, fun x hx y hy => ?_⟩
      rw [List.mem_singleton] at hy
      subst hy
      rw [ih.2 x] at hx
      obtain ⟨i, hi, rfl⟩ := List.getElem_of_mem hx
      have him : i < m := by simp at hi; omega
      rw [List.getElem_take]
      rcases hc with hc | hc
      · omega
      · have hm1 : xs.getD (m - 1) default = xs[m - 1] := by simp [show m - 1 < xs.length by omega]
        rw [hm1] at hc
        have hne : xs[m] ≠ xs[m - 1] := fun e => by rw [(eqV_iff _ _).2 e] at hc; cases hc
        have hle := List.pairwise_iff_getElem.1 h
        have h1 : LtV xs[m - 1] xs[m] := by
          rcases LtV.tri xs[m - 1] xs[m] with t | t | t
          · exact t
          · exact absurd t.symm hne
          · exact absurd t (hle (m - 1) m (by omega) hml (by omega))
        rcases Nat.lt_or_ge i (m - 1) with h2 | h2
        · have h3 := hle i (m - 1) (by omega) (by omega) h2
          rcases LtV.tri xs[i] xs[m - 1] with t | t | t
          · exact t.trans h1
          · rw [t]; exact h1
          · exact absurd t h3
        · have : i = m - 1 := by omega
          subst this; exact h1
    · rename_i hc
      have hc' : m ≠ 0 ∧ eqV xs[m] (xs.getD (m - 1) default) = true := by
        constructor
        · intro e; exact hc (.inl e)
        · cases he : eqV xs[m] (xs.getD (m - 1) default)
          · exact absurd (.inr he) hc
          · rfl
      refine ⟨ih.1, fun x => ?_⟩
      rw [ih.2 x, hmem x]
      constructor
      · exact .inl
      · rintro (hx | rfl)
        · exact hx
        · have e := (eqV_iff _ _).1 hc'.2
          rw [e, List.getD_eq_getElem?_getD, List.getElem?_eq_getElem (by omega), Option.getD_some]
          exact List.mem_take_iff_getElem.2 ⟨m - 1, by omega, rfl⟩
theorem dOwn_sorted (xs : List Val) : (dOwn xs).Pairwise LtV ∧ ∀ x, x ∈ dOwn xs ↔ x ∈ xs := by
  have h := ddTo_sorted (sortV xs) (sortV_sorted xs) (sortV xs).length (Nat.le_refl _)
  refine ⟨h.1, fun x => ?_⟩
  have := h.2 x
  rw [List.take_length, sortV_mem] at this
  exact this
theorem dOwn_put (xs : List Val) : dOwn xs = putAll xs :=
  sorted_unique _ _ (dOwn_sorted xs).1 (putAll_sorted xs).1 fun x => by rw [(dOwn_sorted xs).2 x, (putAll_sorted xs).2 x]
theorem rOf_d (kind : Int) (xs : List Val) : rOf kind xs = if dErr kind xs = 0 then (dOwn xs, 0) else ([], dErr kind xs) := by
  unfold rOf dErr badKind
  have hk : (!(kind == 1 || kind == 2)) = (kind != 1 && kind != 2) := by simp [bne]
  rw [hk]
  have ha : (dOwn xs).any (fun x => x.k != kind) = xs.any (fun x => x.k != kind) := by
    rw [Bool.eq_iff_iff, List.any_eq_true, List.any_eq_true]
    constructor <;> rintro ⟨x, hx, h⟩ <;> exact ⟨x, by simpa [(dOwn_sorted xs).2 x] using hx, h⟩
  rw [ha, ← dOwn_put]
  (repeat' split) <;> simp_all
end Go.Proofs.YtmcaednlilhnoaaGreatDoor
namespace Go.Proofs.YtmcaednlilhnoaaGreatDoor
open Go.RowKit Go.Zone Go.Shelf Go.Sort

def behindV (xs : List Val) (v : Val) : Nat := if hits xs v then lower xs v + 1 else lower xs v
theorem takeWhile_all {α : Type} (p : α → Bool) : ∀ (l : List α) (i : Nat) (h : i < (l.takeWhile p).length), (hl : i < l.length) → p l[i] = true
  | [], i, h, _ => by simp at h
  | x :: r, i, h, hl => by
    rw [List.takeWhile_cons] at h
    split at h
    · rename_i hx
      cases i with
      | zero => exact hx
      | succ i => exact takeWhile_all p r i (by simpa using h) (by simpa using hl)
    · simp at h
theorem takeWhile_end {α : Type} (p : α → Bool) : ∀ (l : List α) (h : (l.takeWhile p).length < l.length), p l[(l.takeWhile p).length] = false
  | [], h => by simp at h
  | x :: r, h => by
    by_cases hx : p x = true
    · have := takeWhile_end p r (by rw [List.takeWhile_cons, if_pos hx] at h; simpa using h)
      simp only [List.takeWhile_cons, hx, if_true, List.length_cons, List.getElem_cons_succ]
      exact this
    · simp only [List.takeWhile_cons, hx, if_false, List.length_nil, List.getElem_cons_zero]
      simpa using hx
theorem lower_lt (xs : List Val) (v : Val) (i : Nat) (h : i < lower xs v) (hl : i < xs.length) : LtV xs[i] v := by
  have := takeWhile_all _ xs i h hl
  simpa [cmpV_lt] using this
theorem lower_end (xs : List Val) (v : Val) (h : lower xs v < xs.length) : ¬ LtV xs[lower xs v] v := by
  intro hlt
  rw [← cmpV_lt] at hlt
  have h2 : decide (cmpV xs[lower xs v] v < 0) = false := takeWhile_end _ xs h
  simp only [decide_eq_false_iff_not] at h2
  exact h2 hlt
theorem hits_iff (xs : List Val) (v : Val) : hits xs v = true ↔ ∃ h : lower xs v < xs.length, xs[lower xs v] = v := by
  unfold hits
  rcases Nat.lt_or_ge (lower xs v) xs.length with h | h
  · rw [List.getElem?_eq_getElem h]
    simp only [beq_iff_eq, cmpV_eq]
    exact ⟨fun e => ⟨h, e⟩, fun ⟨_, e⟩ => e⟩
  · rw [List.getElem?_eq_none h]
    simp only [Bool.false_eq_true, false_iff]
    rintro ⟨h', _⟩; omega
theorem behind_le {xs : List Val} {v : Val} (_ : xs.Pairwise LtV) : lower xs v ≤ behindV xs v ∧ behindV xs v ≤ xs.length := by
  unfold behindV
  split
  · rename_i h
    obtain ⟨h1, _⟩ := (hits_iff xs v).1 h
    omega
  · exact ⟨Nat.le_refl _, lower_le xs v⟩
section
variable {xs : List Val} {v : Val} (hs : xs.Pairwise LtV)
include hs
theorem after_lower (i : Nat) (hi : i < xs.length) (h : lower xs v ≤ i) : ¬ LtV xs[i] v := by
  have h0 := lower_end xs v (by omega)
  rcases Nat.lt_or_ge (lower xs v) i with h1 | h1
  · intro h2
    exact h0 ((List.pairwise_iff_getElem.1 hs _ i (by omega) hi h1).trans h2)
  · have : i = lower xs v := by omega
    subst this; exact h0
theorem at_hit (i : Nat) (hi : i < xs.length) : xs[i] = v ↔ hits xs v = true ∧ i = lower xs v := by
  constructor
  · intro e
    have hle : lower xs v ≤ i := by
      rcases Nat.lt_or_ge i (lower xs v) with h | h
      · have := lower_lt xs v i h hi; rw [e] at this; exact absurd this (LtV.irrefl v)
      · exact h
    have hlt : lower xs v < xs.length := by omega
    have heq : i = lower xs v := by
      rcases Nat.lt_or_ge (lower xs v) i with h | h
      · have h1 := List.pairwise_iff_getElem.1 hs _ i hlt hi h
        rw [e] at h1
        exact absurd h1 (lower_end xs v hlt)
      · omega
    exact ⟨(hits_iff xs v).2 ⟨hlt, by subst heq; exact e⟩, heq⟩
  · rintro ⟨h, rfl⟩
    exact ((hits_iff xs v).1 h).2
theorem lt_iff (i : Nat) (hi : i < xs.length) : LtV xs[i] v ↔ i < lower xs v :=
  ⟨fun h => by
    rcases Nat.lt_or_ge i (lower xs v) with h1 | h1
    · exact h1
    · exact absurd h (after_lower hs i hi h1), fun h => lower_lt xs v i h hi⟩
theorem gt_iff (i : Nat) (hi : i < xs.length) : LtV v xs[i] ↔ behindV xs v ≤ i := by
  have h1 := lt_iff (v := v) hs i hi
  have h2 := at_hit (v := v) hs i hi
  unfold behindV
  constructor
  · intro h
    have a : ¬ LtV xs[i] v := fun h' => LtV.irrefl v (h.trans h')
    have b : xs[i] ≠ v := fun e => by rw [e] at h; exact LtV.irrefl v h
    split
    · rename_i hh
      have : i ≠ lower xs v := fun e => b (h2.2 ⟨hh, e⟩)
      have hn : ¬ i < lower xs v := fun h' => a (h1.2 h')
      omega
    · have hn : ¬ i < lower xs v := fun h' => a (h1.2 h')
      omega
  · intro h
    rcases LtV.tri xs[i] v with t | t | t
    · have := h1.1 t
      split at h <;> omega
    · obtain ⟨hh, e⟩ := h2.1 t
      rw [if_pos hh] at h
      omega
    · exact t
/-- where a comparison holds: one run -/
def runLo (cmp : Int) (xs : List Val) (v : Val) : Nat := if cmp == 1 then lower xs v else if cmp == 3 then 0 else if cmp == 4 then 0 else if cmp == 5 then behindV xs v else lower xs v
def runHi (cmp : Int) (xs : List Val) (v : Val) : Nat := if cmp == 1 then behindV xs v else if cmp == 3 then lower xs v else if cmp == 4 then behindV xs v else xs.length
theorem so_run (cmp : Int) (h2 : (cmp == 2) = false) (i : Nat) (hi : i < xs.length) : so3 cmp (rcmpV xs[i] v) = decide (runLo cmp xs v ≤ i ∧ i < runHi cmp xs v) := by
  have a := rcmpV_lt xs[i] v
  have b := rcmpV_eq xs[i] v
  have c : 0 < rcmpV xs[i] v ↔ LtV v xs[i] := by
    constructor
    · intro h
      rcases LtV.tri xs[i] v with t | t | t
      · have := a.2 t; omega
      · have := b.2 t; omega
      · exact t
    · intro h
      rcases Int.lt_trichotomy (rcmpV xs[i] v) 0 with t | t | t
      · exact absurd (h.trans (a.1 t)) (LtV.irrefl v)
      · rw [b.1 t] at h; exact absurd h (LtV.irrefl v)
      · exact t
  rw [lt_iff hs i hi] at a
  rw [at_hit hs i hi] at b
  rw [gt_iff hs i hi] at c
  have d := behind_le (v := v) hs
  have e : hits xs v = true ∧ i = lower xs v ↔ lower xs v ≤ i ∧ i < behindV xs v := by
    unfold behindV
    split
    · rename_i h; simp [h]; omega
    · rename_i h; simp [h]
  rw [e] at b
  unfold so3 runLo runHi
  rw [h2]
  rw [Bool.eq_iff_iff]
  simp only [Bool.false_eq_true, if_false]
  (repeat' split) <;> simp only [beq_iff_eq, decide_eq_true_eq] <;> omega
end
/-- a run's ends, found by going through -/
theorem ivTo_run (cmp : Int) (v : Val) (xs : List Val) (a b : Nat) (hab : b ≤ xs.length) (h : ∀ i, (hi : i < xs.length) → so3 cmp (rcmpV xs[i] v) = decide (a ≤ i ∧ i < b)) : ∀ k, k ≤ xs.length →
    (ivTo cmp v xs k).lo = (if a < k ∧ a < b then (a : Int) else -1) ∧ (ivTo cmp v xs k).hi = (if a < k ∧ a < b then ((min k b : Nat) : Int) else 0)
  | 0, _ => by simp [ivTo]
  | k + 1, hk => by
    have ih := ivTo_run cmp v xs a b hab h k (by omega)
    have hg : xs.getD k default = xs[k] := by simp [show k < xs.length by omega]
    simp only [ivTo, stepIv, hg, h k (by omega), ih.1, ih.2]
    constructor
    · by_cases h1 : a ≤ k ∧ k < b
      · by_cases h2 : a < k
        · have e1 : a < k ∧ a < b := by omega
          have e2 : a < k + 1 ∧ a < b := by omega
          simp only [e1, e2, and_self, if_true]
          simp
          omega
        · have e1 : ¬ (a < k ∧ a < b) := by omega
          have e2 : a < k + 1 ∧ a < b := by omega
          simp only [e1, e2, and_self, if_true, if_false, h1, decide_true, Bool.true_and]
          simp; omega
      · simp only [h1, decide_false, Bool.false_and, Bool.false_eq_true, if_false]
        by_cases e1 : a < k ∧ a < b
        · rw [if_pos e1, if_pos (by omega)]
        · rw [if_neg e1, if_neg (by omega)]
    · by_cases h1 : a ≤ k ∧ k < b
      · simp only [h1, and_self, decide_true, if_true]
        rw [if_pos (by omega)]
        omega
      · simp only [h1, decide_false, Bool.false_eq_true, if_false]
        by_cases e1 : a < k ∧ a < b
        · rw [if_pos e1, if_pos (by omega)]
          omega
        · rw [if_neg e1, if_neg (by omega)]
theorem ivTo_first (cmp : Int) (v : Val) (xs : List Val) (b : Nat) (hab : b ≤ xs.length) (h : ∀ i, (hi : i < xs.length) → so3 3 (rcmpV xs[i] v) = decide (i < b)) : ∀ k, k ≤ xs.length → (ivTo cmp v xs k).first = ((min k b : Nat) : Int)
  | 0, _ => by simp [ivTo]
  | k + 1, hk => by
    have ih := ivTo_first cmp v xs b hab h k (by omega)
    have hg : xs.getD k default = xs[k] := by simp [show k < xs.length by omega]
    simp only [ivTo, stepIv, hg, h k (by omega), ih]
    by_cases h1 : k < b
    · simp only [h1, decide_true, if_true]; omega
    · simp only [h1, decide_false, Bool.false_eq_true, if_false]; omega
theorem ivTo_behind (cmp : Int) (v : Val) (xs : List Val) (b : Nat) (hab : b ≤ xs.length) (h : ∀ i, (hi : i < xs.length) → so3 4 (rcmpV xs[i] v) = decide (i < b)) : ∀ k, k ≤ xs.length → (ivTo cmp v xs k).behind = ((min k b : Nat) : Int)
  | 0, _ => by simp [ivTo]
  | k + 1, hk => by
    have ih := ivTo_behind cmp v xs b hab h k (by omega)
    have hg : xs.getD k default = xs[k] := by simp [show k < xs.length by omega]
    simp only [ivTo, stepIv, hg, h k (by omega), ih]
    by_cases h1 : k < b
    · simp only [h1, decide_true, if_true]; omega
    · simp only [h1, decide_false, Bool.false_eq_true, if_false]; omega
theorem rIval_d (kind : Int) (xs : List Val) (cmp : Int) (v : Val) (hs : xs.Pairwise LtV) (hk : kind ≠ 0) : rIval kind xs cmp v = dIval kind xs cmp v := by
  unfold rIval dIval
  rw [if_neg hk]
  split
  · rfl
  · rename_i hb
    split
    · rfl
    · have hc : 1 ≤ cmp ∧ (cmp == 2) = false ∧ cmp ≤ 6 := by
        have : badCmp v cmp = false := by simpa using hb
        unfold badCmp at this
        simp only [Bool.or_eq_false_iff, decide_eq_false_iff_not] at this
        exact ⟨by omega, this.1.2, by omega⟩
      have hbd := behind_le (v := v) hs
      have r := ivTo_run cmp v xs (runLo cmp xs v) (runHi cmp xs v) (by unfold runHi; (repeat' split) <;> first | exact hbd.2 | exact lower_le xs v | exact Nat.le_refl _) (fun i hi => so_run hs cmp hc.2.1 i hi) xs.length (Nat.le_refl _)
      have f := ivTo_first cmp v xs (lower xs v) (lower_le xs v) (fun i hi => by rw [so_run hs 3 rfl i hi]; simp [runLo, runHi]) xs.length (Nat.le_refl _)
      have g := ivTo_behind cmp v xs (behindV xs v) hbd.2 (fun i hi => by rw [so_run hs 4 rfl i hi]; simp [runLo, runHi]) xs.length (Nat.le_refl _)
      have hbe : (if hits xs v then (lower xs v : Int) + 1 else (lower xs v : Int)) = (behindV xs v : Int) := by unfold behindV; split <;> simp
      have hl := lower_le xs v
      rw [hbe]
      generalize ivTo cmp v xs xs.length = st at r f g
      obtain ⟨lo, hi, fi, bh⟩ := st
      simp only at r f g
      obtain ⟨r1, r2⟩ := r
      subst r1; subst r2; subst f; subst g
      unfold ivEnd runLo runHi
      generalize lower xs v = l at *
      generalize behindV xs v = m at *
      generalize xs.length = n at *
      have hcm : cmp = 1 ∨ cmp = 3 ∨ cmp = 4 ∨ cmp = 5 ∨ cmp = 6 := by
        have := hc.2.1
        simp only [beq_eq_false_iff_ne, ne_eq] at this
        omega
      rcases hcm with rfl | rfl | rfl | rfl | rfl
      all_goals
        simp only [beq_self_eq_true, if_true, if_false, Bool.false_eq_true, show ((1 : Int) == 3) = false from rfl, show ((1 : Int) == 4) = false from rfl, show ((1 : Int) == 5) = false from rfl, show ((3 : Int) == 1) = false from rfl, show ((3 : Int) == 4) = false from rfl, show ((3 : Int) == 5) = false from rfl, show ((4 : Int) == 1) = false from rfl, show ((4 : Int) == 3) = false from rfl, show ((4 : Int) == 5) = false from rfl, show ((5 : Int) == 1) = false from rfl, show ((5 : Int) == 3) = false from rfl, show ((5 : Int) == 4) = false from rfl, show ((6 : Int) == 1) = false from rfl, show ((6 : Int) == 3) = false from rfl, show ((6 : Int) == 4) = false from rfl, show ((6 : Int) == 5) = false from rfl, Bool.or_false, Bool.or_true, Bool.true_or]
        (repeat' split) <;> simp only [Prod.mk.injEq, and_true, true_and] <;> omega
end Go.Proofs.YtmcaednlilhnoaaGreatDoor
