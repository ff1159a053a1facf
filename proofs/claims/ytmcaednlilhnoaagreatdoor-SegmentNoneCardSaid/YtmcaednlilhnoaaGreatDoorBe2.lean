
/- forward's index: Of (no rows), none, Bytes. -/
import Derived.WalkKit
import Derived.Lib.Hide
import Derived.WalkSpells
import Derived.WalkLawsBesides
import Derived.BigQuiet
import Derived.Shelf.Abstract
import Derived.Test.YtmcaednlilhnoaaGreatDoorBe
import Derived.Test.YtmcaednlilhnoaaGreatDoorJh
namespace Go.Proofs.YtmcaednlilhnoaaGreatDoor
open Go.RowKit Go.Zone Go.Shelf
attribute [local go_sem] Zone.zone Zone.stepZ Zone.fill Zone.lookFs Zone.goes Zone.goesUpon Zone.dropFs Zone.cell_gro Zone.frozen_gro Zone.size_gro Zone.lt_add Zone.drew_gro Zone.tape_gro Zone.keep_refl
attribute [local go_sem] Zone.lt_add2 Zone.lt_add3 Zone.lt_add4 Zone.lt_add5 Zone.lt_add6 Zone.lt_add7 Zone.lt_add8 Zone.lt_add9 Zone.lt_add10 Zone.lt_add11 Zone.lt_add12
/-- A forward index in memory. -/
structure IdxAt (w : World) (b rows many wd : Nat) (A : Option Addr) (c : Nat) (bs : List UInt8) : Prop where
  r : w.cell? ⟨b, 0, none⟩ = some (.int .i64 rows)
  m : w.cell? ⟨b, 1, none⟩ = some (.int .i64 many)
  w_ : w.cell? ⟨b, 2, none⟩ = some (.int .i64 wd)
  b_ : w.cell? ⟨b, 3, none⟩ = some (.slice A bs.length c)
  sl : SlB w A c bs
theorem IdxAt.keep {w w' : World} {b rows many wd c : Nat} {A : Option Addr} {bs : List UInt8} (h : IdxAt w b rows many wd A c bs) (hk : Keep w w') : IdxAt w' b rows many wd A c bs :=
  ⟨(hk.cell (p := ⟨b, 0, none⟩) (block_lt_of_cell h.r)).trans h.r, (hk.cell (p := ⟨b, 1, none⟩) (block_lt_of_cell h.m)).trans h.m, (hk.cell (p := ⟨b, 2, none⟩) (block_lt_of_cell h.w_)).trans h.w_, (hk.cell (p := ⟨b, 3, none⟩) (block_lt_of_cell h.b_)).trans h.b_, h.sl.keep hk⟩
theorem fof_zero (A : Option Addr) (c : Nat) (w : World) : Calls Tryz.prog 70 #[.slice A 0 c, .int .i64 0] w fun e w' => ∃ b A', e = .returned (.tuple #[.pointer (some ⟨b, 0, none⟩), .int .i64 0]) ∧ IdxAt w' b 0 0 1 A' 0 [] ∧ w.heap.size ≤ b ∧ Keep w w' := by
  have hm := make64_zero
  go_enter Tryz.func70, Tryz.ntmps70
  go_wp2_with (go_at_call 125; refine (fmay_zero _).mono ?_; rintro e w' ⟨rfl, hk⟩; (first | obtain ⟨p, rfl⟩ := Zone.gro_of_gro _ _ hk | obtain ⟨p, rfl⟩ := Zone.gro_of_below _ hk); clear hk)
  refine wp_loop_rounds 1 ?_
  rw [rounds_succ]
  go_wp2_with (go_at_call 126; refine Zone.hold ?_)
  refine Zone.unhold ?_
  refine (fwidth_zero _).mono ?_
  rintro e w1 ⟨rfl, hk1⟩
  have HK1 := Lib.hid (Keep.trans (show Keep w _ from (by repeat (first | exact Keep.refl _ | apply Keep.alloc | apply Keep.gro | apply Keep.drew | apply Keep.drewN))) hk1)
  clear hk1
  go_wp2_with (go_at_call 127; refine Zone.hold ?_)
  refine Zone.unhold ?_
  refine (pack_zero _ _ _).mono ?_
  rintro e w2 ⟨g, rfl, hk2⟩
  have HK2 := Lib.hid (HK1.out.trans hk2)
  clear hk2 hm
  go_wp2
  exact bodyPost_ret (v := .tuple #[.pointer (some ⟨w2.heap.size, 0, none⟩), .int .i64 0]) (by simp [results, Tryz.results70, go_sem]) rfl
    ⟨w2.heap.size, some ⟨g, 0, none⟩, rfl, ⟨by simp [go_sem], by simp [go_sem], by simp [go_sem], by simp [go_sem], Sl.nil_ _ (by decide)⟩, HK2.out.size, HK2.out.trans (by repeat (first | exact Keep.refl _ | apply Keep.alloc | apply Keep.gro | apply Keep.drew | apply Keep.drewN))⟩
theorem inone_any {b rows many wd c : Nat} {A : Option Addr} {bs : List UInt8} (w : World) (h : IdxAt w b rows many wd A c bs) (hw : 0 < wd) : Calls Tryz.prog 30 #[.pointer (some ⟨b, 0, none⟩)] w fun e w' => e = .returned (.bool false) ∧ Keep w w' := by
  have h2 := h.w_
  have hb := block_lt_of_cell h2
  have hz : ((wd : Int) == 0) = false := by simp; omega
  clear h
  go_enter Tryz.func30, Tryz.ntmps30
  go_wp2
  go_ret
  exact ⟨rfl, (by repeat (first | exact Keep.refl _ | apply Keep.alloc | apply Keep.gro | apply Keep.drew | apply Keep.drewN))⟩
/-- bytes of one's own, wherever -/
def PB (base : Nat) (bs : List UInt8) : Zone.Pred := fun v W => ∃ A c, v = .slice A bs.length c ∧ OwnB W base (.slice A bs.length c) bs
theorem PB.mono {base : Nat} {bs : List UInt8} : Zone.Mono (PB base bs) := fun _ _ _ hk ⟨A, c, h1, h2⟩ => ⟨A, c, h1, h2.keep hk⟩
theorem pb_of {W : World} {base : Nat} {v : Value} {bs : List UInt8} (h : OwnB W base v bs) (hl : bs.length ≤ 1000) : PB base bs v W := by
  obtain ⟨A, c, rfl⟩ := own_form h
  exact ⟨A, c, rfl, h⟩
def idxB (rows many wd : Nat) (bs : List UInt8) : List UInt8 := le rows 4 ++ le many 4 ++ [UInt8.ofNat wd] ++ bs
set_option maxRecDepth 100000 in
set_option maxHeartbeats 4000000 in
theorem ibytes_any {b rows many wd c : Nat} {A : Option Addr} {bs : List UInt8} (w : World) (h : IdxAt w b rows many wd A c bs) (hw : 0 < wd) (hw2 : wd ≤ 64) (hr : rows < 4294967296) (hm : many < 4294967296) (hl : bs.length ≤ 1000000000) :
    Calls Tryz.prog 72 #[.pointer (some ⟨b, 0, none⟩)] w fun e w' => ∃ v, e = .returned v ∧ OwnB w' w.heap.size v (idxB rows many wd bs) ∧ Keep w w' := by
  have HN := Lib.hid (inone_any w h hw)
  have H := Lib.hid h
  clear h
  go_enter Tryz.func72, Tryz.ntmps72
  go_wp2_with (go_at_call 30; refine Zone.hold ?_)
  refine Zone.unhold ?_
  refine HN.out.mono ?_
  rintro e w1 ⟨rfl, hk1⟩
  have HK1 := Lib.hid hk1
  have H1 := Lib.hid (H.out.keep hk1)
  clear HN H hk1
  go_wp2
  have x0 := H1.out.r
  have x1 := H1.out.m
  have hb := block_lt_of_cell x0
  have hw0 : IntKind.u32.wrap (rows : Int) = (rows : Int) := by simp [IntKind.wrap, IntKind.signed, IntKind.bits]; omega
  have hw1 : IntKind.u32.wrap (many : Int) = (many : Int) := by simp [IntKind.wrap, IntKind.signed, IntKind.bits]; omega
  first | refine Zone.wp_region_all_gro (by kernel_rfl) (by kernel_rfl) ?_ | refine Zone.wp_region_all (by kernel_rfl) (by kernel_rfl) ?_
  iterate 5
    refine Zone.wpZ_step (fun K hK => ?_)
    go_simp
    (refine hK _ _ ?_; clear hK K)
  refine Zone.wpZ_free 11 (PB w1.heap.size (le rows 4)) rfl PB.mono ?_ ?_
  · intro p
    simp only [Zone.fill, Zone.lookFs, List.filter_nil]
    go_simp
    go_at_call 36
    refine (app32_any none 0 [] rows hr _ (Sl.nil_ _ (by decide)) (by simp)).mono ?_
    rintro e w2 ⟨u, rfl, hown, hk⟩
    exact ⟨u, rfl, pb_of (hown.base_mono (by simp [size_gro])) (by simp [le_len]), hk⟩
  simp only [Zone.dropFs, List.filter_nil]
  iterate 5
    refine Zone.wpZ_step (fun K hK => ?_)
    unfold Zone.zone Zone.stepZ
    rw [Zone.lookFs_nil (by rfl)]
    go_simp
    (refine hK _ _ ?_; clear hK K)
  refine Zone.wpZ_free 17 (PB w1.heap.size (le rows 4 ++ le many 4)) rfl PB.mono ?_ ?_
  · intro p
    rw [show Zone.lookFs _ _ _ = [(11, PB w1.heap.size (le rows 4))] from rfl]
    rintro v ⟨A5, c5, rfl, ho5⟩
    have hs5 := Own.sl ho5 b8_len (by simp [le_len])
    obtain ⟨A6, c6, he6, hs6⟩ := hs5
    simp only [Value.slice.injEq, true_and] at he6
    obtain ⟨rfl, rfl⟩ := he6
    obtain ⟨L, hL⟩ : ∃ L, L = le rows 4 := ⟨_, rfl⟩
    rw [← hL] at hs6 ⊢
    have hll : L.length = 4 := by rw [hL, le_len]
    have HS6 := Lib.hid hs6
    have HLL := Lib.hid hll
    have HL := Lib.hid hL
    clear hs6 ho5 hL hll
    go_simp
    go_at_call 36
    refine (app32_any A5 c5 L many hm _ HS6.out (by rw [HLL.out]; decide)).mono ?_
    rintro e w2 ⟨u, rfl, hown, hk⟩
    exact ⟨u, rfl, pb_of (hown.base_mono (by simp [size_gro])) (by simp [HLL.out, le_len]), hk⟩
  refine Zone.wpZ_free 3 (PB w1.heap.size (le rows 4 ++ le many 4)) rfl PB.mono ?_ ?_
  · intro p
    rw [show Zone.lookFs _ _ _ = [(17, PB w1.heap.size (le rows 4 ++ le many 4))] from rfl]
    rintro v hv
    go_simp
    (try exact ⟨hv, Keep.refl _⟩)
  refine Zone.wpZ_nil ?_
  intro p2
  simp only [Zone.fill]
  rintro v3 hv3 v17 _ v11 _
  simp only [List.filter_nil, Zone.fill]
  obtain ⟨A3, c3, rfl, ho3⟩ := hv3
  have HO2 := Lib.hid ho3
  have HK2 := Lib.hid (show Keep w1 (w1.gro p2) from below_gro w1 p2)
  generalize hwg : w1.gro p2 = w2 at HO2 HK2 ⊢
  obtain ⟨L, hL⟩ : ∃ L, L = le rows 4 ++ le many 4 := ⟨_, rfl⟩
  rw [← hL] at HO2 ⊢
  have HLX := Lib.hid hL
  have hl8 : L.length = 8 := by rw [hL]; simp [le_len]
  have HL8 := Lib.hid hl8
  clear hwg x0 x1 hw0 hw1 hL hl8 ho3
  go_simp
  go_wp2
  have x2 := (HK2.out.cell (p := ⟨b, 2, none⟩) hb).trans H1.out.w_
  have x3 := (HK2.out.cell (p := ⟨b, 3, none⟩) hb).trans H1.out.b_
  have hb2 : b < w2.heap.size := Nat.lt_of_lt_of_le hb HK2.out.size
  have hz2 := HK2.out.size
  have hw8 : IntKind.u8.wrap (wd : Int) = (wd : Int) := by simp [IntKind.wrap, IntKind.signed, IntKind.bits]; omega
  have HB := Lib.hid (show b < w1.heap.size from hb)
  go_region_law (first
    | (refine step_app elt_u8 b8_len b8_one rfl (.tmp 18) (.tmp 24) rfl (ys := [UInt8.ofNat wd]) (HO2.out.keep (by repeat (first | exact Keep.refl _ | apply Keep.alloc | apply Keep.gro | apply Keep.drew | apply Keep.drewN))) rfl rfl (sl_one _ (by omega) (by omega) (b8_at _ ?h0)) (by have := HL8.out; simp; omega) (by simp; omega) ?_
       case h0 => rw [u8_nat, show (wd : Int) % 256 = wd by omega]; simp [go_sem]
       intro v4 w4 hown4 hg4 hd4
       have hk4 := (HO2.out.keep (by repeat (first | exact Keep.refl _ | apply Keep.alloc | apply Keep.gro | apply Keep.drew | apply Keep.drewN))).kept (w := w1) hg4 (HK2.out.trans (by repeat (first | exact Keep.refl _ | apply Keep.alloc | apply Keep.gro | apply Keep.drew | apply Keep.drewN))) (Nat.le_refl _)
       have x4 := (hk4.cell (p := ⟨b, 3, none⟩) HB.out).trans H1.out.b_
       have hb4 : b < w4.heap.size := Nat.lt_of_lt_of_le HB.out hk4.size
       have HK4 := Lib.hid hk4
       have HO4 := Lib.hid hown4
       clear hown4 hg4 hd4 hk4)
    | (refine step_app elt_u8 b8_len b8_one rfl (.tmp 25) (.tmp 29) rfl (ys := bs) HO4.out rfl rfl (H1.out.sl.keep HK4.out) (by have := HL8.out; simp; omega) HK4.out.size ?_
       intro v5 w5 hown5 hg5 hd5
       have HK5 := Lib.hid (HO4.out.kept (w := w1) hg5 HK4.out (Nat.le_refl _))
       have HO5 := Lib.hid hown5
       clear hown5 hg5 hd5))
  all_goals
    go_wp2
    go_ret
    exact ⟨_, rfl, by
      have := HO5.out.base_mono HK1.out.size
      rw [HLX.out] at this
      exact this, HK1.out.trans HK5.out⟩
end Go.Proofs.YtmcaednlilhnoaaGreatDoor
