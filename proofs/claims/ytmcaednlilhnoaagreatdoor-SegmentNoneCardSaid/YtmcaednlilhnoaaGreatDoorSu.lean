
/- The law's sample answers true. -/
import Derived.WalkKit
import Derived.Lib.Hide
import Derived.WalkSpells
import Derived.WalkLawsBesides
import Derived.BigQuiet
import Derived.Shelf.Abstract
import Derived.Deep.Cut
import Derived.Deep.CutRange
import Derived.Test.YtmcaednlilhnoaaGreatDoorSp
namespace Go.Proofs.YtmcaednlilhnoaaGreatDoor
open Go.RowKit Go.Zone Go.Shelf
attribute [local go_sem] Zone.zone Zone.stepZ Zone.fill Zone.lookFs Zone.goes Zone.goesUpon Zone.dropFs Zone.cell_gro Zone.frozen_gro Zone.size_gro Zone.lt_add Zone.drew_gro Zone.tape_gro Zone.keep_refl
attribute [local go_sem] Zone.lt_add2 Zone.lt_add3 Zone.lt_add4 Zone.lt_add5 Zone.lt_add6 Zone.lt_add7 Zone.lt_add8 Zone.lt_add9 Zone.lt_add10 Zone.lt_add11 Zone.lt_add12
attribute [local go_sem high] run_eq_val
theorem k1_any (n : Int) (w : World) : Calls Tryz.prog 26 #[.int .i64 n] w fun e w' => e = .returned (.slice (some ⟨w.heap.size, 0, none⟩) 1 1) ∧ w' = w.alloc (.cells #[.int .u8 1, .int .i64 n, .string ⟨#[]⟩] 61) := by
  go_enter Tryz.func26, Tryz.ntmps26
  go_wp2
  go_ret
  exact ⟨rfl, rfl⟩
theorem srows_k {lo s : Nat} {w : World} (h : SegX lo w s) : Calls Tryz.prog 8 #[.pointer (some ⟨s, 0, none⟩)] w fun e w' => e = .returned (.int .i64 3) ∧ w = w' := by
  obtain ⟨cb, db, fb, A, c, f2, f3, f4, cc, Ad, cd, Af, cf, h1, _⟩ := h
  have HN := Lib.hid (snone_at (n := 0) h1.row)
  have c6 := h1.row.cell 6 _ rfl
  clear h1
  go_enter Tryz.func8, Tryz.ntmps8
  go_wp2_with (go_at_call 17; refine (HN.out).mono ?_; rintro e w' ⟨rfl, rfl⟩)
  go_ret
  exact ⟨rfl, rfl⟩
theorem image_short {S : List Sec} (hS : S.map nbS = nbK) {W : World} {A : Option Addr} {c : Nat} (h : SlB W A c (imageB S ++ [0])) : Calls Tryz.prog 45 #[.slice A (imageB S ++ [0]).length c] W fun e w' => e = .returned (.tuple #[.slice none 0 0, .int .i64 5]) ∧ Keep W w' :=
  (sread_img A c S [0] (imageB S ++ [0]) W rfl h (secs_k S hS) (secs_small hS)).mono fun e w' ⟨⟨_, _, _, hor, _⟩, hk⟩ => by
    rcases hor with ⟨h0, _⟩ | ⟨_, h1⟩
    · cases h0
    · exact ⟨h1, hk⟩
def rwK (g : Nat) : List Rw := [⟨some ⟨g + 1, 0, none⟩, 1, [vK 5]⟩, ⟨some ⟨g + 1 + 1, 0, none⟩, 1, [vK (-1)]⟩, ⟨some ⟨g + 1 + 1 + 1, 0, none⟩, 1, [vK 5]⟩]
set_option maxRecDepth 100000 in
set_option maxHeartbeats 4000000 in
theorem known23_any (w : World) : Calls Tryz.prog 16 #[] w fun e w' => e = .returned (.bool true) ∧ Keep w w' := by
  go_enter Tryz.func16, Tryz.ntmps16
  go_wp2_with (first | (go_at_call 26; refine (k1_any _ _).mono ?_; rintro e w' ⟨rfl, rfl⟩) | (go_at_call 27; refine Zone.hold ?_))
  refine Zone.unhold ?_
  have hk0 : Keep w ((((((w.alloc (.cells #[.string ⟨#[97]⟩, .int .u8 1] 68)).alloc (.cells #[.int .u8 1, .int .i64 5, .string ⟨#[]⟩] 61)).alloc (.cells #[.int .u8 1, .int .i64 (-1), .string ⟨#[]⟩] 61)).alloc (.cells #[.int .u8 1, .int .i64 5, .string ⟨#[]⟩] 61)).alloc (.cells #[.slice (some ⟨w.heap.size + 1, 0, none⟩) 1 1, .slice (some ⟨w.heap.size + 1 + 1, 0, none⟩) 1 1, .slice (some ⟨w.heap.size + 1 + 1 + 1, 0, none⟩) 1 1] 33))) := (by repeat (first | exact Keep.refl _ | apply Keep.alloc | apply Keep.gro | apply Keep.drew | apply Keep.drewN))
  have r0 : Row ((((((w.alloc (.cells #[.string ⟨#[97]⟩, .int .u8 1] 68)).alloc (.cells #[.int .u8 1, .int .i64 5, .string ⟨#[]⟩] 61)).alloc (.cells #[.int .u8 1, .int .i64 (-1), .string ⟨#[]⟩] 61)).alloc (.cells #[.int .u8 1, .int .i64 5, .string ⟨#[]⟩] 61)).alloc (.cells #[.slice (some ⟨w.heap.size + 1, 0, none⟩) 1 1, .slice (some ⟨w.heap.size + 1 + 1, 0, none⟩) 1 1, .slice (some ⟨w.heap.size + 1 + 1 + 1, 0, none⟩) 1 1] 33))) w.heap.size 68 ([colK].flatMap Col.cells) := allocs_at [_, _, _, _, _] w 0 _ rfl
  have r1 : Row ((((((w.alloc (.cells #[.string ⟨#[97]⟩, .int .u8 1] 68)).alloc (.cells #[.int .u8 1, .int .i64 5, .string ⟨#[]⟩] 61)).alloc (.cells #[.int .u8 1, .int .i64 (-1), .string ⟨#[]⟩] 61)).alloc (.cells #[.int .u8 1, .int .i64 5, .string ⟨#[]⟩] 61)).alloc (.cells #[.slice (some ⟨w.heap.size + 1, 0, none⟩) 1 1, .slice (some ⟨w.heap.size + 1 + 1, 0, none⟩) 1 1, .slice (some ⟨w.heap.size + 1 + 1 + 1, 0, none⟩) 1 1] 33))) (w.heap.size + 1) 61 ([vK 5].flatMap Val.cells) := allocs_at [_, _, _, _, _] w 1 _ rfl
  have r2 : Row ((((((w.alloc (.cells #[.string ⟨#[97]⟩, .int .u8 1] 68)).alloc (.cells #[.int .u8 1, .int .i64 5, .string ⟨#[]⟩] 61)).alloc (.cells #[.int .u8 1, .int .i64 (-1), .string ⟨#[]⟩] 61)).alloc (.cells #[.int .u8 1, .int .i64 5, .string ⟨#[]⟩] 61)).alloc (.cells #[.slice (some ⟨w.heap.size + 1, 0, none⟩) 1 1, .slice (some ⟨w.heap.size + 1 + 1, 0, none⟩) 1 1, .slice (some ⟨w.heap.size + 1 + 1 + 1, 0, none⟩) 1 1] 33))) (w.heap.size + 1 + 1) 61 ([vK (-1)].flatMap Val.cells) := allocs_at [_, _, _, _, _] w 2 _ rfl
  have r3 : Row ((((((w.alloc (.cells #[.string ⟨#[97]⟩, .int .u8 1] 68)).alloc (.cells #[.int .u8 1, .int .i64 5, .string ⟨#[]⟩] 61)).alloc (.cells #[.int .u8 1, .int .i64 (-1), .string ⟨#[]⟩] 61)).alloc (.cells #[.int .u8 1, .int .i64 5, .string ⟨#[]⟩] 61)).alloc (.cells #[.slice (some ⟨w.heap.size + 1, 0, none⟩) 1 1, .slice (some ⟨w.heap.size + 1 + 1, 0, none⟩) 1 1, .slice (some ⟨w.heap.size + 1 + 1 + 1, 0, none⟩) 1 1] 33))) (w.heap.size + 1 + 1 + 1) 61 ([vK 5].flatMap Val.cells) := allocs_at [_, _, _, _, _] w 3 _ rfl
  have r4 : Row ((((((w.alloc (.cells #[.string ⟨#[97]⟩, .int .u8 1] 68)).alloc (.cells #[.int .u8 1, .int .i64 5, .string ⟨#[]⟩] 61)).alloc (.cells #[.int .u8 1, .int .i64 (-1), .string ⟨#[]⟩] 61)).alloc (.cells #[.int .u8 1, .int .i64 5, .string ⟨#[]⟩] 61)).alloc (.cells #[.slice (some ⟨w.heap.size + 1, 0, none⟩) 1 1, .slice (some ⟨w.heap.size + 1 + 1, 0, none⟩) 1 1, .slice (some ⟨w.heap.size + 1 + 1 + 1, 0, none⟩) 1 1] 33))) (w.heap.size + 1 + 1 + 1 + 1) 33 ((rwK w.heap.size).flatMap Rw.cells) := allocs_at [_, _, _, _, _] w 4 _ rfl
  generalize ((((((w.alloc (.cells #[.string ⟨#[97]⟩, .int .u8 1] 68)).alloc (.cells #[.int .u8 1, .int .i64 5, .string ⟨#[]⟩] 61)).alloc (.cells #[.int .u8 1, .int .i64 (-1), .string ⟨#[]⟩] 61)).alloc (.cells #[.int .u8 1, .int .i64 5, .string ⟨#[]⟩] 61)).alloc (.cells #[.slice (some ⟨w.heap.size + 1, 0, none⟩) 1 1, .slice (some ⟨w.heap.size + 1 + 1, 0, none⟩) 1 1, .slice (some ⟨w.heap.size + 1 + 1 + 1, 0, none⟩) 1 1] 33))) = w0 at hk0 r0 r1 r2 r3 r4 ⊢
  have hpl : plainNB colK cK0 ((rwK w.heap.size).map (·.vs)) = nbK := plain_k cK0_k
  have hs0 : Sl w0 2 Col.cells (some ⟨w.heap.size, 0, none⟩) 1 [colK] := Row.sl_blk (enc := Col.cells) (k := 2) (c := 1) (xs := [colK]) (fun _ => rfl) r0 (by simp) (by simp) (by omega)
  have hs1 : Sl w0 3 Val.cells (some ⟨w.heap.size + 1, 0, none⟩) 1 [vK 5] := Row.sl_blk (xs := [vK 5]) val_len r1 (by simp) (by simp) (by omega)
  have hs2 : Sl w0 3 Val.cells (some ⟨w.heap.size + 1 + 1, 0, none⟩) 1 [vK (-1)] := Row.sl_blk (xs := [vK (-1)]) val_len r2 (by simp) (by simp) (by omega)
  have hs3 : Sl w0 3 Val.cells (some ⟨w.heap.size + 1 + 1 + 1, 0, none⟩) 1 [vK 5] := Row.sl_blk (xs := [vK 5]) val_len r3 (by simp) (by simp) (by omega)
  have hs4 : Sl w0 1 Rw.cells (some ⟨w.heap.size + 1 + 1 + 1 + 1, 0, none⟩) 3 (rwK w.heap.size) := Row.sl_blk (enc := Rw.cells) (k := 1) (c := 3) (xs := rwK w.heap.size) (fun _ => rfl) r4 (by simp [rwK]) (by simp [rwK]) (by omega)
  have hra : RowsAt w0 (rwK w.heap.size) := fun r hr => by
    simp only [rwK, List.mem_cons, List.not_mem_nil, or_false] at hr
    rcases hr with rfl | rfl | rfl
    · exact hs1
    · exact hs2
    · exact hs3
  have hrl : ∀ r ∈ rwK w.heap.size, r.vs.length ≤ 1000000 := fun r hr => by
    simp only [rwK, List.mem_cons, List.not_mem_nil, or_false] at hr
    rcases hr with rfl | rfl | rfl <;> simp
  refine (build_plain colK cK0 (some ⟨w.heap.size, 0, none⟩) (some ⟨w.heap.size + 1 + 1 + 1 + 1, 0, none⟩) 1 3 (rwK w.heap.size) w0 hs0 cK0_k.fits rfl rfl rfl rfl rfl
    ⟨Sl.nil_ _ (by decide), Sl.nil_ _ (by decide), Sl.nil_ _ (by decide)⟩ (fun bb off e => by cases e) (fun bb off e => by cases e) hs4 hra (by simp [rwK]) hrl terr_k derr_k (fun S' h' => secs_k S' (h'.trans hpl))).mono ?_
  rintro e w1 ⟨v1, S, rfl, hnb, _, hov, hk1⟩
  rw [hpl] at hnb
  obtain ⟨A1, c1, rfl, hsl1⟩ := hov.sl b8_len (by have := imageK_len hnb; omega)
  have HNB := Lib.hid hnb
  have HOV := Lib.hid hov
  have HK1 := Lib.hid (hk0.trans hk1)
  have HS1 := Lib.hid hsl1
  have hil := imageK_len hnb
  have HIL := Lib.hid hil
  have HWZ := Lib.hid (show w.heap.size ≤ w0.heap.size from hk0.size)
  have HWY := Lib.hid (show w0.heap.size ≤ w1.heap.size from hk1.size)
  clear hk0 r0 r1 r2 r3 r4 hpl hnb hov hk1 hsl1 hs0 hs1 hs2 hs3 hs4 hra hrl
  go_wp2_with (go_at_call 28; refine Zone.hold ?_)
  refine Zone.unhold ?_
  refine (open_k A1 c1 S w1 HNB.out HS1.out).mono ?_
  rintro e w2 ⟨s, rfl, hsx, hk2⟩
  have HX2 := Lib.hid hsx
  have HK2 := Lib.hid hk2
  clear hsx hk2
  have hlen : (imageB S ++ [0]).length = (imageB S).length + 1 := by simp
  obtain ⟨n, hn⟩ : ∃ n, (imageB S).length = n := ⟨_, rfl⟩
  rw [hn] at hil hlen ⊢
  have HN := Lib.hid hn
  have HLEN := Lib.hid hlen
  clear hn hlen
  go_wp2_with (at_builtin; refine Zone.hold ?_)
  refine Zone.unhold ?_
  have hk3 : Keep w1 (w2.alloc (.cells #[.int .u8 0] 5)) := HK2.out.trans (by repeat (first | exact Keep.refl _ | apply Keep.alloc | apply Keep.gro | apply Keep.drew | apply Keep.drewN))
  have HX3 := Lib.hid (HX2.out.keep (show Keep w2 (w2.alloc (.cells #[.int .u8 0] 5)) from (by repeat (first | exact Keep.refl _ | apply Keep.alloc | apply Keep.gro | apply Keep.drew | apply Keep.drewN))))
  have ho3 := Zone.Own.keep HOV.out hk3
  rw [HN.out] at ho3
  refine wpList_app elt_u8 b8_len b8_one rfl (.tmp 32) (.tmp 33) rfl (ys := [(0 : UInt8)]) ho3 rfl rfl (sl_one (enc := b8) (k := 1) (c := 1) (0 : UInt8) (by omega) (by omega) (b8_at _ (by simp [go_sem]))) (by rw [HN.out]; simp; omega) (Nat.le_trans HWY.out hk3.size) ?_
  intro v4 w4 hown4 hg4 _
  obtain ⟨A4, c4, hv4, hsl4⟩ := hown4.sl b8_len (by rw [HLEN.out]; omega)
  have HSH := Lib.hid (show ∀ W, Keep w4 W → Calls Tryz.prog 45 #[.slice A4 (n + 1) c4] W fun e w' => e = .returned (.tuple #[.slice none 0 0, .int .i64 5]) ∧ Keep W w' from fun W hk => by
    have := image_short HNB.out (hsl4.keep hk)
    rwa [HLEN.out] at this)
  rw [HLEN.out] at hv4
  subst hv4
  have HX4 := Lib.hid (HX3.out.turn (w' := w4) (S := (Value.slice A1 n c1).ownBlock.toList) ⟨hg4.os, hg4.tape, hg4.output, hg4.size, fun i hi hn => hg4.block i hi (fun e => hn (by rw [← e]; simp))⟩ (fun g hg => by
    have h1 : (Value.slice A1 (imageB S).length c1).ownBlock = some g := by
      rw [HN.out]
      simpa using hg
    exact (HOV.out.lt g h1).2))
  have HK4 := Lib.hid (Keep.grown (HK1.out.trans hk3) hg4 (fun k e => by
    have h1 : (Value.slice A1 (imageB S).length c1).ownBlock = some k := by rw [HN.out]; exact e
    exact Nat.le_trans HWZ.out (HOV.out.lt k h1).1))
  clear hown4 hg4 hsl4 hk3 ho3 HX3 HX2 HK2 HK1 HOV HS1
  go_wp2_with (go_at_call 28; refine Zone.hold ?_)
  refine Zone.unhold ?_
  refine (open_err _ 5 (by decide) w4 HSH.out).mono ?_
  rintro e w5 ⟨rfl, hk5⟩
  have HX5 := Lib.hid (HX4.out.keep hk5)
  have HK5 := Lib.hid (HK4.out.trans hk5)
  clear hk5 HX4 HK4 HSH
  go_wp2_with (go_at_call 28; refine Zone.hold ?_)
  refine Zone.unhold ?_
  refine (open_err _ 4 (by decide) w5 (fun W hk => sread_nil W)).mono ?_
  rintro e w6 ⟨rfl, hk6⟩
  have HX6 := Lib.hid (HX5.out.keep hk6)
  have HK6 := Lib.hid (HK5.out.trans hk6)
  have HRS := Lib.hid (srows_k HX6.out)
  clear hk6 HX5 HK5
  go_wp2_with (first | (go_at_call 8; refine (HRS.out).mono ?_; rintro e w' ⟨rfl, rfl⟩) | (go_at_call 4; refine Zone.hold ?_))
  refine Zone.unhold ?_
  obtain ⟨cb, db, fb, A, c, f2, f3, f4, cc, Ad, cd, Af, cf, hseg, _⟩ := HX6.out
  refine (srow_k 1 (by omega) hseg).mono ?_
  rintro e w7 ⟨A7, c7, rfl, hown7, hk7⟩
  have hrk : rowK 1 = vK (-1) := rfl
  rw [hrk] at hown7
  obtain ⟨_, _, hv7, hsl7⟩ := hown7.sl val_len (by simp)
  injection hv7 with e1 e2 e3
  clear e2
  subst e1; subst e3
  obtain ⟨b7, o7, rfl, hb7, y0, y1, y2⟩ := sl_val hsl7 0 (by simp)
  have HK7 := Lib.hid (HK6.out.trans hk7)
  clear hown7 hk7 hsl7 hseg HX6 HRS
  have z0 : w7.cell? ⟨b7, o7, none⟩ = some (.int .u8 1) := by simpa [vK] using y0
  have z1 : w7.cell? ⟨b7, o7 + 1, none⟩ = some (.int .i64 (-1)) := by simpa [vK] using y1
  have z2 : w7.cell? ⟨b7, o7 + 2, none⟩ = some (.string ⟨#[]⟩) := by simpa [vK] using y2
  have hec : eqC 1 (-1) 1 (-1) ⟨#[]⟩ ⟨#[]⟩ = true := by simp [eqC]
  clear y0 y1 y2 hrk
  go_wp2
  first | refine Zone.wp_region_all_gro (by kernel_rfl) (by kernel_rfl) ?_ | refine Zone.wp_region_all (by kernel_rfl) (by kernel_rfl) ?_
  repeat
    refine Zone.wpZ_step (fun K hK => ?_)
    go_simp
    first
    | (refine hK _ _ ?_; clear hK K)
    | (apply Exists.intro
       refine ⟨fun p => ?_, hK _ _ ?_⟩
       (fail)
       clear hK K)
  refine Zone.wpZ_free 82 (fun u W => ∃ g, u = .slice (some ⟨g, 0, none⟩) 1 1 ∧ Sl W 3 Val.cells (some ⟨g, 0, none⟩) 1 [vK (-1)]) rfl (fun _ W W' hk ⟨g, h1, h2⟩ => ⟨g, h1, h2.keep hk⟩) ?_ ?_
  · intro p
    simp only [Zone.fill, Zone.lookFs, List.filter_nil]
    go_simp
    go_at_call 26
    refine (k1_any (-1) _).mono ?_
    rintro e w' ⟨rfl, rfl⟩
    exact ⟨_, rfl, ⟨_, rfl, Row.sl_blk (enc := Val.cells) (k := 3) (c := 1) (xs := [vK (-1)]) val_len (row_alloc _ _ _) (by simp) (by simp) (by omega)⟩, Keep.alloc (Keep.refl _) _⟩
  refine Zone.wpZ_free 83 (fun u W => ∃ g, u = .pointer (some ⟨g, 0, none⟩) ∧ Sl W 3 Val.cells (some ⟨g, 0, none⟩) 1 [vK (-1)]) rfl (fun _ W W' hk ⟨g, h1, h2⟩ => ⟨g, h1, h2.keep hk⟩) ?_ ?_
  · refine step_free1 (d := 82) (by rfl) (fun p v hv => ?_)
    obtain ⟨g, rfl, hsl⟩ := hv
    go_simp
  refine Zone.wpZ_step (fun K hK => ?_)
  refine Zone.zone_free1 (.agg #[.int .u8 1, .int .i64 (-1), .string ⟨#[]⟩]) (d := 83) (by rfl) (fun p v hv => ?_) (hK _ _ ?_)
  · obtain ⟨g, rfl, hsl⟩ := hv
    obtain ⟨g', o', hA, hb, y0, y1, y2⟩ := sl_val hsl 0 (by simp)
    cases hA
    go_simp
    exact ⟨rfl, rfl, rfl⟩
  clear hK K
  refine Zone.wpZ_step (fun K hK => ?_)
  unfold Zone.zone Zone.stepZ
  rw [Zone.lookFs_nil (by rfl)]
  go_simp
  (refine hK _ _ ?_; clear hK K)
  refine Zone.wpZ_step (fun K hK => ?_)
  unfold Zone.zone Zone.stepZ
  rw [Zone.lookFs_nil (by rfl)]
  go_simp
  (refine hK _ _ ?_; clear hK K)
  refine Zone.wpZ_step (fun K hK => ?_)
  unfold Zone.zone Zone.stepZ
  rw [Zone.lookFs_nil (by rfl)]
  go_simp
  (refine hK _ _ ?_; clear hK K)
  refine Zone.wpZ_nil ?_
  intro p
  simp only [Zone.fill]
  rintro v8 ⟨g8, rfl, -⟩ v9 ⟨g9, rfl, -⟩
  have HK8 := Lib.hid (HK7.out.trans (below_gro w7 p))
  generalize w7.gro p = w8 at HK8 ⊢
  clear z0 z1 z2 hec hb7
  go_wp2
  go_ret
  exact ⟨rfl, HK8.out⟩
end Go.Proofs.YtmcaednlilhnoaaGreatDoor
