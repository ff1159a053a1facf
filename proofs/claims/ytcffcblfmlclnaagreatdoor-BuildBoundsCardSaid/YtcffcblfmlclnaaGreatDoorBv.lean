
/- BuildBounds: the law answers true. -/
import Derived.WalkKit
import Derived.Lib.Hide
import Derived.WalkSpells
import Derived.WalkLawsBesides
import Derived.BigQuiet
import Derived.Shelf.Abstract
import Derived.Test.YtcffcblfmlclnaaGreatDoorBq
import Derived.Test.YtcffcblfmlclnaaGreatDoorBd2
namespace Go.Proofs.YtcffcblfmlclnaaGreatDoor
open Go.RowKit Go.Zone Go.Shelf
attribute [local go_sem] Zone.zone Zone.stepZ Zone.fill Zone.lookFs Zone.goes Zone.goesUpon Zone.dropFs Zone.cell_gro Zone.frozen_gro Zone.size_gro Zone.lt_add Zone.drew_gro Zone.tape_gro Zone.keep_refl
attribute [local go_sem] Zone.lt_add2 Zone.lt_add3 Zone.lt_add4 Zone.lt_add5 Zone.lt_add6 Zone.lt_add7 Zone.lt_add8 Zone.lt_add9 Zone.lt_add10 Zone.lt_add11 Zone.lt_add12
set_option maxRecDepth 100000 in
set_option maxHeartbeats 4000000 in
theorem bounds_law (A B : Option Addr) (n m : Nat) (cs : List Col) (c : Cfg) (rows texts : Int) (many : List Int) (w : World) (h : Sl w 2 Col.cells A n cs) (hz : ∀ x ∈ cs, x.name.size ≤ 140737488355328) (hc : CfgAt w c) (hm : Sl w 1 i64V B m many) :
    Calls Tryz.prog 3 #[.slice A cs.length n, c.v, .int .i64 rows, .slice B many.length m, .int .i64 texts] w fun e w' => e = .returned (.bool true) ∧ Keep w w' := by
  have HG := Lib.hid (fun W (hW : Keep w W) => rgreat_any A n cs c W (h.keep hW) hz (hc.keep hW))
  have HB := Lib.hid (fun W (hW : Keep w W) => bound_any A B n m cs c rows texts many W (h.keep hW) hz (hc.keep hW) (hm.keep hW))
  have HR := Lib.hid (fun W (hW : Keep w W) => rbound_any A B n m cs c rows texts many W (h.keep hW) hz (hc.keep hW) (hm.keep hW))
  have hl := sl_len h
  have hl2 := sl_len hm
  generalize boundR cs c rows many texts = x at HB HR
  obtain ⟨s0, iA, ic, iv, rA, rc, rv, sA, sc, sp, lf⟩ := c
  simp only [Cfg.v]
  clear h hz hc hm
  go_enter Tryz.func3, Tryz.ntmps3
  go_upto_region 1 with fail
  have hB : BoxA w (w.alloc (.cells #[.int .i64 s0, .slice iA iv.length ic, .slice rA rv.length rc, .slice sA sp.length sc, .int .i64 lf] 26)) [.int .i64 s0, .slice iA iv.length ic, .slice rA rv.length rc, .slice sA sp.length sc, .int .i64 lf] := BoxA.start (t := 26) (Keep.refl _)
  generalize hwb : World.alloc w _ = wb at hB ⊢
  have hbs := hB.lt
  have x0 := hB.at_ 0 _ rfl
  have x1 := hB.at_ 1 _ rfl
  have x2 := hB.at_ 2 _ rfl
  have x3 := hB.at_ 3 _ rfl
  have x4 := hB.at_ 4 _ rfl
  have HKB := Lib.hid hB.keep
  have HX0 := Lib.hid x0
  have HX1 := Lib.hid x1
  have HX2 := Lib.hid x2
  have HX3 := Lib.hid x3
  have HX4 := Lib.hid x4
  clear hwb hB
  generalize w.heap.size = g0 at hbs x0 x1 x2 x3 x4 HX0 HX1 HX2 HX3 HX4 ⊢
  go_wp2_with (go_at_call 4; refine Zone.hold ?_)
  refine Zone.unhold ?_
  refine (HG.out _ HKB.out).mono ?_
  rintro e w1 ⟨⟨b, rfl⟩, hk1⟩
  have HK1 := Lib.hid (HKB.out.trans hk1)
  clear x0 x1 x2 x3 x4
  have x0 := box_cell hk1 hbs HX0.out
  have x1 := box_cell hk1 hbs HX1.out
  have x2 := box_cell hk1 hbs HX2.out
  have x3 := box_cell hk1 hbs HX3.out
  have x4 := box_cell hk1 hbs HX4.out
  have hgw : g0 < w1.heap.size := block_lt_of_cell x0
  clear hk1 HG
  cases b
  · by_cases hm3 : (300 : Int) < (many.length : Int)
    · have hd : decide ((300 : Int) < (many.length : Int)) = true := decide_eq_true hm3
      go_wp2_with (go_at_call 5; refine (known22_any _).mono ?_; rintro e w' ⟨rfl, hk⟩; (first | obtain ⟨p, rfl⟩ := Zone.gro_of_gro _ _ hk | obtain ⟨p, rfl⟩ := Zone.gro_of_below _ hk); clear hk)
      all_goals go_ret
      all_goals exact ⟨rfl, HK1.out.trans (by repeat (first | exact Keep.refl _ | apply Keep.alloc | apply Keep.gro | apply Keep.drew | apply Keep.drewN))⟩
    · have hd : decide ((300 : Int) < (many.length : Int)) = false := decide_eq_false hm3
      go_wp2_with fail
      all_goals go_region_with (first | (go_at_call 6; refine (HB.out _ (HK1.out.trans (by repeat (first | exact Keep.refl _ | apply Keep.alloc | apply Keep.gro | apply Keep.drew | apply Keep.drewN)))).mono ?_; rintro e w' ⟨rfl, hk⟩; obtain ⟨p, rfl⟩ := Zone.gro_of_below _ hk; have hk9 : Keep w1 _ := Keep.trans (by repeat (first | exact Keep.refl _ | apply Keep.alloc | apply Keep.gro | apply Keep.drew | apply Keep.drewN)) hk; have y0 := box_cell hk9 hgw x0; have y1 := box_cell hk9 hgw x1; have y2 := box_cell hk9 hgw x2; have y3 := box_cell hk9 hgw x3; have y4 := box_cell hk9 hgw x4; have hgy := block_lt_of_cell y0; simp only at hgy; clear hk hk9) | (go_at_call 7; refine (HR.out _ (HK1.out.trans (by repeat (first | exact Keep.refl _ | apply Keep.alloc | apply Keep.gro | apply Keep.drew | apply Keep.drewN)))).mono ?_; rintro e w' ⟨rfl, hk⟩; obtain ⟨p, rfl⟩ := Zone.gro_of_below _ hk; have hk9 : Keep w1 _ := Keep.trans (by repeat (first | exact Keep.refl _ | apply Keep.alloc | apply Keep.gro | apply Keep.drew | apply Keep.drewN)) hk; have y0 := box_cell hk9 hgw x0; have y1 := box_cell hk9 hgw x1; have y2 := box_cell hk9 hgw x2; have y3 := box_cell hk9 hgw x3; have y4 := box_cell hk9 hgw x4; have hgy := block_lt_of_cell y0; simp only at hgy; clear hk hk9) | (go_at_call 5; refine (known22_any _).mono ?_; rintro e w' ⟨rfl, hk⟩; (first | obtain ⟨p, rfl⟩ := Zone.gro_of_gro _ _ hk | obtain ⟨p, rfl⟩ := Zone.gro_of_below _ hk); clear hk))
      all_goals go_wp2
      all_goals go_ret
      all_goals exact ⟨rfl, HK1.out.trans (by repeat (first | exact Keep.refl _ | apply Keep.alloc | apply Keep.gro | apply Keep.drew | apply Keep.drewN))⟩
  · go_wp2_with (go_at_call 5; refine (known22_any _).mono ?_; rintro e w' ⟨rfl, hk⟩; (first | obtain ⟨p, rfl⟩ := Zone.gro_of_gro _ _ hk | obtain ⟨p, rfl⟩ := Zone.gro_of_below _ hk); clear hk)
    all_goals go_ret
    all_goals exact ⟨rfl, HK1.out.trans (by repeat (first | exact Keep.refl _ | apply Keep.alloc | apply Keep.gro | apply Keep.drew | apply Keep.drewN))⟩
end Go.Proofs.YtcffcblfmlclnaaGreatDoor
