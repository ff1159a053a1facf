
/- The table, no rows: May, Copy, Column, Sorted; the maker's put. -/
import Derived.WalkKit
import Derived.Lib.Hide
import Derived.WalkSpells
import Derived.WalkLawsBesides
import Derived.BigQuiet
import Derived.Shelf.Abstract
import Derived.Test.YtmcaednlilhnoaaGreatDoorBe2
namespace Go.Proofs.YtmcaednlilhnoaaGreatDoor
open Go.RowKit Go.Zone Go.Shelf
attribute [local go_sem] Zone.zone Zone.stepZ Zone.fill Zone.lookFs Zone.goes Zone.goesUpon Zone.dropFs Zone.cell_gro Zone.frozen_gro Zone.size_gro Zone.lt_add Zone.drew_gro Zone.tape_gro Zone.keep_refl
attribute [local go_sem] Zone.lt_add2 Zone.lt_add3 Zone.lt_add4 Zone.lt_add5 Zone.lt_add6 Zone.lt_add7 Zone.lt_add8 Zone.lt_add9 Zone.lt_add10 Zone.lt_add11 Zone.lt_add12
theorem tmay_zero (A B : Option Addr) (n m : Nat) (cs : List Col) (w : World) (h : Sl w 2 Col.cells A n cs) (hz : ∀ x ∈ cs, x.name.size ≤ 140737488355328) (hm : MayP cs) :
    Calls Tryz.prog 54 #[.slice A cs.length n, .slice B 0 m] w fun e w' => e = .returned (.int .i64 0) ∧ Keep w w' := by
  have HM := Lib.hid (smay_any A n cs w h hz)
  have hq := pB_yes hm
  clear h hm
  go_enter Tryz.func54, Tryz.ntmps54
  go_wp2_with (go_at_call 104; refine (HM.out).mono ?_; rintro e w' ⟨rfl, hk⟩; (first | obtain ⟨p, rfl⟩ := Zone.gro_of_gro _ _ hk | obtain ⟨p, rfl⟩ := Zone.gro_of_below _ hk); clear hk)
  refine wp_loop_rounds 1 ?_
  rw [rounds_succ]
  go_wp2
  go_ret
  exact ⟨rfl, (by repeat (first | exact Keep.refl _ | apply Keep.alloc | apply Keep.gro | apply Keep.drew | apply Keep.drewN))⟩
theorem tcopy_zero (B : Option Addr) (m : Nat) (w : World) : Calls Tryz.prog 55 #[.slice B 0 m] w fun e w' => ∃ g, e = .returned (.slice (some ⟨g, 0, none⟩) 0 0) ∧ w.heap.size ≤ g ∧ Keep w w' := by
  have hm := makeR_zero
  go_enter Tryz.func55, Tryz.ntmps55
  go_wp2
  refine wp_loop_rounds 1 ?_
  rw [rounds_succ]
  go_wp2
  go_ret
  exact ⟨w.heap.size, rfl, Nat.le_refl _, (by repeat (first | exact Keep.refl _ | apply Keep.alloc | apply Keep.gro | apply Keep.drew | apply Keep.drewN))⟩
theorem tcol_zero (B : Option Addr) (m : Nat) (i : Int) (w : World) : Calls Tryz.prog 62 #[.slice B 0 m, .int .i64 i] w fun e w' => ∃ g, e = .returned (.slice (some ⟨g, 0, none⟩) 0 0) ∧ w.heap.size ≤ g ∧ Keep w w' := by
  have hm := makeV_zero
  go_enter Tryz.func62, Tryz.ntmps62
  go_wp2
  refine wp_loop_rounds 1 ?_
  rw [rounds_succ]
  go_wp2
  go_ret
  exact ⟨w.heap.size, rfl, Nat.le_refl _, (by repeat (first | exact Keep.refl _ | apply Keep.alloc | apply Keep.gro | apply Keep.drew | apply Keep.drewN))⟩
set_option maxHeartbeats 1000000 in
theorem sorted_zero (A B : Option Addr) (n m : Nat) (cs : List Col) (c : Cfg) (w : World) (h : Sl w 2 Col.cells A n cs) (hz : ∀ x ∈ cs, x.name.size ≤ 140737488355328) (hc : CfgAt w c) (hf : Fits cs c) (hs : c.sort = -1) :
    Calls Tryz.prog 33 #[.slice A cs.length n, c.v, .slice B 0 m] w fun e w' => ∃ g, e = .returned (.tuple #[.slice (some ⟨g, 0, none⟩) 0 0, .int .i64 0]) ∧ w.heap.size ≤ g ∧ Keep w w' := by
  have HF := Lib.hid (fun W (hW : Keep w W) => fits_any A n cs c W (h.keep hW) hz (hc.keep hW))
  have HM := Lib.hid (fun W (hW : Keep w W) => tmay_zero A B n m cs W (h.keep hW) hz hf.may)
  have hq := pB_yes hf
  obtain ⟨s0, iA, ic, iv, rA, rc, rv, sA, sc, sp, lf⟩ := c
  simp only at hs
  subst hs
  simp only [Cfg.v]
  clear h hc hf
  go_enter Tryz.func33, Tryz.ntmps33
  go_upto_region 1 with fail
  have hB : BoxA w (w.alloc (.cells #[.int .i64 (-1), .slice iA iv.length ic, .slice rA rv.length rc, .slice sA sp.length sc, .int .i64 lf] 26)) [.int .i64 (-1), .slice iA iv.length ic, .slice rA rv.length rc, .slice sA sp.length sc, .int .i64 lf] := BoxA.start (t := 26) (Keep.refl _)
  generalize hwb : World.alloc w _ = wb at hB ⊢
  have hbs := hB.lt
  have x0 := hB.at_ 0 _ rfl
  have x1 := hB.at_ 1 _ rfl
  have x2 := hB.at_ 2 _ rfl
  have x3 := hB.at_ 3 _ rfl
  have x4 := hB.at_ 4 _ rfl
  have HKB := Lib.hid hB.keep
  have HX0 := Lib.hid x0
  clear hwb hB
  generalize w.heap.size = g0 at hbs x0 x1 x2 x3 x4 HX0 ⊢
  go_wp2_with (go_at_call 53; refine Zone.hold ?_)
  refine Zone.unhold ?_
  refine (HF.out _ HKB.out).mono ?_
  rintro e w0 ⟨rfl, hk0⟩
  have HK0 := Lib.hid hk0
  clear x0 x1 x2 x3 x4 HF hk0
  go_wp2_with (go_at_call 54; refine Zone.hold ?_)
  refine Zone.unhold ?_
  refine (HM.out _ (HKB.out.trans HK0.out)).mono ?_
  rintro e w1 ⟨rfl, hk1⟩
  have HK1 := Lib.hid (HK0.out.trans hk1)
  clear hk1
  go_wp2_with (go_at_call 55; refine Zone.hold ?_)
  refine Zone.unhold ?_
  refine (tcopy_zero B m _).mono ?_
  rintro e w2 ⟨g, rfl, hg, hk2⟩
  have HK2 := Lib.hid (HK1.out.trans hk2)
  have HG := Lib.hid (Nat.le_trans (HKB.out.trans HK1.out).size hg)
  have y0 := box_cell HK2.out hbs HX0.out
  have hgw : g0 < w2.heap.size := block_lt_of_cell y0
  clear hk2 hg
  go_wp2
  exact bodyPost_ret (v := .tuple #[.slice (some ⟨g, 0, none⟩) 0 0, .int .i64 0]) (by simp [results, Tryz.results33, go_sem]) rfl ⟨g, rfl, HG.out, HKB.out.trans HK2.out⟩
end Go.Proofs.YtmcaednlilhnoaaGreatDoor
