
/- segment: the small functions; a segment that is not there, or was not made. -/
import Derived.WalkKit
import Derived.Lib.Hide
import Derived.WalkSpells
import Derived.WalkLawsBesides
import Derived.BigQuiet
import Derived.Shelf.Abstract
import Derived.Test.YtmcaednlilhnoaaGreatDoorJd
import Derived.Test.YtmcaednlilhnoaaGreatDoorJe
namespace Go.Proofs.YtmcaednlilhnoaaGreatDoor
open Go.RowKit Go.Zone Go.Shelf
attribute [local go_sem] Zone.zone Zone.stepZ Zone.fill Zone.lookFs Zone.goes Zone.goesUpon Zone.dropFs Zone.cell_gro Zone.frozen_gro Zone.size_gro Zone.lt_add Zone.drew_gro Zone.tape_gro Zone.keep_refl
attribute [local go_sem] Zone.lt_add2 Zone.lt_add3 Zone.lt_add4 Zone.lt_add5 Zone.lt_add6 Zone.lt_add7 Zone.lt_add8 Zone.lt_add9 Zone.lt_add10 Zone.lt_add11 Zone.lt_add12
theorem must_ok (w : World) : Calls Tryz.prog 46 #[.int .i64 0] w fun e w' => e = .returned (.tuple #[]) ∧ w = w' := by
  go_enter Tryz.func46, Tryz.ntmps46
  go_wp2
  go_end0
  exact ⟨rfl, rfl⟩
theorem so_ok (w : World) : Calls Tryz.prog 50 #[.bool true] w fun e w' => e = .returned (.tuple #[]) ∧ w = w' := by
  go_enter Tryz.func50, Tryz.ntmps50
  go_wp2
  go_end0
  exact ⟨rfl, rfl⟩
theorem must_no (x : Int) (hx : ¬ x = 0) (w : World) : Calls Tryz.prog 46 #[.int .i64 x] w fun e w' => e = .panicked [{ v := .iface 108 (.int .i64 x), recovered := false }] ∧ w = w' := by
  go_enter Tryz.func46, Tryz.ntmps46
  go_wp2
  exact ⟨rfl, rfl, rfl⟩
/-- no segment, or one that was not made -/
def NoSeg (w : World) (p : Option Addr) : Prop := p = none ∨ ∃ b, p = some ⟨b, 0, none⟩ ∧ Row w b 30 [.slice none 0 0, .int .i64 0, .slice none 0 0, .slice none 0 0, .slice none 0 0, .int .i64 0, .int .i64 0, .slice none 0 0, .pointer none]
section
variable {w w' : World} {p : Option Addr}
theorem NoSeg.keep (h : NoSeg w p) (hk : Keep w w') : NoSeg w' p := by
  rcases h with h | ⟨b, h, k⟩
  · exact .inl h
  · exact .inr ⟨b, h, k.keep hk⟩
theorem snone_no (h : NoSeg w p) : Calls Tryz.prog 17 #[.pointer p] w fun e w' => e = .returned (.bool true) ∧ w = w' := by
  rcases h with rfl | ⟨b, rfl, k⟩
  · go_enter Tryz.func17, Tryz.ntmps17
    go_wp2
    go_ret
    exact ⟨rfl, rfl⟩
  · have c0 := k.cell 0 _ rfl
    clear k
    go_enter Tryz.func17, Tryz.ntmps17
    go_wp2
    go_ret
    exact ⟨rfl, rfl⟩
theorem srow_no (i : Int) (h : NoSeg w p) : Calls Tryz.prog 4 #[.pointer p, .int .i64 i] w fun e w' => e = .returned (.tuple #[.slice none 0 0, .int .i64 1]) ∧ Keep w w' := by
  have H := Lib.hid (snone_no h)
  clear h
  go_enter Tryz.func4, Tryz.ntmps4
  go_wp2_with (go_at_call 17; refine (H.out).mono ?_; rintro e w' ⟨rfl, rfl⟩)
  go_ret2
  exact ⟨rfl, (by repeat (first | exact Keep.refl _ | apply Keep.alloc | apply Keep.gro | apply Keep.drew | apply Keep.drewN))⟩
theorem scols_no (h : NoSeg w p) : Calls Tryz.prog 5 #[.pointer p] w fun e w' => e = .returned (.slice none 0 0) ∧ Keep w w' := by
  have H := Lib.hid (snone_no h)
  clear h
  go_enter Tryz.func5, Tryz.ntmps5
  go_wp2_with (go_at_call 17; refine (H.out).mono ?_; rintro e w' ⟨rfl, rfl⟩)
  go_ret
  exact ⟨rfl, (by repeat (first | exact Keep.refl _ | apply Keep.alloc | apply Keep.gro | apply Keep.drew | apply Keep.drewN))⟩
theorem sconf_no (h : NoSeg w p) : Calls Tryz.prog 7 #[.pointer p] w fun e w' => e = .returned (.agg #[.int .i64 0, .slice none 0 0, .slice none 0 0, .slice none 0 0, .int .i64 0]) ∧ Keep w w' := by
  have H := Lib.hid (fun W (hk : Keep w W) => snone_no (w := W) (h.keep hk))
  clear h
  go_enter Tryz.func7, Tryz.ntmps7
  go_wp2_with (go_at_call 17; refine (H.out _ (by repeat (first | exact Keep.refl _ | apply Keep.alloc | apply Keep.gro | apply Keep.drew | apply Keep.drewN))).mono ?_; rintro e w' ⟨rfl, rfl⟩)
  exact bodyPost_ret (v := .agg #[.int .i64 0, .slice none 0 0, .slice none 0 0, .slice none 0 0, .int .i64 0]) (by simp [results, Tryz.results7, go_sem]) rfl ⟨rfl, (by repeat (first | exact Keep.refl _ | apply Keep.alloc | apply Keep.gro | apply Keep.drew | apply Keep.drewN | (refine Keep.setCell ?_ (by simp) _)))⟩
theorem srows_no (h : NoSeg w p) : Calls Tryz.prog 8 #[.pointer p] w fun e w' => e = .returned (.int .i64 0) ∧ Keep w w' := by
  have H := Lib.hid (snone_no h)
  clear h
  go_enter Tryz.func8, Tryz.ntmps8
  go_wp2_with (go_at_call 17; refine (H.out).mono ?_; rintro e w' ⟨rfl, rfl⟩)
  go_ret
  exact ⟨rfl, (by repeat (first | exact Keep.refl _ | apply Keep.alloc | apply Keep.gro | apply Keep.drew | apply Keep.drewN))⟩
theorem sat_no (i : Int) (h : NoSeg w p) : Calls Tryz.prog 25 #[.pointer p, .int .i64 i] w fun e w' => e = .returned (.agg #[.pointer none, .pointer none, .pointer none, .pointer none, .pointer none, .pointer none]) ∧ Keep w w' := by
  have H := Lib.hid (fun W (hk : Keep w W) => snone_no (w := W) (h.keep hk))
  clear h
  go_enter Tryz.func25, Tryz.ntmps25
  go_wp2_with (go_at_call 17; refine (H.out _ (by repeat (first | exact Keep.refl _ | apply Keep.alloc | apply Keep.gro | apply Keep.drew | apply Keep.drewN))).mono ?_; rintro e w' ⟨rfl, rfl⟩)
  exact bodyPost_ret (v := .agg #[.pointer none, .pointer none, .pointer none, .pointer none, .pointer none, .pointer none]) (by simp [results, Tryz.results25, go_sem]) rfl ⟨rfl, (by repeat (first | exact Keep.refl _ | apply Keep.alloc | apply Keep.gro | apply Keep.drew | apply Keep.drewN | (refine Keep.setCell ?_ (by simp) _)))⟩
set_option maxRecDepth 100000 in
theorem sdict_no (i : Int) (h : NoSeg w p) : Calls Tryz.prog 9 #[.pointer p, .int .i64 i] w fun e w' => e = .returned (.pointer none) ∧ Keep w w' := by
  have hfld : ∀ W, Sem.run Tryz.prog (Instr.field 57 (.agg #[.pointer none, .pointer none, .pointer none, .pointer none, .pointer none, .pointer none]) 0) W = Result.ok (.pointer none) W := fun _ => by kernel_rfl
  have H := Lib.hid (fun i W (hk : Keep w W) => sat_no (w := W) i (h.keep hk))
  have HN := Lib.hid (fun W (hk : Keep w W) => snone_no (w := W) (h.keep hk))
  clear h
  go_enter Tryz.func9, Tryz.ntmps9
  go_wp2_with (first | (go_at_call 25; refine (H.out _ _ (by repeat (first | exact Keep.refl _ | apply Keep.alloc | apply Keep.gro | apply Keep.drew | apply Keep.drewN))).mono ?_; rintro e w' ⟨rfl, hk⟩; (first | obtain ⟨p, rfl⟩ := Zone.gro_of_gro _ _ hk | obtain ⟨p, rfl⟩ := Zone.gro_of_below _ hk); clear hk) | (go_at_call 17; refine (HN.out _ (by repeat (first | exact Keep.refl _ | apply Keep.alloc | apply Keep.gro | apply Keep.drew | apply Keep.drewN))).mono ?_; rintro e w' ⟨rfl, rfl⟩))
  go_ret
  exact ⟨rfl, (by repeat (first | exact Keep.refl _ | apply Keep.alloc | apply Keep.gro | apply Keep.drew | apply Keep.drewN))⟩
set_option maxRecDepth 100000 in
theorem sforw_no (i : Int) (h : NoSeg w p) : Calls Tryz.prog 10 #[.pointer p, .int .i64 i] w fun e w' => e = .returned (.pointer none) ∧ Keep w w' := by
  have hfld : ∀ W, Sem.run Tryz.prog (Instr.field 57 (.agg #[.pointer none, .pointer none, .pointer none, .pointer none, .pointer none, .pointer none]) 1) W = Result.ok (.pointer none) W := fun _ => by kernel_rfl
  have H := Lib.hid (fun i W (hk : Keep w W) => sat_no (w := W) i (h.keep hk))
  have HN := Lib.hid (fun W (hk : Keep w W) => snone_no (w := W) (h.keep hk))
  clear h
  go_enter Tryz.func10, Tryz.ntmps10
  go_wp2_with (first | (go_at_call 25; refine (H.out _ _ (by repeat (first | exact Keep.refl _ | apply Keep.alloc | apply Keep.gro | apply Keep.drew | apply Keep.drewN))).mono ?_; rintro e w' ⟨rfl, hk⟩; (first | obtain ⟨p, rfl⟩ := Zone.gro_of_gro _ _ hk | obtain ⟨p, rfl⟩ := Zone.gro_of_below _ hk); clear hk) | (go_at_call 17; refine (HN.out _ (by repeat (first | exact Keep.refl _ | apply Keep.alloc | apply Keep.gro | apply Keep.drew | apply Keep.drewN))).mono ?_; rintro e w' ⟨rfl, rfl⟩))
  go_ret
  exact ⟨rfl, (by repeat (first | exact Keep.refl _ | apply Keep.alloc | apply Keep.gro | apply Keep.drew | apply Keep.drewN))⟩
set_option maxRecDepth 100000 in
theorem smetr_no (i : Int) (h : NoSeg w p) : Calls Tryz.prog 11 #[.pointer p, .int .i64 i] w fun e w' => e = .returned (.pointer none) ∧ Keep w w' := by
  have hfld : ∀ W, Sem.run Tryz.prog (Instr.field 57 (.agg #[.pointer none, .pointer none, .pointer none, .pointer none, .pointer none, .pointer none]) 2) W = Result.ok (.pointer none) W := fun _ => by kernel_rfl
  have H := Lib.hid (fun i W (hk : Keep w W) => sat_no (w := W) i (h.keep hk))
  have HN := Lib.hid (fun W (hk : Keep w W) => snone_no (w := W) (h.keep hk))
  clear h
  go_enter Tryz.func11, Tryz.ntmps11
  go_wp2_with (first | (go_at_call 25; refine (H.out _ _ (by repeat (first | exact Keep.refl _ | apply Keep.alloc | apply Keep.gro | apply Keep.drew | apply Keep.drewN))).mono ?_; rintro e w' ⟨rfl, hk⟩; (first | obtain ⟨p, rfl⟩ := Zone.gro_of_gro _ _ hk | obtain ⟨p, rfl⟩ := Zone.gro_of_below _ hk); clear hk) | (go_at_call 17; refine (HN.out _ (by repeat (first | exact Keep.refl _ | apply Keep.alloc | apply Keep.gro | apply Keep.drew | apply Keep.drewN))).mono ?_; rintro e w' ⟨rfl, rfl⟩))
  go_ret
  exact ⟨rfl, (by repeat (first | exact Keep.refl _ | apply Keep.alloc | apply Keep.gro | apply Keep.drew | apply Keep.drewN))⟩
set_option maxRecDepth 100000 in
theorem sinve_no (i : Int) (h : NoSeg w p) : Calls Tryz.prog 12 #[.pointer p, .int .i64 i] w fun e w' => e = .returned (.pointer none) ∧ Keep w w' := by
  have hfld : ∀ W, Sem.run Tryz.prog (Instr.field 57 (.agg #[.pointer none, .pointer none, .pointer none, .pointer none, .pointer none, .pointer none]) 3) W = Result.ok (.pointer none) W := fun _ => by kernel_rfl
  have H := Lib.hid (fun i W (hk : Keep w W) => sat_no (w := W) i (h.keep hk))
  have HN := Lib.hid (fun W (hk : Keep w W) => snone_no (w := W) (h.keep hk))
  clear h
  go_enter Tryz.func12, Tryz.ntmps12
  go_wp2_with (first | (go_at_call 25; refine (H.out _ _ (by repeat (first | exact Keep.refl _ | apply Keep.alloc | apply Keep.gro | apply Keep.drew | apply Keep.drewN))).mono ?_; rintro e w' ⟨rfl, hk⟩; (first | obtain ⟨p, rfl⟩ := Zone.gro_of_gro _ _ hk | obtain ⟨p, rfl⟩ := Zone.gro_of_below _ hk); clear hk) | (go_at_call 17; refine (HN.out _ (by repeat (first | exact Keep.refl _ | apply Keep.alloc | apply Keep.gro | apply Keep.drew | apply Keep.drewN))).mono ?_; rintro e w' ⟨rfl, rfl⟩))
  go_ret
  exact ⟨rfl, (by repeat (first | exact Keep.refl _ | apply Keep.alloc | apply Keep.gro | apply Keep.drew | apply Keep.drewN))⟩
set_option maxRecDepth 100000 in
theorem srang_no (i : Int) (h : NoSeg w p) : Calls Tryz.prog 13 #[.pointer p, .int .i64 i] w fun e w' => e = .returned (.pointer none) ∧ Keep w w' := by
  have hfld : ∀ W, Sem.run Tryz.prog (Instr.field 57 (.agg #[.pointer none, .pointer none, .pointer none, .pointer none, .pointer none, .pointer none]) 4) W = Result.ok (.pointer none) W := fun _ => by kernel_rfl
  have H := Lib.hid (fun i W (hk : Keep w W) => sat_no (w := W) i (h.keep hk))
  have HN := Lib.hid (fun W (hk : Keep w W) => snone_no (w := W) (h.keep hk))
  clear h
  go_enter Tryz.func13, Tryz.ntmps13
  go_wp2_with (first | (go_at_call 25; refine (H.out _ _ (by repeat (first | exact Keep.refl _ | apply Keep.alloc | apply Keep.gro | apply Keep.drew | apply Keep.drewN))).mono ?_; rintro e w' ⟨rfl, hk⟩; (first | obtain ⟨p, rfl⟩ := Zone.gro_of_gro _ _ hk | obtain ⟨p, rfl⟩ := Zone.gro_of_below _ hk); clear hk) | (go_at_call 17; refine (HN.out _ (by repeat (first | exact Keep.refl _ | apply Keep.alloc | apply Keep.gro | apply Keep.drew | apply Keep.drewN))).mono ?_; rintro e w' ⟨rfl, rfl⟩))
  go_ret
  exact ⟨rfl, (by repeat (first | exact Keep.refl _ | apply Keep.alloc | apply Keep.gro | apply Keep.drew | apply Keep.drewN))⟩
set_option maxRecDepth 100000 in
theorem ssort_no (h : NoSeg w p) : Calls Tryz.prog 14 #[.pointer p] w fun e w' => e = .returned (.pointer none) ∧ Keep w w' := by
  have hfld : ∀ W, Sem.run Tryz.prog (Instr.field 57 (.agg #[.pointer none, .pointer none, .pointer none, .pointer none, .pointer none, .pointer none]) 5) W = Result.ok (.pointer none) W := fun _ => by kernel_rfl
  have H := Lib.hid (fun i W (hk : Keep w W) => sat_no (w := W) i (h.keep hk))
  have HN := Lib.hid (fun W (hk : Keep w W) => snone_no (w := W) (h.keep hk))
  clear h
  go_enter Tryz.func14, Tryz.ntmps14
  go_wp2_with (first | (go_at_call 25; refine (H.out _ _ (by repeat (first | exact Keep.refl _ | apply Keep.alloc | apply Keep.gro | apply Keep.drew | apply Keep.drewN))).mono ?_; rintro e w' ⟨rfl, hk⟩; (first | obtain ⟨p, rfl⟩ := Zone.gro_of_gro _ _ hk | obtain ⟨p, rfl⟩ := Zone.gro_of_below _ hk); clear hk) | (go_at_call 17; refine (HN.out _ (by repeat (first | exact Keep.refl _ | apply Keep.alloc | apply Keep.gro | apply Keep.drew | apply Keep.drewN))).mono ?_; rintro e w' ⟨rfl, rfl⟩))
  go_ret
  exact ⟨rfl, (by repeat (first | exact Keep.refl _ | apply Keep.alloc | apply Keep.gro | apply Keep.drew | apply Keep.drewN))⟩
set_option maxRecDepth 100000 in
theorem sstar_no (h : NoSeg w p) : Calls Tryz.prog 15 #[.pointer p] w fun e w' => e = .returned (.pointer none) ∧ Keep w w' := by
  have hfld : ∀ W, Sem.run Tryz.prog (Instr.field 57 (.agg #[.pointer none, .pointer none, .pointer none, .pointer none, .pointer none, .pointer none]) 0) W = Result.ok (.pointer none) W := fun _ => by kernel_rfl
  have H := Lib.hid (fun i W (hk : Keep w W) => sat_no (w := W) i (h.keep hk))
  have HN := Lib.hid (fun W (hk : Keep w W) => snone_no (w := W) (h.keep hk))
  clear h
  go_enter Tryz.func15, Tryz.ntmps15
  go_wp2_with (first | (go_at_call 25; refine (H.out _ _ (by repeat (first | exact Keep.refl _ | apply Keep.alloc | apply Keep.gro | apply Keep.drew | apply Keep.drewN))).mono ?_; rintro e w' ⟨rfl, hk⟩; (first | obtain ⟨p, rfl⟩ := Zone.gro_of_gro _ _ hk | obtain ⟨p, rfl⟩ := Zone.gro_of_below _ hk); clear hk) | (go_at_call 17; refine (HN.out _ (by repeat (first | exact Keep.refl _ | apply Keep.alloc | apply Keep.gro | apply Keep.drew | apply Keep.drewN))).mono ?_; rintro e w' ⟨rfl, rfl⟩))
  go_ret
  exact ⟨rfl, (by repeat (first | exact Keep.refl _ | apply Keep.alloc | apply Keep.gro | apply Keep.drew | apply Keep.drewN))⟩
end
/-- no configuration is that one -/
theorem same17_zero (w : World) : Calls Tryz.prog 6 #[.agg #[.int .i64 0, .slice none 0 0, .slice none 0 0, .slice none 0 0, .int .i64 0], .agg #[.int .i64 0, .slice none 0 0, .slice none 0 0, .slice none 0 0, .int .i64 0]] w fun e w' => e = .returned (.bool true) ∧ Keep w w' := by
  go_enter Tryz.func6, Tryz.ntmps6
  go_wp2
  go_loop [5] (fun i => i = .int .i64 0) (fun _ => 0)
  case atStart => rfl
  case round =>
    obtain rfl := hrel
    go_wp2
    go_loop [6] (fun i => i = .int .i64 0) (fun _ => 0)
    case atStart => rfl
    case round =>
      obtain rfl := hrel
      go_wp2
      go_ret
      exact ⟨rfl, (by repeat (first | exact Keep.refl _ | apply Keep.alloc | apply Keep.gro | apply Keep.drew | apply Keep.drewN))⟩
end Go.Proofs.YtmcaednlilhnoaaGreatDoor
