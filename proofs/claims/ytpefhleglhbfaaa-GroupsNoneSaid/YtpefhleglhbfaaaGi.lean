
/- GroupsNone: the law answers true. -/
import Derived.WalkKit
import Derived.Lib.Hide
import Derived.WalkSpells
import Derived.WalkLawsBesides
import Derived.BigQuiet
import Derived.Shelf.Abstract
import Derived.Lib.SliceRun
import Derived.IntWalk
import Derived.Test.YtpefhleglhbfaaaGh
namespace Go.Proofs.Ytpefhleglhbfaaa
open Go.RowKit Go.Zone Go.Shelf
attribute [local go_sem] Zone.zone Zone.stepZ Zone.fill Zone.lookFs Zone.goes Zone.goesUpon Zone.dropFs Zone.cell_gro Zone.frozen_gro Zone.size_gro Zone.lt_add Zone.drew_gro Zone.tape_gro Zone.keep_refl
attribute [local go_sem] Zone.lt_add2 Zone.lt_add3 Zone.lt_add4 Zone.lt_add5 Zone.lt_add6 Zone.lt_add7 Zone.lt_add8 Zone.lt_add9 Zone.lt_add10 Zone.lt_add11 Zone.lt_add12
/-- A table that is not ready. -/
def Bare (p : Value) (w : World) : Prop := p = .pointer none ∨ ∃ b, p = .pointer (some ⟨b, 0, none⟩) ∧ w.cell? ⟨b, 2, none⟩ = some (.map none)
theorem Bare.keep {p : Value} {w w' : World} (h : Bare p w) (hk : Keep w w') : Bare p w' := by
  rcases h with h | ⟨b, h1, h2⟩
  · exact .inl h
  · exact .inr ⟨b, h1, (hk.cell (World.block_lt_of_cell? _ _ h2)).trans h2⟩
theorem ready_bare (p : Value) (w : World) (h : Bare p w) : Calls Try.prog 13 #[p] w fun e w' => e = .returned (.bool false) ∧ w = w' := by
  rcases h with rfl | ⟨b, rfl, h2⟩
  · exact ready_nil w
  · exact ready_zero w b h2
theorem put_bare (p : Option Addr) (w : World) (h : Bare (.pointer p) w) (A1 A2 A3 A4 : Option Addr) (n1 n2 n3 n4 c1 c2 c3 c4 : Nat) (k : Int) :
    Calls Try.prog 7 #[.pointer p, .agg #[.slice A1 n1 c1, .int .i64 k, .slice A2 n2 c2, .slice A3 n3 c3, .slice A4 n4 c4]] w fun e w' => e = .returned (.int .i64 1) ∧ Keep w w' := by
  have H := Lib.hid h
  clear h
  go_enter Try.func7, Try.ntmps7
  go_wp2_with (go_at_call 13; refine (ready_bare _ _ (H.out.keep (by repeat (first | exact Keep.refl _ | apply Keep.alloc | apply Keep.gro | apply Keep.drew | apply Keep.drewN)))).mono ?_; rintro e w' ⟨rfl, rfl⟩)
  go_ret
  exact ⟨rfl, (by repeat (first | exact Keep.refl _ | apply Keep.alloc | apply Keep.gro | apply Keep.drew | apply Keep.drewN))⟩
theorem add_bare (p : Option Addr) (w : World) (h : Bare (.pointer p) w) (A1 A2 : Option Addr) (n1 n2 c1 c2 : Nat) :
    Calls Try.prog 6 #[.pointer p, .slice A1 n1 c1, .slice A2 n2 c2] w fun e w' => e = .returned (.int .i64 1) ∧ Keep w w' := by
  have H := Lib.hid h
  clear h
  go_enter Try.func6, Try.ntmps6
  go_wp2_with (go_at_call 7; refine (put_bare _ _ (H.out.keep (by repeat (first | exact Keep.refl _ | apply Keep.alloc | apply Keep.gro | apply Keep.drew | apply Keep.drewN))) _ _ _ _ _ _ _ _ _ _ _ _ _).mono ?_; rintro e w' ⟨rfl, hk⟩; obtain ⟨q, rfl⟩ := gro_of_below _ hk; clear hk)
  go_ret
  exact ⟨rfl, (by repeat (first | exact Keep.refl _ | apply Keep.alloc | apply Keep.gro | apply Keep.drew | apply Keep.drewN))⟩
theorem len_bare (p : Option Addr) (w : World) (h : Bare (.pointer p) w) : Calls Try.prog 8 #[.pointer p] w fun e w' => e = .returned (.int .i64 0) ∧ w = w' := by
  have H := Lib.hid h
  clear h
  go_enter Try.func8, Try.ntmps8
  go_wp2_with (go_at_call 13; refine (ready_bare _ _ H.out).mono ?_; rintro e w' ⟨rfl, rfl⟩)
  go_ret
  exact ⟨rfl, rfl⟩
theorem groups_bare (p : Option Addr) (w : World) (h : Bare (.pointer p) w) : Calls Try.prog 9 #[.pointer p] w fun e w' => e = .returned (.slice none 0 0) ∧ w = w' := by
  have H := Lib.hid h
  clear h
  go_enter Try.func9, Try.ntmps9
  go_wp2_with (go_at_call 13; refine (ready_bare _ _ H.out).mono ?_; rintro e w' ⟨rfl, rfl⟩)
  go_ret
  exact ⟨rfl, rfl⟩
theorem copy_bare (p : Option Addr) (w : World) (h : Bare (.pointer p) w) : Calls Try.prog 10 #[.pointer p] w fun e w' => e = .returned (.pointer none) ∧ w = w' := by
  have H := Lib.hid h
  clear h
  go_enter Try.func10, Try.ntmps10
  go_wp2_with (go_at_call 13; refine (ready_bare _ _ H.out).mono ?_; rintro e w' ⟨rfl, rfl⟩)
  go_ret
  exact ⟨rfl, rfl⟩
def SomeB (w : World) (e : Ending) (w' : World) : Prop := ∃ bb, e = .returned (.bool bb) ∧ Keep w w'
theorem great_any (w : World) (kd : Int) (A1 A2 A3 A4 A5 A6 : Option Addr) (n1 n2 n3 n4 n5 n6 c1 c2 c3 c4 c5 c6 : Nat) (k : Int) :
    Calls Try.prog 4 #[.agg #[.int .i64 kd, .slice A1 n1 c1, .slice A2 n2 c2, .slice A3 n3 c3, .int .i64 k, .slice A4 n4 c4, .slice A5 n5 c5, .slice A6 n6 c6]] w (SomeB w) := by
  go_enter Try.func4, Try.ntmps4
  go_wp2
  all_goals go_ret
  all_goals exact ⟨_, rfl, (by repeat (first | exact Keep.refl _ | apply Keep.alloc | apply Keep.gro | apply Keep.drew | apply Keep.drewN))⟩
set_option maxHeartbeats 2000000 in
theorem none_law (w : World) (kd : Int) (A1 A2 A3 A4 A5 A6 : Option Addr) (n1 n2 n3 n4 n5 n6 c1 c2 c3 c4 c5 c6 : Nat) (k : Int) :
    Calls Try.prog 3 #[.agg #[.int .i64 kd, .slice A1 n1 c1, .slice A2 n2 c2, .slice A3 n3 c3, .int .i64 k, .slice A4 n4 c4, .slice A5 n5 c5, .slice A6 n6 c6]] w fun e w' => e = .returned (.bool true) ∧ Keep w w' := by
  have KN := Lib.hid known26_any
  have hi0 : ∀ (W : World) (b : Nat), (Instr.index 34 (.agg #[.pointer none, .pointer (some ⟨b, 0, none⟩)]) (.int .i64 0)).run Try.prog W = .ok (.pointer none) W := fun W b => by kernel_rfl
  have hi1 : ∀ (W : World) (b : Nat), (Instr.index 34 (.agg #[.pointer none, .pointer (some ⟨b, 0, none⟩)]) (.int .i64 1)).run Try.prog W = .ok (.pointer (some ⟨b, 0, none⟩)) W := fun W b => by kernel_rfl
  go_enter Try.func3, Try.ntmps3
  go_wp2_with (go_at_call 4; refine Zone.hold ?_)
  refine Zone.unhold ?_
  refine (great_any _ kd A1 A2 A3 A4 A5 A6 n1 n2 n3 n4 n5 n6 c1 c2 c3 c4 c5 c6 k).mono ?_
  rintro e w1 ⟨bb, rfl, hk1⟩
  obtain ⟨p1, rfl⟩ := gro_of_below _ hk1
  clear hk1
  cases bb
  · go_wp2
    obtain ⟨w2, hw2⟩ : ∃ w2, w2 = ((w.alloc (.cells #[.int .i64 kd, .slice A1 n1 c1, .slice A2 n2 c2, .slice A3 n3 c3, .int .i64 k, .slice A4 n4 c4, .slice A5 n5 c5, .slice A6 n6 c6] 27)).gro p1).alloc (.cells #[.int .i64 0, .int .i64 0, .map none] 32) := ⟨_, rfl⟩
    rw [← hw2]
    have hz2 : w.heap.size + 1 ≤ w2.heap.size := by rw [hw2]; simp [size_gro]; omega
    have HK2 := Lib.hid (show Keep w w2 by rw [hw2]; exact (by repeat (first | exact Keep.refl _ | apply Keep.alloc | apply Keep.gro | apply Keep.drew | apply Keep.drewN)))
    have HR0 := Lib.hid (row_alloc w 27 [.int .i64 kd, .slice A1 n1 c1, .slice A2 n2 c2, .slice A3 n3 c3, .int .i64 k, .slice A4 n4 c4, .slice A5 n5 c5, .slice A6 n6 c6])
    have HR := Lib.hid (HR0.out.keep (show Keep _ w2 by rw [hw2]; exact (by repeat (first | exact Keep.refl _ | apply Keep.alloc | apply Keep.gro | apply Keep.drew | apply Keep.drewN))))
    obtain ⟨zb, hzb⟩ : ∃ zb, ((w.alloc (.cells #[.int .i64 kd, .slice A1 n1 c1, .slice A2 n2 c2, .slice A3 n3 c3, .int .i64 k, .slice A4 n4 c4, .slice A5 n5 c5, .slice A6 n6 c6] 27)).gro p1).heap.size = zb := ⟨_, rfl⟩
    have HZ := Lib.hid (show Row w2 zb 32 [.int .i64 0, .int .i64 0, .map none] by rw [hw2, ← hzb]; exact row_alloc _ _ _)
    rw [size_gro, World.size_alloc] at hzb
    have HBN := Lib.hid (fun W (_ : Keep w2 W) => (show Bare (.pointer none) W from .inl rfl))
    have HBZ := Lib.hid (fun W (hW : Keep w2 W) => (show Bare (.pointer (some ⟨zb, 0, none⟩)) W from .inr ⟨zb, rfl, (HZ.out.keep hW).cell 2 _ rfl⟩))
    have hob : w.heap.size < w2.heap.size := by omega
    have o1 := HR.out.cell 1 _ rfl
    have o2 := HR.out.cell 2 _ rfl
    have o3 := HR.out.cell 3 _ rfl
    have o4 := HR.out.cell 4 _ rfl
    have o5 := HR.out.cell 5 _ rfl
    have o6 := HR.out.cell 6 _ rfl
    have o7 := HR.out.cell 7 _ rfl
    simp only [hzb]
    clear hw2 hzb hz2
    refine wp_loop_rounds 3 ?_
    rw [rounds_succ]
    go_wp2_with (first
      | (go_at_call 6; refine (add_bare _ _ (HBN.out _ (by repeat (first | exact Keep.refl _ | apply Keep.alloc | apply Keep.gro | apply Keep.drew | apply Keep.drewN))) _ _ _ _ _ _).mono ?_; rintro e w' ⟨rfl, hk⟩; (first | obtain ⟨q, rfl⟩ := gro_of_gro _ _ hk | obtain ⟨q, rfl⟩ := gro_of_below _ hk); clear hk)
      | (go_at_call 7; refine (put_bare _ _ (HBN.out _ (by repeat (first | exact Keep.refl _ | apply Keep.alloc | apply Keep.gro | apply Keep.drew | apply Keep.drewN))) _ _ _ _ _ _ _ _ _ _ _ _ _).mono ?_; rintro e w' ⟨rfl, hk⟩; (first | obtain ⟨q, rfl⟩ := gro_of_gro _ _ hk | obtain ⟨q, rfl⟩ := gro_of_below _ hk); clear hk)
      | (go_at_call 8; refine (len_bare _ _ (HBN.out _ (by repeat (first | exact Keep.refl _ | apply Keep.alloc | apply Keep.gro | apply Keep.drew | apply Keep.drewN)))).mono ?_; rintro e w' ⟨rfl, rfl⟩)
      | (go_at_call 9; refine (groups_bare _ _ (HBN.out _ (by repeat (first | exact Keep.refl _ | apply Keep.alloc | apply Keep.gro | apply Keep.drew | apply Keep.drewN)))).mono ?_; rintro e w' ⟨rfl, rfl⟩)
      | (go_at_call 10; refine (copy_bare _ _ (HBN.out _ (by repeat (first | exact Keep.refl _ | apply Keep.alloc | apply Keep.gro | apply Keep.drew | apply Keep.drewN)))).mono ?_; rintro e w' ⟨rfl, rfl⟩))
    rw [rounds_succ]
    go_wp2_with (first
      | (go_at_call 6; refine (add_bare _ _ (HBZ.out _ (by repeat (first | exact Keep.refl _ | apply Keep.alloc | apply Keep.gro | apply Keep.drew | apply Keep.drewN))) _ _ _ _ _ _).mono ?_; rintro e w' ⟨rfl, hk⟩; (first | obtain ⟨q, rfl⟩ := gro_of_gro _ _ hk | obtain ⟨q, rfl⟩ := gro_of_below _ hk); clear hk)
      | (go_at_call 7; refine (put_bare _ _ (HBZ.out _ (by repeat (first | exact Keep.refl _ | apply Keep.alloc | apply Keep.gro | apply Keep.drew | apply Keep.drewN))) _ _ _ _ _ _ _ _ _ _ _ _ _).mono ?_; rintro e w' ⟨rfl, hk⟩; (first | obtain ⟨q, rfl⟩ := gro_of_gro _ _ hk | obtain ⟨q, rfl⟩ := gro_of_below _ hk); clear hk)
      | (go_at_call 8; refine (len_bare _ _ (HBZ.out _ (by repeat (first | exact Keep.refl _ | apply Keep.alloc | apply Keep.gro | apply Keep.drew | apply Keep.drewN)))).mono ?_; rintro e w' ⟨rfl, rfl⟩)
      | (go_at_call 9; refine (groups_bare _ _ (HBZ.out _ (by repeat (first | exact Keep.refl _ | apply Keep.alloc | apply Keep.gro | apply Keep.drew | apply Keep.drewN)))).mono ?_; rintro e w' ⟨rfl, rfl⟩)
      | (go_at_call 10; refine (copy_bare _ _ (HBZ.out _ (by repeat (first | exact Keep.refl _ | apply Keep.alloc | apply Keep.gro | apply Keep.drew | apply Keep.drewN)))).mono ?_; rintro e w' ⟨rfl, rfl⟩))
    rw [rounds_succ]
    go_wp2_with (go_at_call 5; refine (KN.out _).mono ?_; rintro e w' ⟨rfl, hk⟩; (first | obtain ⟨p, rfl⟩ := Zone.gro_of_gro _ _ hk | obtain ⟨p, rfl⟩ := Zone.gro_of_below _ hk); clear hk)
    go_ret
    exact ⟨rfl, HK2.out.trans (by repeat (first | exact Keep.refl _ | apply Keep.alloc | apply Keep.gro | apply Keep.drew | apply Keep.drewN))⟩
  · go_wp2_with (go_at_call 5; refine (KN.out _).mono ?_; rintro e w' ⟨rfl, hk⟩; (first | obtain ⟨p, rfl⟩ := Zone.gro_of_gro _ _ hk | obtain ⟨p, rfl⟩ := Zone.gro_of_below _ hk); clear hk)
    go_ret
    exact ⟨rfl, (by repeat (first | exact Keep.refl _ | apply Keep.alloc | apply Keep.gro | apply Keep.drew | apply Keep.drewN))⟩
end Go.Proofs.Ytpefhleglhbfaaa
