
/- The contract of the dictionary's Interval. -/
import Derived.WalkKit
import Derived.Lib.Hide
import Derived.WalkSpells
import Derived.WalkLawsBesides
import Derived.BigQuiet
import Derived.Shelf.Abstract
import Derived.Test.YtbblkabnijhdoaaDictM
namespace Go.Proofs.Ytbblkabnijhdoaa
open Go.RowKit Go.Zone Go.Shelf
attribute [local go_sem] Zone.zone Zone.stepZ Zone.fill Zone.lookFs Zone.goes Zone.goesUpon Zone.dropFs Zone.cell_gro Zone.frozen_gro Zone.size_gro Zone.lt_add Zone.drew_gro Zone.tape_gro Zone.keep_refl
section
variable {b : Nat} {kind : Int} {A : Option Addr} {c : Nat} {xs : List Val}
theorem interval_nil (cmp : Int) (v : Val) (w : World) : Calls Try.prog 13 #[.pointer none, .int .u8 cmp, v.v] w fun e w' => e = .returned (.tuple #[.int .i64 0, .int .i64 0, .int .i64 1]) ∧ Keep w w' := by
  obtain ⟨k, n, s⟩ := v
  go_enter Try.func13, Try.ntmps13
  go_wp2_with (go_at_call 35; refine (none_nil _).mono ?_; rintro e w' ⟨rfl, rfl⟩)
  go_ret3
  exact ⟨rfl, (by repeat (first | exact Keep.refl _ | apply Keep.alloc | apply Keep.gro | apply Keep.drew | apply Keep.drewN))⟩
set_option maxRecDepth 100000 in
set_option maxHeartbeats 2000000 in
theorem interval_at (cmp : Int) (v : Val) (w : World) (h : DictAt w b kind A c xs) (hs : xs.Pairwise LtV) :
    Calls Try.prog 13 #[.pointer (some ⟨b, 0, none⟩), .int .u8 cmp, v.v] w fun e w' => e = .returned (.tuple #[.int .i64 (dIval kind xs cmp v).1, .int .i64 (dIval kind xs cmp v).2.1, .int .i64 (dIval kind xs cmp v).2.2]) ∧ Keep w w' := by
  have hse := fun W (hW : Keep w W) => search_any A c xs v W (h.sl.keep hW) (mono_of hs v)
  have hmay := fun W => may_any v W
  generalize hR : dIval kind xs cmp v = R
  have HR := Lib.hid hR; clear hR
  have h0 := h.k
  have h1 := h.l
  have hb := h.lt
  by_cases hk : kind = 0
  · have hr : R = (0, 0, 1) := by rw [← HR.out]; simp [dIval, hk]
    have HR2 := Lib.hid hr
    subst hk
    have HN := Lib.hid (fun W (hW : Keep w W) => none_at W (h.keep hW))
    obtain ⟨k, n, s⟩ := v
    clear h hr h0 h1 hse hmay
    go_enter Try.func13, Try.ntmps13
    go_wp2_with (go_at_call 35; refine (HN.out _ (by repeat (first | exact Keep.refl _ | apply Keep.alloc | apply Keep.gro | apply Keep.drew | apply Keep.drewN))).mono ?_; rintro e w' ⟨rfl, rfl⟩)
    go_ret3
    exact ⟨ret_iii HR2.out.symm, (by repeat (first | exact Keep.refl _ | apply Keep.alloc | apply Keep.gro | apply Keep.drew | apply Keep.drewN))⟩
  · have HN := Lib.hid (fun W (hW : Keep w W) => by have := none_at W (h.keep hW); rw [show (kind == 0) = false by simp [hk]] at this; exact this)
    have hlen := h.sl.len
    by_cases hbad : badCmp v cmp = true
    · have hr : R = (0, 0, 2) := by rw [← HR.out]; simp [dIval, hk, hbad]
      have HR2 := Lib.hid hr
      unfold badCmp at hbad
      generalize mayV v = m at hmay hbad
      obtain ⟨k0, n0, s0⟩ := v
      have HM := Lib.hid hmay
      clear hmay hr HR h h0 h1 hse
      cases m
      · clear hbad
        go_enter Try.func13, Try.ntmps13
        go_wp2_with (first | (go_at_call 35; refine (HN.out _ (by repeat (first | exact Keep.refl _ | apply Keep.alloc | apply Keep.gro | apply Keep.drew | apply Keep.drewN))).mono ?_; rintro e w' ⟨rfl, rfl⟩) | (go_at_call 28; refine (HM.out _).mono ?_; rintro e w' ⟨rfl, hk⟩; (first | obtain ⟨p, rfl⟩ := Zone.gro_of_gro _ _ hk | obtain ⟨p, rfl⟩ := Zone.gro_of_below _ hk); clear hk))
        go_ret3
        exact ⟨ret_iii HR2.out.symm, (by repeat (first | exact Keep.refl _ | apply Keep.alloc | apply Keep.gro | apply Keep.drew | apply Keep.drewN))⟩
      · by_cases e1 : cmp < 1
        · clear hbad
          go_enter Try.func13, Try.ntmps13
          go_wp2_with (first | (go_at_call 35; refine (HN.out _ (by repeat (first | exact Keep.refl _ | apply Keep.alloc | apply Keep.gro | apply Keep.drew | apply Keep.drewN))).mono ?_; rintro e w' ⟨rfl, rfl⟩) | (go_at_call 28; refine (HM.out _).mono ?_; rintro e w' ⟨rfl, hk⟩; (first | obtain ⟨p, rfl⟩ := Zone.gro_of_gro _ _ hk | obtain ⟨p, rfl⟩ := Zone.gro_of_below _ hk); clear hk))
          go_ret3
          exact ⟨ret_iii HR2.out.symm, (by repeat (first | exact Keep.refl _ | apply Keep.alloc | apply Keep.gro | apply Keep.drew | apply Keep.drewN))⟩
        · by_cases e6 : 6 < cmp
          · clear hbad
            go_enter Try.func13, Try.ntmps13
            go_wp2_with (first | (go_at_call 35; refine (HN.out _ (by repeat (first | exact Keep.refl _ | apply Keep.alloc | apply Keep.gro | apply Keep.drew | apply Keep.drewN))).mono ?_; rintro e w' ⟨rfl, rfl⟩) | (go_at_call 28; refine (HM.out _).mono ?_; rintro e w' ⟨rfl, hk⟩; (first | obtain ⟨p, rfl⟩ := Zone.gro_of_gro _ _ hk | obtain ⟨p, rfl⟩ := Zone.gro_of_below _ hk); clear hk))
            go_ret3
            exact ⟨ret_iii HR2.out.symm, (by repeat (first | exact Keep.refl _ | apply Keep.alloc | apply Keep.gro | apply Keep.drew | apply Keep.drewN))⟩
          · have e2 : (cmp == 2) = true := by simpa [e1, e6] using hbad
            clear hbad
            go_enter Try.func13, Try.ntmps13
            go_wp2_with (first | (go_at_call 35; refine (HN.out _ (by repeat (first | exact Keep.refl _ | apply Keep.alloc | apply Keep.gro | apply Keep.drew | apply Keep.drewN))).mono ?_; rintro e w' ⟨rfl, rfl⟩) | (go_at_call 28; refine (HM.out _).mono ?_; rintro e w' ⟨rfl, hk⟩; (first | obtain ⟨p, rfl⟩ := Zone.gro_of_gro _ _ hk | obtain ⟨p, rfl⟩ := Zone.gro_of_below _ hk); clear hk))
            go_ret3
            exact ⟨ret_iii HR2.out.symm, (by repeat (first | exact Keep.refl _ | apply Keep.alloc | apply Keep.gro | apply Keep.drew | apply Keep.drewN))⟩
    · have hb' : badCmp v cmp = false := by simpa using hbad
      have hm : mayV v = true ∧ 1 ≤ cmp ∧ (cmp == 2) = false ∧ cmp ≤ 6 := by
        unfold badCmp at hb'
        simp only [Bool.or_eq_false_iff, Bool.not_eq_false', decide_eq_false_iff_not] at hb'
        exact ⟨hb'.1.1.1, by omega, hb'.1.2, by omega⟩
      obtain ⟨hm0, d1, d2, d6⟩ := hm
      rw [hm0] at hmay
      have HM := Lib.hid hmay
      have hxs := lower_le xs v
      cases hkk : v.k != kind
      · have hr : R = if cmp == 1 then ((lower xs v : Int), if hits xs v then (lower xs v : Int) + 1 else lower xs v, 0)
            else if cmp == 3 then (0, (lower xs v : Int), 0)
            else if cmp == 4 then (0, if hits xs v then (lower xs v : Int) + 1 else lower xs v, 0)
            else if cmp == 5 then (if hits xs v then (lower xs v : Int) + 1 else lower xs v, (xs.length : Int), 0)
            else ((lower xs v : Int), (xs.length : Int), 0) := by rw [← HR.out]; simp only [dIval, hk, hb', hkk, if_false, Bool.false_eq_true]
        generalize hits xs v = q at hse hr
        generalize lower xs v = l at hse hr hxs
        obtain ⟨k0, n0, s0⟩ := v
        have HS := Lib.hid hse
        have hcase : (cmp == 1) = true ∨ ((cmp == 1) = false ∧ ((cmp == 3) = true ∨ ((cmp == 3) = false ∧ ((cmp == 4) = true ∨ ((cmp == 4) = false ∧ ((cmp == 5) = true ∨ (cmp == 5) = false)))))) := by
          cases (cmp == 1) <;> cases (cmp == 3) <;> cases (cmp == 4) <;> cases (cmp == 5) <;> simp
        clear hmay h hse hb' hbad hm0 HR hk
        cases q <;> rcases hcase with g1 | ⟨g1, g3 | ⟨g3, g4 | ⟨g4, g5 | g5⟩⟩⟩
        all_goals
          (try simp only [g1, if_true, if_false, Bool.false_eq_true] at hr)
          (try simp only [g3, if_true, if_false, Bool.false_eq_true] at hr)
          (try simp only [g4, if_true, if_false, Bool.false_eq_true] at hr)
          (try simp only [g5, if_true, if_false, Bool.false_eq_true] at hr)
          have HR2 := Lib.hid hr
          clear hr
          go_enter Try.func13, Try.ntmps13
          go_wp2_with (first | (go_at_call 35; refine (HN.out _ (by repeat (first | exact Keep.refl _ | apply Keep.alloc | apply Keep.gro | apply Keep.drew | apply Keep.drewN))).mono ?_; rintro e w' ⟨rfl, rfl⟩) | (go_at_call 28; refine (HM.out _).mono ?_; rintro e w' ⟨rfl, hk⟩; (first | obtain ⟨p, rfl⟩ := Zone.gro_of_gro _ _ hk | obtain ⟨p, rfl⟩ := Zone.gro_of_below _ hk); clear hk))
          first | refine Zone.wp_region_all_gro (by kernel_rfl) (by kernel_rfl) ?_ | refine Zone.wp_region_all (by kernel_rfl) (by kernel_rfl) ?_
          repeat
            refine Zone.wpZ_step (fun K hK => ?_)
            go_simp
            first
            | (refine hK _ _ ?_; clear hK K)
            | (apply Exists.intro
               refine ⟨fun p => ?_, hK _ _ ?_⟩
               (fail)
               clear hK K)
          refine Zone.wpZ_nil ?_
          intro p1
          simp only [Zone.fill]
          go_wp2
          first | refine Zone.wp_region_all_gro (by kernel_rfl) (by kernel_rfl) ?_ | refine Zone.wp_region_all (by kernel_rfl) (by kernel_rfl) ?_
          repeat
            refine Zone.wpZ_step (fun K hK => ?_)
            go_simp
            first
            | (refine hK _ _ ?_; clear hK K)
            | (apply Exists.intro
               refine ⟨fun p => ?_, hK _ _ ?_⟩
               ((go_at_call 36; exact Zone.zc (HS.out _ (by repeat (first | exact Keep.refl _ | apply Keep.alloc | apply Keep.gro | apply Keep.drew | apply Keep.drewN)))))
               clear hK K)
          refine Zone.wpZ_nil ?_
          intro p2
          simp only [Zone.fill]
          go_wp2
          go_ret3
          exact ⟨ret_iii HR2.out.symm, (by repeat (first | exact Keep.refl _ | apply Keep.alloc | apply Keep.gro | apply Keep.drew | apply Keep.drewN))⟩
      · have hr : R = (0, 0, 9) := by rw [← HR.out]; simp only [dIval, hk, hb', hkk, if_false, if_true, Bool.false_eq_true]
        have HR2 := Lib.hid hr
        obtain ⟨k0, n0, s0⟩ := v
        clear hr hmay h hse hb' hbad hm0 HR hk h1
        go_enter Try.func13, Try.ntmps13
        go_wp2_with (first | (go_at_call 35; refine (HN.out _ (by repeat (first | exact Keep.refl _ | apply Keep.alloc | apply Keep.gro | apply Keep.drew | apply Keep.drewN))).mono ?_; rintro e w' ⟨rfl, rfl⟩) | (go_at_call 28; refine (HM.out _).mono ?_; rintro e w' ⟨rfl, hk⟩; (first | obtain ⟨p, rfl⟩ := Zone.gro_of_gro _ _ hk | obtain ⟨p, rfl⟩ := Zone.gro_of_below _ hk); clear hk))
        first | refine Zone.wp_region_all_gro (by kernel_rfl) (by kernel_rfl) ?_ | refine Zone.wp_region_all (by kernel_rfl) (by kernel_rfl) ?_
        repeat
          refine Zone.wpZ_step (fun K hK => ?_)
          go_simp
          first
          | (refine hK _ _ ?_; clear hK K)
          | (apply Exists.intro
             refine ⟨fun p => ?_, hK _ _ ?_⟩
             (fail)
             clear hK K)
        refine Zone.wpZ_nil ?_
        intro p1
        simp only [Zone.fill]
        go_wp2
        go_ret3
        exact ⟨ret_iii HR2.out.symm, (by repeat (first | exact Keep.refl _ | apply Keep.alloc | apply Keep.gro | apply Keep.drew | apply Keep.drewN))⟩
end
end Go.Proofs.Ytbblkabnijhdoaa
