
/- The walk of DictOnly. -/
import Derived.WalkKit
import Derived.Lib.Hide
import Derived.WalkSpells
import Derived.WalkLawsBesides
import Derived.BigQuiet
import Derived.Shelf.Abstract
import Derived.Test.YtbblkabnijhdoaaReadLaw
import Derived.Test.YtbblkabnijhdoaaKnown
import Derived.Test.YtbblkabnijhdoaaZoneF
namespace Go.Proofs.Ytbblkabnijhdoaa
open Go.RowKit Go.Zone Go.Shelf
attribute [local go_sem] Zone.zone Zone.stepZ Zone.fill Zone.lookFs Zone.goes Zone.goesUpon Zone.dropFs Zone.cell_gro Zone.frozen_gro Zone.size_gro Zone.lt_add Zone.drew_gro Zone.tape_gro Zone.keep_refl
set_option maxRecDepth 100000 in
set_option maxHeartbeats 2000000 in
theorem only_any (A : Option Addr) (c : Nat) (bs : List UInt8) (more : UInt8) (w : World) (h : SlB w A c bs) :
    Calls Try.prog 8 #[.slice A bs.length c, .int .u8 (more.toNat : Int)] w fun e w' => e = .returned (.bool true) ∧ Keep w w' := by
  have KN := Lib.hid (fun W => known_any W)
  have HS := Lib.hid h
  clear h
  by_cases hbig : 3000 < bs.length
  · go_enter Try.func8, Try.ntmps8
    go_wp2_with (go_at_call 10; refine (KN.out _).mono ?_; rintro e w' ⟨rfl, hk⟩; (first | obtain ⟨p, rfl⟩ := Zone.gro_of_gro _ _ hk | obtain ⟨p, rfl⟩ := Zone.gro_of_below _ hk); clear hk)
    go_ret
    exact ⟨rfl, (by repeat (first | exact Keep.refl _ | apply Keep.alloc | apply Keep.gro | apply Keep.drew | apply Keep.drewN))⟩
  · have HR := Lib.hid (fun W (hW : Keep w W) => read_any A c bs W (HS.out.keep hW) (by omega))
    go_enter Try.func8, Try.ntmps8
    go_wp2_with (go_at_call 24; refine Zone.hold ?_)
    refine Zone.unhold ?_
    refine (HR.out _ (by repeat (first | exact Keep.refl _ | apply Keep.alloc | apply Keep.gro | apply Keep.drew | apply Keep.drewN))).mono ?_
    rintro e w1 ⟨v1, er, rfl, hres, hk1⟩
    have HK1 := Lib.hid hk1
    have HRES := Lib.hid hres
    clear hk1 hres
    cases hd : readD bs with
    | none =>
      have her := HRES.out.1 hd
      clear hd
      have her' : (er != 0) = true := by simpa using her
      clear her
      go_wp2_with (go_at_call 10; refine (KN.out _).mono ?_; rintro e w' ⟨rfl, hk⟩; (first | obtain ⟨p, rfl⟩ := Zone.gro_of_gro _ _ hk | obtain ⟨p, rfl⟩ := Zone.gro_of_below _ hk); clear hk)
      go_ret
      exact ⟨rfl, HK1.out.trans (by repeat (first | exact Keep.refl _ | apply Keep.alloc | apply Keep.gro | apply Keep.drew | apply Keep.drewN))⟩
    | some r =>
      obtain ⟨k, xs, a⟩ := r
      have hr := HRES.out.2 k xs a hd
      obtain ⟨hk, hbytes, hale, hxl, hsz, hmore⟩ := readD_good bs k xs a hd
      by_cases hlt : a < bs.length
      · obtain rfl := hr.1 hlt
        clear hr hd hk hbytes hsz hmore
        go_wp2_with (go_at_call 10; refine (KN.out _).mono ?_; rintro e w' ⟨rfl, hk⟩; (first | obtain ⟨p, rfl⟩ := Zone.gro_of_gro _ _ hk | obtain ⟨p, rfl⟩ := Zone.gro_of_below _ hk); clear hk)
        go_ret
        exact ⟨rfl, HK1.out.trans (by repeat (first | exact Keep.refl _ | apply Keep.alloc | apply Keep.gro | apply Keep.drew | apply Keep.drewN))⟩
      · obtain ⟨rfl, b, A', c', rfl, hat⟩ := hr.2 hlt
        have HD := Lib.hid (hmore [more])
        have hax : a = bs.length := by omega
        have HBY := Lib.hid (show dBytes k xs = bs by rw [hbytes, hax, List.take_length])
        have HSZ := Lib.hid hsz
        have HAT := Lib.hid hat
        clear hr hd hbytes hsz hmore hat hlt
        subst hax
        go_wp2_with (at_builtin; refine Zone.hold ?_)
        refine Zone.unhold ?_
        have hz1 := HK1.out.size
        have HO0 := own_empty (enc := b8) (k := 1) (w1.alloc (.cells #[] 5)) w1.heap.size 5 w1.heap.size (Nat.le_refl _) (heap_alloc_new w1 _)
        have hA1 : SlB (w1.alloc (.cells #[] 5)) A c bs := HS.out.keep (HK1.out.trans (by repeat (first | exact Keep.refl _ | apply Keep.alloc | apply Keep.gro | apply Keep.drew | apply Keep.drewN)))
        refine wpList_app elt_u8 b8_len b8_one rfl (.tmp 22) (.tmp 23) rfl (ys := bs) HO0 rfl rfl hA1 (by simp; omega) (by simp) ?_
        intro v2 w2 hown2 hg2 _
        have ⟨a1, a2, a3⟩ := HO0.after (w := w1) hg2 (by repeat (first | exact Keep.refl _ | apply Keep.alloc | apply Keep.gro | apply Keep.drew | apply Keep.drewN)) (by omega)
        rw [List.nil_append] at hown2
        have HO1 := Lib.hid hown2
        have HK2 := Lib.hid a1
        clear hown2 hg2 a1 a2 a3 hA1 HO0
        go_wp2_with (at_builtin; refine Zone.hold ?_)
        refine Zone.unhold ?_
        have HO2 := HO1.out.keep (Keep.alloc (Keep.refl _) (.cells #[.int .u8 (more.toNat : Int)] 5))
        refine wpList_app elt_u8 b8_len b8_one rfl (.tmp 24) (.tmp 26) rfl (ys := [more]) HO2 rfl rfl (sl_one _ (by omega) (by omega) (b8_at _ (by simp [go_sem]))) (by simp; omega) (by simp; have := HK2.out.size; omega) ?_
        intro v3 w3 hown3 hg3 _
        have ⟨a1, a2, a3⟩ := HO2.after (w := w1) hg3 (HK2.out.trans (by repeat (first | exact Keep.refl _ | apply Keep.alloc | apply Keep.gro | apply Keep.drew | apply Keep.drewN))) (by omega)
        have HO3 := Lib.hid hown3
        have HK3 := Lib.hid a1
        clear hown3 hg3 a1 a2 a3 HO2
        obtain ⟨A3, c3, hv3, hsl3⟩ := HO3.out.sl b8_len (by simp; omega)
        have HR2 := Lib.hid (read_any A3 c3 (bs ++ [more]) w3 hsl3 (by simp; omega))
        rw [← hv3] at HR2
        clear hsl3 hv3 HO3 HO1
        go_wp2_with (go_at_call 24; refine Zone.hold ?_)
        refine Zone.unhold ?_
        refine HR2.out.mono ?_
        rintro e w4 ⟨v4, er, rfl, hres, hk4⟩
        obtain rfl : er = 5 := (hres.2 _ _ _ HD.out).1 (by simp)
        have HK4 := Lib.hid ((HK3.out.trans (by repeat (first | exact Keep.refl _ | apply Keep.alloc | apply Keep.gro | apply Keep.drew | apply Keep.drewN))).trans hk4)
        have HAT4 := Lib.hid (HAT.out.keep HK4.out)
        have HW4 := Lib.hid (HK1.out.trans HK4.out)
        have hkr : 0 < k ∧ k < 256 := by omega
        have HB := Lib.hid (fun W (hW : Keep w4 W) => bytes_at k W (HAT4.out.keep hW) hkr.1 hkr.2 (by omega) (fun x hx => by have := HSZ.out x hx; omega))
        have HSTR := Lib.hid (fun W (hW : Keep w4 W) => str_of (HS.out.keep (HW4.out.trans hW)))
        clear hres hk4 HD HRES hk hkr HR HR2 HAT
        go_wp2
        first | refine Zone.wp_region_all_gro (by kernel_rfl) (by kernel_rfl) ?_ | refine Zone.wp_region_all (by kernel_rfl) (by kernel_rfl) ?_
        iterate 4
          refine Zone.wpZ_step (fun K hK => ?_)
          go_simp
          (refine hK _ _ ?_; clear hK K)
        refine Zone.wpZ_free 35 (fun u W => ∃ A c, u = .slice A bs.length c ∧ SlB W A c bs) rfl (fun _ _ _ hk ⟨A, c, h1, h2⟩ => ⟨A, c, h1, h2.keep hk⟩) ?_ ?_
        · intro p
          simp only [Zone.fill, Zone.lookFs, List.filter_nil]
          go_simp
          go_at_call 17
          refine (HB.out _ (by repeat (first | exact Keep.refl _ | apply Keep.alloc | apply Keep.gro | apply Keep.drew | apply Keep.drewN))).mono ?_
          rintro e w5 ⟨u, rfl, hown, hk⟩
          rw [HBY.out] at hown
          obtain ⟨A5, c5, hv5, hsl5⟩ := hown.sl b8_len (by omega)
          exact ⟨u, rfl, ⟨A5, c5, hv5, hsl5⟩, hk⟩
        · simp only [Zone.dropFs, List.filter_nil]
          refine Zone.wpZ_step (fun K hK => ?_)
          refine Zone.zone_free1 (.string ⟨bs.toArray⟩) (d := 35) (by rfl) (fun p u hu => ?_) (hK _ _ ?_)
          · obtain ⟨A5, c5, rfl, hsl5⟩ := hu
            have hstr := str_of hsl5
            go_simp
          · have hss := fun p => HSTR.out (w4.gro p) (below_gro w4 p)
            refine Zone.wpZ_step (fun K hK => ?_)
            unfold Zone.zone Zone.stepZ
            rw [Zone.lookFs_nil (by rfl)]
            go_simp
            (refine hK _ _ ?_; clear hK K)
            refine Zone.wpZ_step (fun K hK => ?_)
            unfold Zone.zone Zone.stepZ
            rw [Zone.lookFs_nil (by rfl)]
            go_simp
            (refine hK _ _ ?_; clear hK K)
            clear hss
            iterate 7
              refine Zone.wpZ_step (fun K hK => ?_)
              unfold Zone.zone Zone.stepZ
              rw [Zone.lookFs_nil (by rfl)]
              go_simp
              (refine hK _ _ ?_; clear hK K)
            refine Zone.wpZ_step (fun K hK => ?_)
            unfold Zone.zone Zone.stepZ
            rw [Zone.lookFs_nil (by rfl)]
            go_simp
            refine ⟨.bool true, fun p => Zone.zc (KN.out _), hK _ _ ?_⟩
            clear hK K
            refine Zone.wpZ_step (fun K hK => ?_)
            unfold Zone.zone Zone.stepZ
            rw [Zone.lookFs_nil (by rfl)]
            go_simp
            (refine hK _ _ ?_; clear hK K)
            refine Zone.wpZ_step (fun K hK => ?_)
            unfold Zone.zone Zone.stepZ
            rw [Zone.lookFs_nil (by rfl)]
            go_simp
            (refine hK _ _ ?_; clear hK K)
            refine Zone.wpZ_nil ?_
            intro p
            simp only [Zone.fill]
            intro u hu
            clear hu
            go_wp2
            go_ret
            exact ⟨rfl, HW4.out.trans (by repeat (first | exact Keep.refl _ | apply Keep.alloc | apply Keep.gro | apply Keep.drew | apply Keep.drewN))⟩
end Go.Proofs.Ytbblkabnijhdoaa
