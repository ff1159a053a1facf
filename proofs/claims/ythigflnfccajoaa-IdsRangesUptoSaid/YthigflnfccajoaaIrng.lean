
/- IdsRanges: the law answers true (at most 1000000 values come in). -/
import Derived.WalkKit
import Derived.Lib.Hide
import Derived.WalkSpells
import Derived.WalkLawsBesides
import Derived.BigQuiet
import Derived.Shelf.Abstract
import Derived.Test.YthigflnfccajoaaIknw
namespace Go.Proofs.Ythigflnfccajoaa
open Go.RowKit Go.Zone Go.Shelf
attribute [local go_sem] Zone.zone Zone.stepZ Zone.fill Zone.lookFs Zone.goes Zone.goesUpon Zone.dropFs Zone.cell_gro Zone.frozen_gro Zone.size_gro Zone.lt_add Zone.drew_gro Zone.tape_gro Zone.keep_refl
attribute [local go_sem] Zone.lt_add2 Zone.lt_add3 Zone.lt_add4 Zone.lt_add5 Zone.lt_add6 Zone.lt_add7 Zone.lt_add8 Zone.lt_add9 Zone.lt_add10 Zone.lt_add11 Zone.lt_add12
attribute [local go_sem] Zone.calm_normal
theorem leaf_N {w : World} {b c g : Nat} {A : Option Addr} {ns : List Int} (cmp n : Int) (h : cmp = 1 ∨ cmp = 3 ∨ cmp = 4 ∨ cmp = 5 ∨ cmp = 6) (hs : Sl w 3 Val.cells (some ⟨g, 0, none⟩) 1 [vN n]) (hd : DictAt w b 1 A c (ns.map vN)) (hl : ns.length ≤ 60) :
    Calls Try.prog 11 #[.pointer (some ⟨b, 0, none⟩), .agg #[.int .u8 4, .slice none 0 0, .string kA, .int .u8 cmp, .slice (some ⟨g, 0, none⟩) 1 1]] w fun e w' => ∃ A c, e = .returned (.slice A ns.length c) ∧ Sl w' 1 boolV A c (ns.map fun y => opI cmp y n) ∧ Keep w w' := by
  have h9 := leaf_f b 1 A c (ns.map vN) w w.heap.size (lfN g kA cmp n) (lfN_in hs) w (Keep.refl _) hd (.inl rfl) (by simp; omega)
  rw [leafF_vN _ _ _ _ _ h, lfN_v] at h9
  refine h9.mono ?_
  rintro e w8 ⟨v, rfl, hown, hk⟩
  obtain ⟨A8, c8, rfl, hs8⟩ := hown.sl bool_len (by simp; omega)
  simp only [List.length_map] at hs8 ⊢
  exact ⟨A8, c8, rfl, hs8, hk⟩
theorem sl_two {w : World} {A : Option Addr} {c : Nat} {ns : List Int} {f : Int → Bool} (h : Sl w 1 boolV A c (ns.map f)) (k : Nat) (hk : k < ns.length) : ∃ b o, A = some ⟨b, o, none⟩ ∧ b < w.heap.size ∧ w.cell? ⟨b, o + k, none⟩ = some (.bool (f ns[k])) ∧ ∀ j, (hj : j < k) → w.cell? ⟨b, o + j, none⟩ = some (.bool (f ns[j])) := by
  obtain ⟨b, o, rfl, hc⟩ := h.at_ k (by simpa using hk)
  have h0 := hc 0 _ rfl
  refine ⟨b, o, rfl, World.block_lt_of_cell? _ _ h0, by simpa using h0, fun j hj => ?_⟩
  obtain ⟨b', o', e, hc'⟩ := h.at_ j (by simp; omega)
  injection e with e
  injection e with e1 e2 _
  subst e1; subst e2
  have h1 := hc' 0 _ rfl
  simpa using h1
theorem op_three (y n : Int) : (opI 3 y n = true ∧ opI 4 y n = true ∧ opI 5 y n = false ∧ opI 6 y n = false ∧ decide (y < n) = true ∧ decide (n < y) = false) ∨ (opI 3 y n = false ∧ opI 4 y n = true ∧ opI 5 y n = false ∧ opI 6 y n = true ∧ decide (y < n) = false ∧ decide (n < y) = false) ∨ (opI 3 y n = false ∧ opI 4 y n = false ∧ opI 5 y n = true ∧ opI 6 y n = true ∧ decide (y < n) = false ∧ decide (n < y) = true) := by
  simp only [opI, Int.reduceEq, if_false, if_true, decide_eq_true_eq, decide_eq_false_iff_not]
  rcases Int.lt_trichotomy y n with h | h | h
  · exact .inl ⟨h, by omega, by omega, by omega, h, by omega⟩
  · exact .inr (.inl ⟨by omega, by omega, by omega, by omega, by omega, by omega⟩)
  · exact .inr (.inr ⟨by omega, by omega, h, by omega, by omega, h⟩)
set_option maxRecDepth 100000 in
set_option maxHeartbeats 8000000 in
theorem ranges_any (A : Option Addr) (c : Nat) (xs : List Val) (n : Int) (w : World) (h : Sl w 3 Val.cells A c xs) (hl : xs.length ≤ 1000000) :
    Calls Try.prog 4 #[.slice A xs.length c, .int .i64 n] w fun e w' => e = .returned (.bool true) ∧ Keep w w' := by
  have H := Lib.hid h
  have KN := Lib.hid (fun W => known25_any W)
  clear h
  go_enter Try.func4, Try.ntmps4
  go_wp2_with (go_at_call 9; refine Zone.hold ?_)
  refine Zone.unhold ?_
  refine (of_any 1 A c xs _ (H.out.keep (by repeat (first | exact Keep.refl _ | apply Keep.alloc | apply Keep.gro | apply Keep.drew | apply Keep.drewN))) hl).mono ?_
  rintro e w1 ⟨v, rfl, hres, hk1⟩
  have HK1 := Lib.hid (show Keep w w1 from hk1)
  clear hk1
  rcases hres with ⟨hE, rfl⟩ | ⟨hE, b, A1, c1, rfl, hD⟩
  · generalize dErr 1 xs = R at hE
    have hRb : (R != 0) = true := by simpa using hE
    by_cases h60 : 60 < xs.length
    · go_wp2_with (go_at_call 10; refine (KN.out _).mono ?_; rintro e w' ⟨rfl, hk⟩; (first | obtain ⟨p, rfl⟩ := Zone.gro_of_gro _ _ hk | obtain ⟨p, rfl⟩ := Zone.gro_of_below _ hk); clear hk)
      go_ret
      exact ⟨rfl, HK1.out.trans (by repeat (first | exact Keep.refl _ | apply Keep.alloc | apply Keep.gro | apply Keep.drew | apply Keep.drewN))⟩
    · go_wp2_with (go_at_call 10; refine (KN.out _).mono ?_; rintro e w' ⟨rfl, hk⟩; (first | obtain ⟨p, rfl⟩ := Zone.gro_of_gro _ _ hk | obtain ⟨p, rfl⟩ := Zone.gro_of_below _ hk); clear hk)
      go_ret
      exact ⟨rfl, HK1.out.trans (by repeat (first | exact Keep.refl _ | apply Keep.alloc | apply Keep.gro | apply Keep.drew | apply Keep.drewN))⟩
  · rw [hE]
    by_cases h60 : 60 < xs.length
    · clear hD
      go_wp2_with (go_at_call 10; refine (KN.out _).mono ?_; rintro e w' ⟨rfl, hk⟩; (first | obtain ⟨p, rfl⟩ := Zone.gro_of_gro _ _ hk | obtain ⟨p, rfl⟩ := Zone.gro_of_below _ hk); clear hk)
      go_ret
      exact ⟨rfl, HK1.out.trans (by repeat (first | exact Keep.refl _ | apply Keep.alloc | apply Keep.gro | apply Keep.drew | apply Keep.drewN))⟩
    · obtain ⟨ns, hns, hpw⟩ := own_ints xs hE
      have hln : ns.length ≤ 60 := by have := dOwn_len xs; rw [hns, List.length_map] at this; omega
      rw [hns] at hD
      have HD1 := Lib.hid hD
      have HPW := Lib.hid hpw
      clear hD hpw hns hE
      go_wp2_with (go_at_call 12; refine Zone.hold ?_)
      refine Zone.unhold ?_
      refine (lf_any kA 3 n _).mono ?_
      rintro e w2 ⟨g2, rfl, hs2, hk2⟩
      have HD2 := Lib.hid (HD1.out.keep hk2)
      have HK2 := Lib.hid (HK1.out.trans hk2)
      have HS2 := Lib.hid hs2
      clear hs2 hk2 HD1 HK1
      rw [lfN_v]
      go_wp2_with (go_at_call 11; refine Zone.hold ?_)
      refine Zone.unhold ?_
      refine (leaf_N 3 n (.inr (.inl rfl)) HS2.out HD2.out hln).mono ?_
      rintro e w3 ⟨LA, Lc, rfl, hs3, hk3⟩
      have HD3 := Lib.hid (HD2.out.keep hk3)
      have HK3 := Lib.hid (HK2.out.trans hk3)
      have HL3 := Lib.hid hs3
      clear hs3 hk3 HD2 HK2 HS2
      go_wp2_with (go_at_call 12; refine Zone.hold ?_)
      refine Zone.unhold ?_
      refine (lf_any kA 4 n _).mono ?_
      rintro e w4 ⟨g4, rfl, hs4, hk4⟩
      have HD4 := Lib.hid (HD3.out.keep hk4)
      have HK4 := Lib.hid (HK3.out.trans hk4)
      have HL4 := Lib.hid (HL3.out.keep hk4)
      have HS4 := Lib.hid hs4
      clear hs4 hk4 HD3 HK3 HL3
      rw [lfN_v]
      go_wp2_with (go_at_call 11; refine Zone.hold ?_)
      refine Zone.unhold ?_
      refine (leaf_N 4 n (.inr (.inr (.inl rfl))) HS4.out HD4.out hln).mono ?_
      rintro e w5 ⟨MA, Mc, rfl, hs5, hk5⟩
      have HD5 := Lib.hid (HD4.out.keep hk5)
      have HK5 := Lib.hid (HK4.out.trans hk5)
      have HL5 := Lib.hid (HL4.out.keep hk5)
      have HM5 := Lib.hid hs5
      clear hs5 hk5 HD4 HK4 HL4 HS4
      go_wp2_with (go_at_call 12; refine Zone.hold ?_)
      refine Zone.unhold ?_
      refine (lf_any kA 5 n _).mono ?_
      rintro e w6 ⟨g6, rfl, hs6, hk6⟩
      have HD6 := Lib.hid (HD5.out.keep hk6)
      have HK6 := Lib.hid (HK5.out.trans hk6)
      have HL6 := Lib.hid (HL5.out.keep hk6)
      have HM6 := Lib.hid (HM5.out.keep hk6)
      have HS6 := Lib.hid hs6
      clear hs6 hk6 HD5 HK5 HL5 HM5
      rw [lfN_v]
      go_wp2_with (go_at_call 11; refine Zone.hold ?_)
      refine Zone.unhold ?_
      refine (leaf_N 5 n (.inr (.inr (.inr (.inl rfl)))) HS6.out HD6.out hln).mono ?_
      rintro e w7 ⟨OA, Oc, rfl, hs7, hk7⟩
      have HD7 := Lib.hid (HD6.out.keep hk7)
      have HK7 := Lib.hid (HK6.out.trans hk7)
      have HL7 := Lib.hid (HL6.out.keep hk7)
      have HM7 := Lib.hid (HM6.out.keep hk7)
      have HO7 := Lib.hid hs7
      clear hs7 hk7 HD6 HK6 HL6 HM6 HS6
      go_wp2_with (go_at_call 12; refine Zone.hold ?_)
      refine Zone.unhold ?_
      refine (lf_any kA 6 n _).mono ?_
      rintro e w8 ⟨g8, rfl, hs8, hk8⟩
      have HD8 := Lib.hid (HD7.out.keep hk8)
      have HK8 := Lib.hid (HK7.out.trans hk8)
      have HL8 := Lib.hid (HL7.out.keep hk8)
      have HM8 := Lib.hid (HM7.out.keep hk8)
      have HO8 := Lib.hid (HO7.out.keep hk8)
      have HS8 := Lib.hid hs8
      clear hs8 hk8 HD7 HK7 HL7 HM7 HO7
      rw [lfN_v]
      go_wp2_with (go_at_call 11; refine Zone.hold ?_)
      refine Zone.unhold ?_
      refine (leaf_N 6 n (.inr (.inr (.inr (.inr rfl)))) HS8.out HD8.out hln).mono ?_
      rintro e w9 ⟨EA, Ec, rfl, hs9, hk9⟩
      have HD := Lib.hid (HD8.out.keep hk9)
      have HK := Lib.hid (HK8.out.trans hk9)
      have HL := Lib.hid (HL8.out.keep hk9)
      have HM := Lib.hid (HM8.out.keep hk9)
      have HO := Lib.hid (HO8.out.keep hk9)
      have HE := Lib.hid hs9
      clear hs9 hk9 HD8 HK8 HL8 HM8 HO8 HS8
      go_wp2
      go_loopw [45] (fun i wr => ∃ k : Nat, k ≤ ns.length ∧ i = .int .i64 k ∧ Hid (Keep w9 wr)) (fun i _ => ns.length - (intOf i).toNat)
      case atStart => exact ⟨0, Nat.zero_le _, rfl, Keep.refl _⟩
      case round =>
        obtain ⟨k, hk, rfl, HW⟩ := hrel
        by_cases hlt : k < ns.length
        · obtain ⟨bl, ol, rfl, hbl, l0, l1⟩ := sl_two (HL.out.keep HW.out) k hlt
          obtain ⟨bm, om, rfl, hbm, m0, _⟩ := sl_two (HM.out.keep HW.out) k hlt
          obtain ⟨bo, oo, rfl, hbo, o0, o1⟩ := sl_two (HO.out.keep HW.out) k hlt
          obtain ⟨be, oe, rfl, hbe, e0, _⟩ := sl_two (HE.out.keep HW.out) k hlt
          have HV := Lib.hid (show ∀ W, Keep w9 W → Calls Try.prog 13 #[.pointer (some ⟨b, 0, none⟩), .int .i64 k] W fun e w' => e = .returned (.tuple #[.agg #[.int .u8 1, .int .i64 ns[k], .string ⟨#[]⟩], .int .i64 0]) ∧ Keep W w' from fun W hW => by
            have := value_at k W (HD.out.keep hW) (by decide) (by simpa using hlt)
            simp only [List.getElem_map] at this
            exact this)
          have hpv : ∀ j, (hj : j < k) → ns[j] < ns[k] := fun j hj => List.pairwise_iff_getElem.1 HPW.out j k (by omega) hlt hj
          have HPV := Lib.hid hpv
          clear hpv
          by_cases h0 : k = 0
          · subst h0
            clear l1 o1 HPV
            generalize ns[0] = y at l0 m0 o0 e0 HV
            simp only [Nat.add_zero] at l0 m0 o0 e0
            rcases op_three y n with ⟨t1, t2, t3, t4, t5, t6⟩ | ⟨t1, t2, t3, t4, t5, t6⟩ | ⟨t1, t2, t3, t4, t5, t6⟩
            · rw [t1] at l0; rw [t2] at m0; rw [t3] at o0; rw [t4] at e0
              clear t1 t2 t3 t4
              go_wp2
              first | refine Zone.wp_region_all_gro (by kernel_rfl) (by kernel_rfl) ?_ | refine Zone.wp_region_all (by kernel_rfl) (by kernel_rfl) ?_
              repeat
                refine Zone.wpZ_step (fun K hK => ?_)
                go_simp
                first
                | (refine hK _ _ ?_; clear hK K)
                | (apply Exists.intro
                   refine ⟨fun p => ?_, hK _ _ ?_⟩
                   (fail)
                   clear hK K)
              refine Zone.wpZ_nil ?_
              intro p
              simp only [Zone.fill]
              go_wp2_with (go_at_call 13; refine (HV.out _ (HW.out.trans (by repeat (first | exact Keep.refl _ | apply Keep.alloc | apply Keep.gro | apply Keep.drew | apply Keep.drewN)))).mono ?_; rintro e w' ⟨rfl, hk⟩; (first | obtain ⟨p, rfl⟩ := Zone.gro_of_gro _ _ hk | obtain ⟨p, rfl⟩ := Zone.gro_of_below _ hk); clear hk)
              first | refine Zone.wp_region_all_gro (by kernel_rfl) (by kernel_rfl) ?_ | refine Zone.wp_region_all (by kernel_rfl) (by kernel_rfl) ?_
              repeat
                refine Zone.wpZ_step (fun K hK => ?_)
                go_simp
                first
                | (refine hK _ _ ?_; clear hK K)
                | (apply Exists.intro
                   refine ⟨fun p => ?_, hK _ _ ?_⟩
                   (fail)
                   clear hK K)
              refine Zone.wpZ_nil ?_
              intro q
              simp only [Zone.fill]
              go_wp2
              go_roundw
              case rel => exact ⟨0 + 1, by omega, by go_num, HW.out.trans (by repeat (first | exact Keep.refl _ | apply Keep.alloc | apply Keep.gro | apply Keep.drew | apply Keep.drewN))⟩
              case measure => simp [intOf]; omega
            · rw [t1] at l0; rw [t2] at m0; rw [t3] at o0; rw [t4] at e0
              clear t1 t2 t3 t4
              go_wp2
              first | refine Zone.wp_region_all_gro (by kernel_rfl) (by kernel_rfl) ?_ | refine Zone.wp_region_all (by kernel_rfl) (by kernel_rfl) ?_
              repeat
                refine Zone.wpZ_step (fun K hK => ?_)
                go_simp
                first
                | (refine hK _ _ ?_; clear hK K)
                | (apply Exists.intro
                   refine ⟨fun p => ?_, hK _ _ ?_⟩
                   (fail)
                   clear hK K)
              refine Zone.wpZ_nil ?_
              intro p
              simp only [Zone.fill]
              go_wp2_with (go_at_call 13; refine (HV.out _ (HW.out.trans (by repeat (first | exact Keep.refl _ | apply Keep.alloc | apply Keep.gro | apply Keep.drew | apply Keep.drewN)))).mono ?_; rintro e w' ⟨rfl, hk⟩; (first | obtain ⟨p, rfl⟩ := Zone.gro_of_gro _ _ hk | obtain ⟨p, rfl⟩ := Zone.gro_of_below _ hk); clear hk)
              first | refine Zone.wp_region_all_gro (by kernel_rfl) (by kernel_rfl) ?_ | refine Zone.wp_region_all (by kernel_rfl) (by kernel_rfl) ?_
              repeat
                refine Zone.wpZ_step (fun K hK => ?_)
                go_simp
                first
                | (refine hK _ _ ?_; clear hK K)
                | (apply Exists.intro
                   refine ⟨fun p => ?_, hK _ _ ?_⟩
                   (fail)
                   clear hK K)
              refine Zone.wpZ_nil ?_
              intro q
              simp only [Zone.fill]
              go_wp2
              go_roundw
              case rel => exact ⟨0 + 1, by omega, by go_num, HW.out.trans (by repeat (first | exact Keep.refl _ | apply Keep.alloc | apply Keep.gro | apply Keep.drew | apply Keep.drewN))⟩
              case measure => simp [intOf]; omega
            · rw [t1] at l0; rw [t2] at m0; rw [t3] at o0; rw [t4] at e0
              clear t1 t2 t3 t4
              go_wp2
              first | refine Zone.wp_region_all_gro (by kernel_rfl) (by kernel_rfl) ?_ | refine Zone.wp_region_all (by kernel_rfl) (by kernel_rfl) ?_
              repeat
                refine Zone.wpZ_step (fun K hK => ?_)
                go_simp
                first
                | (refine hK _ _ ?_; clear hK K)
                | (apply Exists.intro
                   refine ⟨fun p => ?_, hK _ _ ?_⟩
                   (fail)
                   clear hK K)
              refine Zone.wpZ_nil ?_
              intro p
              simp only [Zone.fill]
              go_wp2_with (go_at_call 13; refine (HV.out _ (HW.out.trans (by repeat (first | exact Keep.refl _ | apply Keep.alloc | apply Keep.gro | apply Keep.drew | apply Keep.drewN)))).mono ?_; rintro e w' ⟨rfl, hk⟩; (first | obtain ⟨p, rfl⟩ := Zone.gro_of_gro _ _ hk | obtain ⟨p, rfl⟩ := Zone.gro_of_below _ hk); clear hk)
              first | refine Zone.wp_region_all_gro (by kernel_rfl) (by kernel_rfl) ?_ | refine Zone.wp_region_all (by kernel_rfl) (by kernel_rfl) ?_
              repeat
                refine Zone.wpZ_step (fun K hK => ?_)
                go_simp
                first
                | (refine hK _ _ ?_; clear hK K)
                | (apply Exists.intro
                   refine ⟨fun p => ?_, hK _ _ ?_⟩
                   (fail)
                   clear hK K)
              refine Zone.wpZ_nil ?_
              intro q
              simp only [Zone.fill]
              go_wp2
              go_roundw
              case rel => exact ⟨0 + 1, by omega, by go_num, HW.out.trans (by repeat (first | exact Keep.refl _ | apply Keep.alloc | apply Keep.gro | apply Keep.drew | apply Keep.drewN))⟩
              case measure => simp [intOf]; omega
          · obtain ⟨j, hkj⟩ : ∃ j : Nat, (k : Int) - 1 = (j : Int) := ⟨k - 1, by omega⟩
            have hjn : j < ns.length := by omega
            have hk0 : (0 : Int) < (k : Int) := by omega
            have l1 := l1 j (by omega)
            have o1 := o1 j (by omega)
            have hlt1 := HPV.out j (by omega)
            clear HPV
            generalize ns[k] = y at l0 m0 o0 e0 HV hlt1
            generalize ns[j]'(by omega) = y1 at l1 o1 hlt1
            rcases op_three y n with ⟨t1, t2, t3, t4, t5, t6⟩ | ⟨t1, t2, t3, t4, t5, t6⟩ | ⟨t1, t2, t3, t4, t5, t6⟩
            · rw [t1] at l0; rw [t2] at m0; rw [t3] at o0; rw [t4] at e0
              clear t1 t2 t3 t4
              have hy : y < n := by simpa using t5
              have u1 : opI 3 y1 n = true := by simp [opI]; omega
              have u2 : opI 5 y1 n = false := by simp [opI]; omega
              rw [u1] at l1; rw [u2] at o1
              clear u1 u2 hy hlt1
              go_wp2
              first | refine Zone.wp_region_all_gro (by kernel_rfl) (by kernel_rfl) ?_ | refine Zone.wp_region_all (by kernel_rfl) (by kernel_rfl) ?_
              repeat
                refine Zone.wpZ_step (fun K hK => ?_)
                go_simp
                first
                | (refine hK _ _ ?_; clear hK K)
                | (apply Exists.intro
                   refine ⟨fun p => ?_, hK _ _ ?_⟩
                   (fail)
                   clear hK K)
              refine Zone.wpZ_nil ?_
              intro p
              simp only [Zone.fill]
              go_wp2_with (go_at_call 13; refine (HV.out _ (HW.out.trans (by repeat (first | exact Keep.refl _ | apply Keep.alloc | apply Keep.gro | apply Keep.drew | apply Keep.drewN)))).mono ?_; rintro e w' ⟨rfl, hk⟩; (first | obtain ⟨p, rfl⟩ := Zone.gro_of_gro _ _ hk | obtain ⟨p, rfl⟩ := Zone.gro_of_below _ hk); clear hk)
              first | refine Zone.wp_region_all_gro (by kernel_rfl) (by kernel_rfl) ?_ | refine Zone.wp_region_all (by kernel_rfl) (by kernel_rfl) ?_
              repeat
                refine Zone.wpZ_step (fun K hK => ?_)
                go_simp
                first
                | (refine hK _ _ ?_; clear hK K)
                | (apply Exists.intro
                   refine ⟨fun p => ?_, hK _ _ ?_⟩
                   (fail)
                   clear hK K)
              refine Zone.wpZ_nil ?_
              intro q
              simp only [Zone.fill]
              go_wp2
              go_roundw
              case rel => exact ⟨k + 1, by omega, by go_num, HW.out.trans (by repeat (first | exact Keep.refl _ | apply Keep.alloc | apply Keep.gro | apply Keep.drew | apply Keep.drewN))⟩
              case measure => simp [intOf]; omega
            · rw [t1] at l0; rw [t2] at m0; rw [t3] at o0; rw [t4] at e0
              clear t1 t2 t3 t4
              have hy : y ≤ n := by simpa using t6
              have u2 : opI 5 y1 n = false := by simp [opI]; omega
              rw [u2] at o1
              clear u2 hy hlt1
              go_wp2
              first | refine Zone.wp_region_all_gro (by kernel_rfl) (by kernel_rfl) ?_ | refine Zone.wp_region_all (by kernel_rfl) (by kernel_rfl) ?_
              repeat
                refine Zone.wpZ_step (fun K hK => ?_)
                go_simp
                first
                | (refine hK _ _ ?_; clear hK K)
                | (apply Exists.intro
                   refine ⟨fun p => ?_, hK _ _ ?_⟩
                   (fail)
                   clear hK K)
              refine Zone.wpZ_nil ?_
              intro p
              simp only [Zone.fill]
              go_wp2_with (go_at_call 13; refine (HV.out _ (HW.out.trans (by repeat (first | exact Keep.refl _ | apply Keep.alloc | apply Keep.gro | apply Keep.drew | apply Keep.drewN)))).mono ?_; rintro e w' ⟨rfl, hk⟩; (first | obtain ⟨p, rfl⟩ := Zone.gro_of_gro _ _ hk | obtain ⟨p, rfl⟩ := Zone.gro_of_below _ hk); clear hk)
              first | refine Zone.wp_region_all_gro (by kernel_rfl) (by kernel_rfl) ?_ | refine Zone.wp_region_all (by kernel_rfl) (by kernel_rfl) ?_
              repeat
                refine Zone.wpZ_step (fun K hK => ?_)
                go_simp
                first
                | (refine hK _ _ ?_; clear hK K)
                | (apply Exists.intro
                   refine ⟨fun p => ?_, hK _ _ ?_⟩
                   (fail)
                   clear hK K)
              refine Zone.wpZ_nil ?_
              intro q
              simp only [Zone.fill]
              go_wp2
              go_roundw
              case rel => exact ⟨k + 1, by omega, by go_num, HW.out.trans (by repeat (first | exact Keep.refl _ | apply Keep.alloc | apply Keep.gro | apply Keep.drew | apply Keep.drewN))⟩
              case measure => simp [intOf]; omega
            · rw [t1] at l0; rw [t2] at m0; rw [t3] at o0; rw [t4] at e0
              clear t1 t2 t3 t4 hlt1
              generalize opI 5 y1 n = ob at o1
              cases ob
              · go_wp2
                first | refine Zone.wp_region_all_gro (by kernel_rfl) (by kernel_rfl) ?_ | refine Zone.wp_region_all (by kernel_rfl) (by kernel_rfl) ?_
                repeat
                  refine Zone.wpZ_step (fun K hK => ?_)
                  go_simp
                  first
                  | (refine hK _ _ ?_; clear hK K)
                  | (apply Exists.intro
                     refine ⟨fun p => ?_, hK _ _ ?_⟩
                     (fail)
                     clear hK K)
                refine Zone.wpZ_nil ?_
                intro p
                simp only [Zone.fill]
                go_wp2_with (go_at_call 13; refine (HV.out _ (HW.out.trans (by repeat (first | exact Keep.refl _ | apply Keep.alloc | apply Keep.gro | apply Keep.drew | apply Keep.drewN)))).mono ?_; rintro e w' ⟨rfl, hk⟩; (first | obtain ⟨p, rfl⟩ := Zone.gro_of_gro _ _ hk | obtain ⟨p, rfl⟩ := Zone.gro_of_below _ hk); clear hk)
                first | refine Zone.wp_region_all_gro (by kernel_rfl) (by kernel_rfl) ?_ | refine Zone.wp_region_all (by kernel_rfl) (by kernel_rfl) ?_
                repeat
                  refine Zone.wpZ_step (fun K hK => ?_)
                  go_simp
                  first
                  | (refine hK _ _ ?_; clear hK K)
                  | (apply Exists.intro
                     refine ⟨fun p => ?_, hK _ _ ?_⟩
                     (fail)
                     clear hK K)
                refine Zone.wpZ_nil ?_
                intro q
                simp only [Zone.fill]
                go_wp2
                go_roundw
                case rel => exact ⟨k + 1, by omega, by go_num, HW.out.trans (by repeat (first | exact Keep.refl _ | apply Keep.alloc | apply Keep.gro | apply Keep.drew | apply Keep.drewN))⟩
                case measure => simp [intOf]; omega
              · go_wp2
                first | refine Zone.wp_region_all_gro (by kernel_rfl) (by kernel_rfl) ?_ | refine Zone.wp_region_all (by kernel_rfl) (by kernel_rfl) ?_
                repeat
                  refine Zone.wpZ_step (fun K hK => ?_)
                  go_simp
                  first
                  | (refine hK _ _ ?_; clear hK K)
                  | (apply Exists.intro
                     refine ⟨fun p => ?_, hK _ _ ?_⟩
                     (fail)
                     clear hK K)
                refine Zone.wpZ_nil ?_
                intro p
                simp only [Zone.fill]
                go_wp2_with (go_at_call 13; refine (HV.out _ (HW.out.trans (by repeat (first | exact Keep.refl _ | apply Keep.alloc | apply Keep.gro | apply Keep.drew | apply Keep.drewN)))).mono ?_; rintro e w' ⟨rfl, hk⟩; (first | obtain ⟨p, rfl⟩ := Zone.gro_of_gro _ _ hk | obtain ⟨p, rfl⟩ := Zone.gro_of_below _ hk); clear hk)
                first | refine Zone.wp_region_all_gro (by kernel_rfl) (by kernel_rfl) ?_ | refine Zone.wp_region_all (by kernel_rfl) (by kernel_rfl) ?_
                repeat
                  refine Zone.wpZ_step (fun K hK => ?_)
                  go_simp
                  first
                  | (refine hK _ _ ?_; clear hK K)
                  | (apply Exists.intro
                     refine ⟨fun p => ?_, hK _ _ ?_⟩
                     (fail)
                     clear hK K)
                refine Zone.wpZ_nil ?_
                intro q
                simp only [Zone.fill]
                go_wp2
                go_roundw
                case rel => exact ⟨k + 1, by omega, by go_num, HW.out.trans (by repeat (first | exact Keep.refl _ | apply Keep.alloc | apply Keep.gro | apply Keep.drew | apply Keep.drewN))⟩
                case measure => simp [intOf]; omega
        · have HLEN := Lib.hid (fun W (hW : Keep w9 W) => len_at W (HD.out.keep hW))
          simp only [if_neg (show ¬ (1 : Int) = 0 by decide), List.length_map] at HLEN
          go_wp2_with (first | (go_at_call 14; refine (HLEN.out _ (HW.out.trans (by repeat (first | exact Keep.refl _ | apply Keep.alloc | apply Keep.gro | apply Keep.drew | apply Keep.drewN)))).mono ?_; rintro e w' ⟨rfl, rfl⟩) | (go_at_call 10; refine (KN.out _).mono ?_; rintro e w' ⟨rfl, hk⟩; (first | obtain ⟨p, rfl⟩ := Zone.gro_of_gro _ _ hk | obtain ⟨p, rfl⟩ := Zone.gro_of_below _ hk); clear hk))
          go_ret
          exact ⟨rfl, (HK.out.trans HW.out).trans (by repeat (first | exact Keep.refl _ | apply Keep.alloc | apply Keep.gro | apply Keep.drew | apply Keep.drewN))⟩
end Go.Proofs.Ythigflnfccajoaa
