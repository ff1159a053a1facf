
/- Contract of the document's bound. -/
import Derived.WalkKit
import Derived.Lib.Hide
import Derived.WalkSpells
import Derived.WalkLawsBesides
import Derived.BigQuiet
import Derived.Shelf.Abstract
import Derived.Deep.Cut
import Derived.Deep.CutRange
import Derived.Test.YtcffcblfmlclnaaGreatDoorBd
namespace Go.Proofs.YtcffcblfmlclnaaGreatDoor
open Go.RowKit Go.Zone Go.Shelf
attribute [local go_sem] Zone.zone Zone.stepZ Zone.fill Zone.lookFs Zone.goes Zone.goesUpon Zone.dropFs Zone.cell_gro Zone.frozen_gro Zone.size_gro Zone.lt_add Zone.drew_gro Zone.tape_gro Zone.keep_refl
attribute [local go_sem] Zone.lt_add2 Zone.lt_add3 Zone.lt_add4 Zone.lt_add5 Zone.lt_add6 Zone.lt_add7 Zone.lt_add8 Zone.lt_add9 Zone.lt_add10 Zone.lt_add11 Zone.lt_add12
set_option maxRecDepth 100000 in
set_option maxHeartbeats 2000000 in
theorem rbound_any (A B : Option Addr) (n m : Nat) (cs : List Col) (c : Cfg) (rows texts : Int) (many : List Int) (w : World) (h : Sl w 2 Col.cells A n cs) (hz : ∀ x ∈ cs, x.name.size ≤ 140737488355328) (hc : CfgAt w c) (hm : Sl w 1 i64V B m many) :
    Calls Tryz.prog 7 #[.slice A cs.length n, c.v, .int .i64 rows, .slice B many.length m, .int .i64 texts] w fun e w' => e = .returned (.int .i64 (boundR cs c rows many texts)) ∧ Keep w w' := by
  have HF := Lib.hid (fun W (hW : Keep w W) => rfits_any A n cs c W (h.keep hW) hz (hc.keep hW))
  have HBP := Lib.hid (show BoundP cs c rows many texts ↔ _ from Iff.rfl)
  obtain ⟨s0, iA, ic, iv, rA, rc, rv, sA, sc, sp, lf⟩ := c
  have hl := sl_len h
  have hl2 := sl_len hc.s
  have hl3 := sl_len hc.i
  have hl4 := sl_len hc.r
  have hl5 := sl_len hm
  have HD := Lib.hid (fun W (hW : Keep w W) (i : Int) => rdim_any A n cs i W (h.keep hW))
  have HV1 := Lib.hid (fun W (hW : Keep w W) (i : Int) => rhas_any iA ic iv i W (hc.i.keep hW))
  have HV2 := Lib.hid (fun W (hW : Keep w W) (i : Int) => rhas_any rA rc rv i W (hc.r.keep hW))
  have HS := Lib.hid hc.s
  have HM := Lib.hid hm
  simp only [Cfg.v]
  have H := Lib.hid h
  clear h hc hm
  cases hq : pB (Fits cs ⟨s0, iA, ic, iv, rA, rc, rv, sA, sc, sp, lf⟩)
  · have HQ := Lib.hid hq
    go_enter Tryz.func7, Tryz.ntmps7
    go_wp2_with (go_at_call 13; refine (HF.out _ (by repeat (first | exact Keep.refl _ | apply Keep.alloc | apply Keep.gro | apply Keep.drew | apply Keep.drewN))).mono ?_; rintro e w' ⟨rfl, hk⟩; (first | obtain ⟨p, rfl⟩ := Zone.gro_of_gro _ _ hk | obtain ⟨p, rfl⟩ := Zone.gro_of_below _ hk); clear hk)
    go_ret
    exact ⟨ret_int (bound_no fun f => by have := HQ.out; rw [pB_yes f.1] at this; cases this).symm, (by repeat (first | exact Keep.refl _ | apply Keep.alloc | apply Keep.gro | apply Keep.drew | apply Keep.drewN))⟩
  · have HQ := Lib.hid hq
    by_cases h1 : 0 ≤ rows ∧ rows ≤ 16777216 ∧ 0 ≤ texts ∧ texts ≤ 1099511627776
    · have H1 := Lib.hid h1
      obtain ⟨r0, r1, t0, t1⟩ := h1
      cases h5 : ((many.length : Int) != (cs.length : Int))
      · have H5 := Lib.hid h5
        have hf8 : (sp.length : Int) ≤ 8 := by have := (pB_iff.1 HQ.out).few; simp only at this; omega
        have hc256 : (cs.length : Int) ≤ 256 := by have := (pB_iff.1 HQ.out).may.hi; omega
        have hml : many.length = cs.length := by simp only [bne_eq_false_iff_eq] at h5; omega
        have HML := Lib.hid hml
        clear hml
        go_enter Tryz.func7, Tryz.ntmps7
        go_wp2_with (go_at_call 13; refine (HF.out _ (by repeat (first | exact Keep.refl _ | apply Keep.alloc | apply Keep.gro | apply Keep.drew | apply Keep.drewN))).mono ?_; rintro e w' ⟨rfl, hk⟩; (first | obtain ⟨p, rfl⟩ := Zone.gro_of_gro _ _ hk | obtain ⟨p, rfl⟩ := Zone.gro_of_below _ hk); clear hk)
        have HKIND := Lib.hid (show ∀ k, (h : k < cs.length) → (cs[k].kind == 3) = !dimP cs (k : Int) from fun k hk => by
          have h1 := (pB_iff.1 HQ.out).may.kind k hk
          have hx : cs[k].kind = 1 ∨ cs[k].kind = 2 ∨ cs[k].kind = 3 := by omega
          rcases hx with h | h | h <;> simp [dimP, hk, h])
        go_loopw [11] (fun i wr => ∃ k : Nat, k ≤ cs.length ∧ i = .int .i64 k ∧ Hid (BoxA w wr [.int .i64 s0, .slice iA iv.length ic, .slice rA rv.length rc, .slice sA sp.length sc, .int .i64 lf]) ∧ Hid (∀ j, (h : j < many.length) → j < k → 0 ≤ many[j] ∧ many[j] ≤ 16777216)) (fun i _ => cs.length - (intOf i).toNat)
        case atStart => exact ⟨0, Nat.zero_le _, rfl, BoxA.start (t := 26) (by repeat (first | exact Keep.refl _ | apply Keep.alloc | apply Keep.gro | apply Keep.drew | apply Keep.drewN)), fun j _ hj => absurd hj (Nat.not_lt_zero _)⟩
        case round =>
          obtain ⟨k, hk, rfl, HB, HR⟩ := hrel
          have HK := Lib.hid HB.out.keep
          have x0 := HB.out.at_ 0 _ rfl
          have x1 := HB.out.at_ 1 _ rfl
          have x2 := HB.out.at_ 2 _ rfl
          have x3 := HB.out.at_ 3 _ rfl
          have x4 := HB.out.at_ 4 _ rfl
          have xl := HB.out.lt
          by_cases hlt : k < cs.length
          · have hkm : k < many.length := by have := HML.out; omega
            obtain ⟨b, off, hA, hb2, h0⟩ := sl_i64 (HM.out.keep HK.out) k hkm
            subst hA
            by_cases hd : 0 ≤ many[k] ∧ many[k] ≤ 16777216
            · have HDK := Lib.hid hd
              obtain ⟨d0, d1⟩ := hd
              go_wp2
              go_roundw
              case rel => exact ⟨k + 1, by omega, by go_num, HB.out, fun j hj hjk => by
                by_cases e : j = k
                · subst e; exact HDK.out
                · exact HR.out j hj (by omega)⟩
              case measure => simp [intOf]; omega
            · have HDX := Lib.hid hd
              have hd2 : many[k] < 0 ∨ (0 ≤ many[k] ∧ 16777216 < many[k]) := by omega
              clear hd
              rcases hd2 with h6 | ⟨h6, h7⟩
              all_goals
                go_wp2
                go_ret
                exact ⟨ret_int (bound_no fun f => HDX.out (f.2.2.2 k hkm)).symm, HK.out⟩
          · have HIN := Lib.hid (show InP many from fun j hj => HR.out j hj (by have := HML.out; omega))
            have HY := Lib.hid (bound_yes (show BoundP cs ⟨s0, iA, ic, iv, rA, rc, rv, sA, sc, sp, lf⟩ rows many texts from ⟨pB_iff.1 HQ.out, H1.out, HML.out, HIN.out⟩))
            have hkm : ¬ k < many.length := by have := HML.out; omega
            clear HR
            go_wp2
            go_loopw [13, 14, 15] (fun vn vm i wr => ∃ (k : Nat) (N : Int) (M : Nat), k ≤ cs.length ∧ i = .int .i64 k ∧ vn = .int .i64 N ∧ vm = .int .i64 M ∧ Hid (BoxA w wr [.int .i64 s0, .slice iA iv.length ic, .slice rA rv.length rc, .slice sA sp.length sc, .int .i64 lf]) ∧
              Hid (N = 131 + 69 * cs.length + 2 * sp.length + sumBd cs iv rv s0 rows many k) ∧ Hid (M = metB cs k) ∧ 0 ≤ N ∧ N ≤ 100000000000 + k * 40000000000000 ∧ M ≤ k) (fun _ _ i _ => cs.length - (intOf i).toNat)
            case atStart => exact ⟨0, _, 0, Nat.zero_le _, rfl, rfl, rfl, HB.out, (by show _ = _; simp only [sumBd]; omega), rfl, by omega, by omega, by omega⟩
            case round =>
              clear x0 x1 x2 x3 x4 xl HB HK hkm hlt hk
              obtain ⟨k, N, M, hk, rfl, rfl, rfl, HB, HN, HMM, hN0, hN1, hMk⟩ := hrel
              have HK := Lib.hid HB.out.keep
              have x0 := HB.out.at_ 0 _ rfl
              have x1 := HB.out.at_ 1 _ rfl
              have x2 := HB.out.at_ 2 _ rfl
              have x3 := HB.out.at_ 3 _ rfl
              have x4 := HB.out.at_ 4 _ rfl
              have xl := HB.out.lt
              by_cases hlt : k < cs.length
              · have hkm : k < many.length := by have := HML.out; omega
                obtain ⟨b, off, hA, hb2, h0⟩ := sl_i64 (HM.out.keep HK.out) k hkm
                obtain ⟨b3, off3, hA3, hb3, g0, g1⟩ := sl_col (H.out.keep HK.out) k hlt
                subst hA
                subst hA3
                have HDD := Lib.hid (show many[k] = many.getD k 0 by simp [hkm])
                obtain ⟨d0, d1⟩ := HIN.out k hkm
                have HKD := Lib.hid (HKIND.out k hlt)
                generalize many[k] = d at d0 d1 h0 HDD
                generalize cs[k].kind = kd at g1 HKD
                obtain ⟨hp0, hp1⟩ := prod_ch d0 d1 r0 r1
                have HSU : Hid (sumBd cs iv rv s0 rows many (k + 1) = sumBd cs iv rv s0 rows many k + addB cs iv rv s0 rows k d) := by
                  show _ = _
                  rw [HDD.out]
                  rfl
                cases e0 : (kd == 3)
                · have hdm : Hid (dimP cs (k : Int) = true) := by
                    show _ = _
                    have := HKD.out
                    rw [e0] at this
                    simpa using this
                  cases e1 : hasP iv (k : Int)
                  all_goals cases e2 : hasP rv (k : Int)
                  all_goals cases e3 : (s0 == (k : Int))
                  all_goals
                    have E := Lib.hid (And.intro hdm.out (And.intro e1 (And.intro e2 e3)))
                    go_wp2_with (go_at_call 14; refine Zone.hold ?_)
                    refine Zone.unhold ?_
                    with_reducible refine (HV1.out _ (HK.out.trans (by repeat (first | exact Keep.refl _ | apply Keep.alloc | apply Keep.gro | apply Keep.drew | apply Keep.drewN))) _).mono ?_
                    rintro e w' ⟨rfl, hk⟩
                    obtain ⟨p, rfl⟩ := Zone.gro_of_below _ hk
                    clear hk
                    go_wp2_with (go_at_call 14; refine Zone.hold ?_)
                    refine Zone.unhold ?_
                    with_reducible refine (HV2.out _ (HK.out.trans (by repeat (first | exact Keep.refl _ | apply Keep.alloc | apply Keep.gro | apply Keep.drew | apply Keep.drewN))) _).mono ?_
                    rintro e w' ⟨rfl, hk⟩
                    obtain ⟨p, rfl⟩ := Zone.gro_of_gro _ _ hk
                    clear hk
                    go_wp2
                    go_roundw
                    case rel => exact ⟨k + 1, _, M, by omega, by go_num, rfl, rfl, HB.out.next (by repeat (first | exact Keep.refl _ | apply Keep.alloc | apply Keep.gro | apply Keep.drew | apply Keep.drewN)), (by
                      show _ = _
                      obtain ⟨f0, f1, f2, f3⟩ := E.out
                      rw [hasP_nat] at f1 f2
                      simp only [beq_iff_eq, beq_eq_false_iff_ne, ne_eq] at f3
                      rw [HSU.out, HN.out]
                      simp only [addB, f0, f1, f2, f3, if_true, if_false, Bool.false_eq_true]
                      omega), (by show _ = _; simp only [metB, E.out.1, HMM.out, if_true]; rfl), by omega, by omega, by omega⟩
                    case measure => simp [intOf]; omega
                · have hdm : Hid (dimP cs (k : Int) = false) := by
                    show _ = _
                    have := HKD.out
                    rw [e0] at this
                    simpa using this
                  go_wp2
                  go_roundw
                  case rel => exact ⟨k + 1, _, M + 1, by omega, by go_num, rfl, by go_num, HB.out.next (by repeat (first | exact Keep.refl _ | apply Keep.alloc | apply Keep.gro | apply Keep.drew | apply Keep.drewN)), (by
                    show _ = _
                    rw [HSU.out, HN.out]
                    simp only [addB, hdm.out, Bool.false_eq_true, if_false]
                    omega), (by show _ = _; simp only [metB, hdm.out, HMM.out, Bool.false_eq_true, if_false]), by omega, by omega, by omega⟩
                  case measure => simp [intOf]; omega
              · have hkc : k = cs.length := by omega
                have HKC := Lib.hid hkc
                clear hkc
                by_cases hsp : 0 < (sp.length : Int)
                · obtain ⟨p0, p1⟩ := prod_a (s := sp.length) (by omega) hf8 r0 r1
                  obtain ⟨q0, q1⟩ := prod_b (s := sp.length) (m := M) (by omega) hf8 r0 r1 (by omega) (by omega)
                  go_wp2
                  go_ret
                  exact ⟨ret_int (by
                    rw [HY.out]
                    simp only [bodyB]
                    rw [HN.out, HMM.out, HKC.out, HML.out, if_neg (by omega)]
                    omega), HK.out⟩
                · go_wp2
                  go_ret
                  exact ⟨ret_int (by
                    rw [HY.out]
                    simp only [bodyB]
                    rw [HN.out, HKC.out, HML.out, if_pos (by omega)]
                    omega), HK.out⟩
      · have H5 := Lib.hid h5
        go_enter Tryz.func7, Tryz.ntmps7
        go_wp2_with (go_at_call 13; refine (HF.out _ (by repeat (first | exact Keep.refl _ | apply Keep.alloc | apply Keep.gro | apply Keep.drew | apply Keep.drewN))).mono ?_; rintro e w' ⟨rfl, hk⟩; (first | obtain ⟨p, rfl⟩ := Zone.gro_of_gro _ _ hk | obtain ⟨p, rfl⟩ := Zone.gro_of_below _ hk); clear hk)
        go_ret
        exact ⟨ret_int (bound_no fun f => by
          have := H5.out
          rw [f.2.2.1] at this
          simp at this).symm, (by repeat (first | exact Keep.refl _ | apply Keep.alloc | apply Keep.gro | apply Keep.drew | apply Keep.drewN))⟩
    · have H1 := Lib.hid h1
      have h2 : rows < 0 ∨ (0 ≤ rows ∧ 16777216 < rows) ∨ (0 ≤ rows ∧ rows ≤ 16777216 ∧ texts < 0) ∨ (0 ≤ rows ∧ rows ≤ 16777216 ∧ 0 ≤ texts ∧ 1099511627776 < texts) := by omega
      clear h1
      rcases h2 with h2 | ⟨h2, h3⟩ | ⟨h2, h3, h4⟩ | ⟨h2, h3, h4, h5⟩
      all_goals
        go_enter Tryz.func7, Tryz.ntmps7
        go_wp2_with (go_at_call 13; refine (HF.out _ (by repeat (first | exact Keep.refl _ | apply Keep.alloc | apply Keep.gro | apply Keep.drew | apply Keep.drewN))).mono ?_; rintro e w' ⟨rfl, hk⟩; (first | obtain ⟨p, rfl⟩ := Zone.gro_of_gro _ _ hk | obtain ⟨p, rfl⟩ := Zone.gro_of_below _ hk); clear hk)
        go_ret
        exact ⟨ret_int (bound_no fun f => H1.out f.2.1).symm, (by repeat (first | exact Keep.refl _ | apply Keep.alloc | apply Keep.gro | apply Keep.drew | apply Keep.drewN))⟩
end Go.Proofs.YtcffcblfmlclnaaGreatDoor
