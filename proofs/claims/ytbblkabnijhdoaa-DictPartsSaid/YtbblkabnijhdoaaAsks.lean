
/- The walk of the law DictAsks: it answers true. -/
import Derived.WalkKit
import Derived.Lib.Hide
import Derived.WalkSpells
import Derived.WalkLawsBesides
import Derived.BigQuiet
import Derived.Shelf.Abstract
import Derived.Test.YtbblkabnijhdoaaKnown
namespace Go.Proofs.Ytbblkabnijhdoaa
open Go.RowKit Go.Zone Go.Shelf
attribute [local go_sem] Zone.zone Zone.stepZ Zone.fill Zone.lookFs Zone.goes Zone.goesUpon Zone.dropFs Zone.cell_gro Zone.frozen_gro Zone.size_gro Zone.lt_add Zone.drew_gro Zone.tape_gro Zone.keep_refl
attribute [local go_sem high] run_eq_val run_ne_val run_eqG_val
def atTo (ys : List Val) (v : Val) : Nat → Int × Bool
  | 0 => (0, false)
  | k + 1 => if eqV (ys.getD k default) v then ((k : Int), true) else atTo ys v k
theorem atTo_find (ys : List Val) (v : Val) (hs : ys.Pairwise LtV) (kind : Int) (hk : kind ≠ 0) : atTo ys v ys.length = findV kind ys v := by
  have key : ∀ k, k ≤ ys.length → atTo ys v k = if hits ys v = true ∧ lower ys v < k then ((lower ys v : Int), true) else (0, false) := by
    intro k
    induction k with
    | zero => intro _; simp [atTo]
    | succ k ih =>
      intro hk
      have hl : k < ys.length := by omega
      have hg : ys.getD k default = ys[k] := by simp [hl]
      have h1 := at_hit (v := v) hs k hl
      rw [← eqV_iff] at h1
      simp only [atTo, hg, h1]
      by_cases h : hits ys v = true ∧ k = lower ys v
      · rw [if_pos h, if_pos ⟨h.1, by omega⟩, h.2]
      · rw [if_neg h, ih (by omega)]
        by_cases h2 : hits ys v = true ∧ lower ys v < k
        · rw [if_pos h2, if_pos ⟨h2.1, by omega⟩]
        · rw [if_neg h2, if_neg (fun h3 => by
            rcases Nat.lt_or_ge (lower ys v) k with h4 | h4
            · exact h2 ⟨h3.1, h4⟩
            · exact h ⟨h3.1, by omega⟩)]
  rw [key _ (Nat.le_refl _)]
  unfold findV
  rw [if_neg hk]
  by_cases hh : hits ys v = true
  · obtain ⟨h, _⟩ := (hits_iff ys v).1 hh
    rw [if_pos ⟨hh, h⟩, if_pos hh]
  · rw [if_neg (fun h => hh h.1), if_neg hh]
theorem dErr_zero {kind : Int} {xs : List Val} (h : dErr kind xs = 0) : kind ≠ 0 := by
  rintro rfl
  simp [dErr, badKind] at h

set_option maxRecDepth 100000 in
set_option maxHeartbeats 4000000 in
theorem asks_any (kind : Int) (A : Option Addr) (c : Nat) (xs : List Val) (cmp : Int) (v : Val) (w : World) (h : Sl w 3 Val.cells A c xs) (hs : ∀ x ∈ xs, x.s.size ≤ maxLen) (hv : v.s.size ≤ maxLen) :
    Calls Try.prog 3 #[.int .u8 kind, .slice A xs.length c, .int .u8 cmp, v.v] w fun e w' => e = .returned (.bool true) ∧ Keep w w' := by
  have hgr := fun W (hW : Keep w W) => great_any A c xs 200 W (h.keep hW)
  have KN := Lib.hid (fun W => known_any W)
  cases hg : greatV xs 200 with
  | true =>
    rw [hg] at hgr
    have HG := Lib.hid hgr; clear hgr hs h hg
    obtain ⟨vk, vn, vs⟩ := v
    go_enter Try.func3, Try.ntmps3
    go_wp2_with (first | (go_at_call 9; refine (HG.out _ (by repeat (first | exact Keep.refl _ | apply Keep.alloc | apply Keep.gro | apply Keep.drew | apply Keep.drewN))).mono ?_; rintro e w' ⟨rfl, rfl⟩) | (go_at_call 10; refine (KN.out _).mono ?_; rintro e w' ⟨rfl, hk⟩; (first | obtain ⟨p, rfl⟩ := Zone.gro_of_gro _ _ hk | obtain ⟨p, rfl⟩ := Zone.gro_of_below _ hk); clear hk))
    go_ret
    exact ⟨rfl, (by repeat (first | exact Keep.refl _ | apply Keep.alloc | apply Keep.gro | apply Keep.drew | apply Keep.drewN))⟩
  | false =>
    rw [hg] at hgr
    have HG := Lib.hid hgr; clear hgr
    have hl : xs.length ≤ 200 := by
      simp only [greatV, Bool.or_eq_false_iff, decide_eq_false_iff_not] at hg
      omega
    by_cases hlong : 70000 < (v.s.size : Int)
    · clear hs h hg
      obtain ⟨vk, vn, vs⟩ := v
      simp only at hlong
      go_enter Try.func3, Try.ntmps3
      go_wp2_with (first | (go_at_call 9; refine (HG.out _ (by repeat (first | exact Keep.refl _ | apply Keep.alloc | apply Keep.gro | apply Keep.drew | apply Keep.drewN))).mono ?_; rintro e w' ⟨rfl, rfl⟩) | (go_at_call 10; refine (KN.out _).mono ?_; rintro e w' ⟨rfl, hk⟩; (first | obtain ⟨p, rfl⟩ := Zone.gro_of_gro _ _ hk | obtain ⟨p, rfl⟩ := Zone.gro_of_below _ hk); clear hk))
      go_ret
      exact ⟨rfl, (by repeat (first | exact Keep.refl _ | apply Keep.alloc | apply Keep.gro | apply Keep.drew | apply Keep.drewN))⟩
    · have hof := fun W (hW : Keep w W) => of_any kind A c xs W (h.keep hW) (by omega)
      have hrof := fun W (hW : Keep w W) => rof_any kind A c xs W (h.keep hW) hs (by omega)
      rw [rOf_d] at hrof
      by_cases he : dErr kind xs = 0
      · have hk0 := dErr_zero he
        have hso := (dOwn_sorted xs).1
        have hyl := dOwn_len xs
        have hys : ∀ x ∈ dOwn xs, x.s.size ≤ maxLen := fun x hx => hs x (((dOwn_sorted xs).2 x).1 hx)
        have hend := atTo_find (dOwn xs) v hso kind hk0
        have hiv := rIval_d kind (dOwn xs) cmp v hso hk0
        rw [if_pos he] at hrof
        rw [he] at hof
        generalize dOwn xs = ys at hof hrof hso hyl hend hiv hys
        have HO := Lib.hid hof
        have HR := Lib.hid hrof
        have HHV := Lib.hid hv
        have HYS := Lib.hid hys
        have HEND := Lib.hid hend
        have HIV := Lib.hid hiv
        have HSO := Lib.hid hso
        clear hof hrof hs h hg hv hys hend hiv hso
        obtain ⟨vk, vn, vs⟩ := v
        simp only at hlong
        go_enter Try.func3, Try.ntmps3
        go_wp2_with (first | (go_at_call 9; refine (HG.out _ (by repeat (first | exact Keep.refl _ | apply Keep.alloc | apply Keep.gro | apply Keep.drew | apply Keep.drewN))).mono ?_; rintro e w' ⟨rfl, rfl⟩) | (go_at_call 11; refine Zone.hold ?_))
        refine Zone.unhold ?_
        refine (HO.out _ (by repeat (first | exact Keep.refl _ | apply Keep.alloc | apply Keep.gro | apply Keep.drew | apply Keep.drewN))).mono ?_
        rintro e w1 ⟨v1, rfl, hres, hk1⟩
        obtain ⟨p1, rfl⟩ := Zone.gro_of_below _ hk1
        clear hk1
        rcases hres with ⟨hh, _⟩ | ⟨_, b, A1, c1, rfl, hD⟩
        · exact absurd rfl hh
        have HD := Lib.hid hD
        clear hD
        go_wp2_with (go_at_call 12; refine Zone.hold ?_)
        refine Zone.unhold ?_
        refine (HR.out _ (by repeat (first | exact Keep.refl _ | apply Keep.alloc | apply Keep.gro | apply Keep.drew | apply Keep.drewN))).mono ?_
        rintro e w2 ⟨A2, c2, rfl, hS, hk2⟩
        have HS := Lib.hid hS
        have HD2 := Lib.hid (HD.out.keep hk2)
        have hbox0 : w2.cell? ⟨w.heap.size, 0, none⟩ = some (.int .u8 vk) := by rw [hk2.cell (by simp [go_sem])]; simp [go_sem]
        have hbox1 : w2.cell? ⟨w.heap.size, 1, none⟩ = some (.int .i64 vn) := by rw [hk2.cell (by simp [go_sem])]; simp [go_sem]
        have hbox2 : w2.cell? ⟨w.heap.size, 2, none⟩ = some (.string vs) := by rw [hk2.cell (by simp [go_sem])]; simp [go_sem]
        have hwk : Keep w w2 := Keep.trans (Keep.gro (Keep.alloc (Keep.refl w) _) p1) hk2
        have hsz2 : w.heap.size < w2.heap.size := World.block_lt_of_cell? w2 _ hbox0
        have HWK := Lib.hid hwk
        clear hS hk2 HD hwk HR HO HG
        have hdi := fun W (hW : Keep w2 W) => interval_at cmp ⟨vk, vn, vs⟩ W (HD2.out.keep hW) HSO.out
        have hri := fun W (hW : Keep w2 W) => rival_any kind A2 c2 ys cmp ⟨vk, vn, vs⟩ W (HS.out.keep hW) HYS.out HHV.out
        have hfi := fun W (hW : Keep w2 W) => find_at ⟨vk, vn, vs⟩ W (HD2.out.keep hW) HSO.out
        rw [HIV.out] at hri
        have HDI := Lib.hid hdi
        have HRI := Lib.hid hri
        have HFI := Lib.hid hfi
        clear hdi hri hfi
        go_wp2_with (first | (go_at_call 13; refine (HDI.out _ (by repeat (first | exact Keep.refl _ | apply Keep.alloc | apply Keep.gro | apply Keep.drew | apply Keep.drewN))).mono ?_; rintro e w' ⟨rfl, hk⟩; (first | obtain ⟨p, rfl⟩ := Zone.gro_of_gro _ _ hk | obtain ⟨p, rfl⟩ := Zone.gro_of_below _ hk); clear hk) | (go_at_call 14; refine (HRI.out _ (by repeat (first | exact Keep.refl _ | apply Keep.alloc | apply Keep.gro | apply Keep.drew | apply Keep.drewN))).mono ?_; rintro e w' ⟨rfl, hk⟩; (first | obtain ⟨p, rfl⟩ := Zone.gro_of_gro _ _ hk | obtain ⟨p, rfl⟩ := Zone.gro_of_below _ hk); clear hk))
        go_loopw [70, 19, 20, 21] (fun vi va vh _ wr => ∃ k : Nat, k ≤ ys.length ∧ vi = .int .i64 k ∧ va = .int .i64 (atTo ys ⟨vk, vn, vs⟩ k).1 ∧ vh = .bool (atTo ys ⟨vk, vn, vs⟩ k).2 ∧ Hid (Keep w2 wr) ∧ w.heap.size < wr.heap.size ∧ wr.cell? ⟨w.heap.size, 0, none⟩ = some (.int .u8 vk) ∧ wr.cell? ⟨w.heap.size, 1, none⟩ = some (.int .i64 vn) ∧ wr.cell? ⟨w.heap.size, 2, none⟩ = some (.string vs)) (fun vi _ _ _ _ => ys.length - (intOf vi).toNat)
        case atStart => exact ⟨0, Nat.zero_le _, rfl, rfl, rfl, (by repeat (first | exact Keep.refl _ | apply Keep.alloc | apply Keep.gro | apply Keep.drew | apply Keep.drewN)), by simp [go_sem]; omega, by simp [go_sem, *], by simp [go_sem, *], by simp [go_sem, *]⟩
        case round =>
          obtain ⟨k, hk, rfl, rfl, rfl, HK, hz, b0, b1, b2⟩ := hrel
          by_cases hlt : k < ys.length
          · obtain ⟨bx, off, rfl, hbx, c0, c1', c2'⟩ := sl_val (HS.out.keep HK.out) k hlt
            have hat : Hid (atTo ys ⟨vk, vn, vs⟩ (k + 1) = if eqC ys[k].k ys[k].n vk vn ys[k].s vs then ((k : Int), true) else atTo ys ⟨vk, vn, vs⟩ k) := by
              show _ = _
              rw [atTo, show ys.getD k default = ys[k] by simp [hlt]]
              rfl
            cases hq : eqC ys[k].k ys[k].n vk vn ys[k].s vs
            · have HAT : Hid (atTo ys ⟨vk, vn, vs⟩ (k + 1) = atTo ys ⟨vk, vn, vs⟩ k) := by rw [hq] at hat; exact hat.out
              go_wp2
              first | refine Zone.wp_region_all_gro (by kernel_rfl) (by kernel_rfl) ?_ | refine Zone.wp_region_all (by kernel_rfl) (by kernel_rfl) ?_
              repeat
                refine Zone.wpZ_step (fun K hK => ?_)
                go_simp
                first
                | (refine hK _ _ ?_; clear hK K)
                | (apply Exists.intro
                   refine ⟨fun p => ?_, hK _ _ ?_⟩
                   (fail)
                   clear hK K)
              refine Zone.wpZ_nil ?_
              intro p
              simp only [Zone.fill]
              go_wp2
              go_roundw
              case rel => exact ⟨k + 1, by omega, by go_num, by rw [HAT.out], by rw [HAT.out], HK.out.gro _, by simp [size_gro]; omega, by simp [cell_gro, hz, b0], by simp [cell_gro, hz, b1], by simp [cell_gro, hz, b2]⟩
              case measure => simp [intOf]; omega
            · have HAT : Hid (atTo ys ⟨vk, vn, vs⟩ (k + 1) = ((k : Int), true)) := by rw [hq] at hat; exact hat.out
              go_wp2
              first | refine Zone.wp_region_all_gro (by kernel_rfl) (by kernel_rfl) ?_ | refine Zone.wp_region_all (by kernel_rfl) (by kernel_rfl) ?_
              repeat
                refine Zone.wpZ_step (fun K hK => ?_)
                go_simp
                first
                | (refine hK _ _ ?_; clear hK K)
                | (apply Exists.intro
                   refine ⟨fun p => ?_, hK _ _ ?_⟩
                   (fail)
                   clear hK K)
              refine Zone.wpZ_nil ?_
              intro p
              simp only [Zone.fill]
              go_wp2
              go_roundw
              case rel => exact ⟨k + 1, by omega, by go_num, by rw [HAT.out], by rw [HAT.out], HK.out.gro _, by simp [size_gro]; omega, by simp [cell_gro, hz, b0], by simp [cell_gro, hz, b1], by simp [cell_gro, hz, b2]⟩
              case measure => simp [intOf]; omega
          · have hkk : k = ys.length := by omega
            subst hkk
            have hHE := HEND.out
            generalize atTo ys ⟨vk, vn, vs⟩ ys.length = at1 at hHE
            obtain ⟨at0, has0⟩ := at1
            have hf2 := HFI
            rw [← hHE] at hf2
            generalize dIval kind ys cmp ⟨vk, vn, vs⟩ = iv
            obtain ⟨i0, i1, i2⟩ := iv
            clear hHE HDI HRI HFI HIV HEND
            go_wp2_with (first | (go_at_call 15; refine (hf2.out _ (by repeat (first | exact HK.out | apply Keep.gro | apply Keep.drew))).mono ?_; rintro e w' ⟨rfl, hk⟩; (first | obtain ⟨p, rfl⟩ := Zone.gro_of_gro _ _ hk | obtain ⟨p, rfl⟩ := Zone.gro_of_below _ hk); clear hk) | (go_at_call 10; refine (KN.out _).mono ?_; rintro e w' ⟨rfl, hk⟩; (first | obtain ⟨p, rfl⟩ := Zone.gro_of_gro _ _ hk | obtain ⟨p, rfl⟩ := Zone.gro_of_below _ hk); clear hk))
            go_ret
            exact ⟨rfl, by repeat (first | exact HWK.out.trans HK.out | apply Keep.gro | apply Keep.drew)⟩
      · rw [if_neg he] at hrof
        generalize dErr kind xs = er at hof hrof he
        have HO := Lib.hid hof
        have HR := Lib.hid hrof
        clear hof hrof hs h hg hv
        obtain ⟨vk, vn, vs⟩ := v
        simp only at hlong
        go_enter Try.func3, Try.ntmps3
        go_wp2_with (first | (go_at_call 9; refine (HG.out _ (by repeat (first | exact Keep.refl _ | apply Keep.alloc | apply Keep.gro | apply Keep.drew | apply Keep.drewN))).mono ?_; rintro e w' ⟨rfl, rfl⟩) | (go_at_call 11; refine Zone.hold ?_))
        refine Zone.unhold ?_
        refine (HO.out _ (by repeat (first | exact Keep.refl _ | apply Keep.alloc | apply Keep.gro | apply Keep.drew | apply Keep.drewN))).mono ?_
        rintro e w1 ⟨v1, rfl, _, hk1⟩
        obtain ⟨p1, rfl⟩ := Zone.gro_of_below _ hk1
        clear hk1
        go_wp2_with (go_at_call 12; refine Zone.hold ?_)
        refine Zone.unhold ?_
        refine (HR.out _ (by repeat (first | exact Keep.refl _ | apply Keep.alloc | apply Keep.gro | apply Keep.drew | apply Keep.drewN))).mono ?_
        rintro e w2 ⟨A2, c2, rfl, _, hk2⟩
        obtain ⟨p2, rfl⟩ := Zone.gro_of_gro _ _ hk2
        clear hk2
        go_wp2_with (go_at_call 10; refine (KN.out _).mono ?_; rintro e w' ⟨rfl, hk⟩; (first | obtain ⟨p, rfl⟩ := Zone.gro_of_gro _ _ hk | obtain ⟨p, rfl⟩ := Zone.gro_of_below _ hk); clear hk)
        go_ret
        exact ⟨rfl, (by repeat (first | exact Keep.refl _ | apply Keep.alloc | apply Keep.gro | apply Keep.drew | apply Keep.drewN))⟩
end Go.Proofs.Ytbblkabnijhdoaa
