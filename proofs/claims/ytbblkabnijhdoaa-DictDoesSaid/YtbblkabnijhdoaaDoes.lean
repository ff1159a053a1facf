
/- The walk of DictDoes. -/
import Derived.WalkKit
import Derived.Lib.Hide
import Derived.WalkSpells
import Derived.WalkLawsBesides
import Derived.BigQuiet
import Derived.Shelf.Abstract
import Derived.Test.YtbblkabnijhdoaaTold
import Derived.Test.YtbblkabnijhdoaaLaw
namespace Go.Proofs.Ytbblkabnijhdoaa
open Go.RowKit Go.Zone Go.Shelf
attribute [local go_sem] Zone.zone Zone.stepZ Zone.fill Zone.lookFs Zone.goes Zone.goesUpon Zone.dropFs Zone.cell_gro Zone.frozen_gro Zone.size_gro Zone.lt_add Zone.drew_gro Zone.tape_gro Zone.keep_refl
attribute [local go_sem] Zone.lt_add2 Zone.lt_add3 Zone.lt_add4 Zone.lt_add5 Zone.lt_add6 Zone.lt_add7 Zone.lt_add8 Zone.lt_add9 Zone.lt_add10 Zone.lt_add11 Zone.lt_add12
attribute [local go_sem] Oper.semAt_some Zone.wide_fn Zone.wide_depth Zone.wide_round Fence.inRound_fn Fence.inRound_depth Fence.inRound_round
attribute [local go_sem high] run_eq_nilfn
set_option maxRecDepth 100000 in
set_option maxHeartbeats 4000000 in
theorem does_any (kind : Int) (A : Option Addr) (c : Nat) (xs : List Val) (stop : Int) (w : World) (h : Sl w 3 Val.cells A c xs) (hms : ∀ x ∈ xs, x.s.size ≤ maxLen) (hst : -9223372036854775808 ≤ stop ∧ stop ≤ 9223372036854775807) :
    Calls Try.prog 6 #[.int .u8 kind, .slice A xs.length c, .int .i64 stop] w fun e w' => e = .returned (.bool true) ∧ Keep w w' := by
  have hgr := fun W (hW : Keep w W) => great_any A c xs 200 W (h.keep hW)
  have KN := Lib.hid (fun W => known_any W)
  cases hg : greatV xs 200 with
  | true =>
    rw [hg] at hgr
    have HG := Lib.hid hgr; clear hgr h hg hms
    refine Zone.calls_of_marks Try.func6 rfl ?_
    simp only [Try.ntmps6, List.size_toArray, List.length_cons, List.length_nil, Nat.reduceAdd, Nat.reduceSub, Array.replicate_succ, Array.replicate_zero, List.push_toArray, List.append_toArray, List.nil_append, List.cons_append]
    go_wp2_with (first | (go_at_call 9; refine (HG.out _ (by repeat (first | exact Keep.refl _ | apply Keep.alloc | apply Keep.gro | apply Keep.drew | apply Keep.drewN))).mono ?_; rintro e w' ⟨rfl, rfl⟩) | (go_at_call 10; refine (KN.out _).mono ?_; rintro e w' ⟨rfl, hk⟩; (first | obtain ⟨p, rfl⟩ := Zone.gro_of_gro _ _ hk | obtain ⟨p, rfl⟩ := Zone.gro_of_below _ hk); clear hk))
    refine postM_of_body (v := .bool true) (.inl rfl) rfl ?_ ⟨rfl, ?_⟩
    · simp [results, Try.results6, go_sem]
    · exact (by repeat (first | exact Keep.refl _ | apply Keep.alloc | apply Keep.gro | apply Keep.drew | apply Keep.drewN))
  | false =>
    rw [hg] at hgr
    have HG := Lib.hid hgr; clear hgr
    have hl : xs.length ≤ 200 := by
      simp only [greatV, Bool.or_eq_false_iff, decide_eq_false_iff_not] at hg
      omega
    have HS := Lib.hid h
    have HMS := Lib.hid hms
    clear h hg hms
    refine Zone.calls_of_marks Try.func6 rfl ?_
    simp only [Try.ntmps6, List.size_toArray, List.length_cons, List.length_nil, Nat.reduceAdd, Nat.reduceSub, Array.replicate_succ, Array.replicate_zero, List.push_toArray, List.append_toArray, List.nil_append, List.cons_append]
    go_wp2_with (first | (go_at_call 9; refine (HG.out _ (by repeat (first | exact Keep.refl _ | apply Keep.alloc | apply Keep.gro | apply Keep.drew | apply Keep.drewN))).mono ?_; rintro e w' ⟨rfl, rfl⟩) | (at_builtin; refine Zone.hold ?_))
    refine Zone.unhold ?_
    have HO0 := own_empty (enc := Val.cells) (k := 3) ((w.alloc (.cells #[.int .i64 stop] 3)).alloc (.cells #[] 24)) (w.heap.size + 1) 24 (w.heap.size + 1) (Nat.le_refl _) (by have := heap_alloc_new (w.alloc (.cells #[.int .i64 stop] 3)) (.cells #[] 24); simpa using this)
    have hA1 : Sl ((w.alloc (.cells #[.int .i64 stop] 3)).alloc (.cells #[] 24)) 3 Val.cells A c xs := HS.out.keep (by repeat (first | exact Keep.refl _ | apply Keep.alloc | apply Keep.gro | apply Keep.drew | apply Keep.drewN))
    refine wpList_app elt_val val_len val_one rfl (.tmp 16) (.tmp 17) rfl (ys := xs) HO0 rfl rfl hA1 (by simp; omega) (by simp) ?_
    intro v2 w2 hown2 hg2 _
    rw [List.nil_append] at hown2
    have ⟨a1, a2, a3⟩ := HO0.after (w := w.alloc (.cells #[.int .i64 stop] 3)) hg2 (by repeat (first | exact Keep.refl _ | apply Keep.alloc | apply Keep.gro | apply Keep.drew | apply Keep.drewN)) (by simp)
    obtain ⟨A2, c2, rfl, hsl2⟩ := hown2.sl val_len (by omega)
    have t0 : w2.cell? ⟨w.heap.size, 0, none⟩ = some (.int .i64 stop) := (a1.cell (p := ⟨w.heap.size, 0, none⟩) (by simp)).trans (by simp [go_sem])
    have hz2 : w.heap.size < w2.heap.size := by have := a1.size; simp at this; omega
    have HKW2 := Lib.hid (Keep.trans (Keep.alloc (Keep.refl w) _) a1)
    have hof := fun W (hW : Keep w2 W) => of_any kind A2 c2 xs W (hsl2.keep hW) (by omega)
    have hrf := fun W (hW : Keep w2 W) => rof_any kind A c xs W (HS.out.keep (HKW2.out.trans hW)) HMS.out (by omega)
    have hsame := fun W (hW : Keep w2 W) => same_true A2 A c2 c xs W (hsl2.keep hW) (HS.out.keep (HKW2.out.trans hW))
    rw [rOf_d] at hrf
    have HM := Lib.hid (err_may (kind := kind) (xs := xs))
    have HKK := Lib.hid (err_kind (kind := kind) (xs := xs))
    have HYL := Lib.hid (show (dOwn xs).length ≤ 200 by have := dOwn_len xs; omega)
    have HSO := Lib.hid (dOwn_sorted xs).1
    generalize dErr kind xs = er at *
    generalize dOwn xs = ys at *
    have HOF := Lib.hid hof
    have HSAME := Lib.hid hsame
    clear hof hsame hown2 hg2 a1 a2 a3 HO0 hA1 hsl2
    by_cases her : er = 0
    · subst her
      rw [if_pos rfl] at hrf
      simp only at hrf
      have HRF := Lib.hid hrf
      clear hrf
      have HM2 := Lib.hid (HM.out rfl)
      have HKK2 := Lib.hid (HKK.out rfl)
      clear HM HKK
      go_wp2_with (go_at_call 11; refine Zone.hold ?_)
      refine Zone.unhold ?_
      refine (HOF.out _ (by repeat (first | exact Keep.refl _ | apply Keep.alloc | apply Keep.gro | apply Keep.drew | apply Keep.drewN))).mono ?_
      rintro e w3 ⟨v1, rfl, hres, hk3⟩
      rcases hres with ⟨h0, _⟩ | ⟨_, b1, A1, e1, rfl, hat1⟩
      · exact absurd rfl h0
      have HK3 := Lib.hid hk3
      have HAT3 := Lib.hid hat1
      clear hk3 hat1
      go_wp2_with (go_at_call 12; refine Zone.hold ?_)
      refine Zone.unhold ?_
      refine (HRF.out _ HK3.out).mono ?_
      rintro e w4 ⟨A4, c4, rfl, hsl4, hk4⟩
      have HSL4 := Lib.hid hsl4
      have HAT4 := Lib.hid (HAT3.out.keep hk4)
      have HK4 := Lib.hid (HK3.out.trans hk4)
      have hk24 := HK3.out.trans hk4
      have u0 := (hk24.cell (p := ⟨w.heap.size, 0, none⟩) hz2).trans t0
      have hz4 := Nat.lt_of_lt_of_le hz2 hk24.size
      clear hsl4 hk4 hk24 t0 hz2
      go_wp2_with (go_at_call 20; refine Zone.hold ?_)
      refine Zone.unhold ?_
      refine (HSAME.out _ HK4.out).mono ?_
      rintro e w7 ⟨rfl, hk7⟩
      have HAT7 := Lib.hid (HAT4.out.keep hk7)
      have HSL7 := Lib.hid (HSL4.out.keep hk7)
      have s0 := (hk7.cell (p := ⟨w.heap.size, 0, none⟩) hz4).trans u0
      have hz7 : w.heap.size < w7.heap.size := Nat.lt_of_lt_of_le hz4 hk7.size
      have HK7 := Lib.hid ((HKW2.out.trans HK4.out).trans hk7)
      have HKN := Lib.hid (show kind ≠ 0 by have := HKK2.out; omega)
      clear hk7 u0 hz4 HAT3 HAT4 HSL4 HK3 HK4 HSAME HRF HOF HKW2
      go_wp2_with (go_at_call 18; refine (all_any _ _).mono ?_; rintro e w' ⟨rfl, rfl⟩)
      refine Zone.wp_range_frame ?frame (gf := 40) (lb := #[.pointer (some ⟨w7.heap.size + 1 + 1, 0, none⟩)]) rfl (enters_of Try.func40 (by kernel_rfl) rfl) (all_iter (w7.heap.size + 1 + 1) b1 kind A1 e1 ys HKN.out) (fun _ => rfl)
        (fun pre W => Keep w7 W ∧ Zone.Open W ⟨w7.heap.size, 0, none⟩ (.int .i64 pre.length) ∧ W.cell? ⟨w7.heap.size + 1 + 1, 0, none⟩ = some (.pointer (some ⟨b1, 0, none⟩))) (fun c pre W => c = .exit 0 ∧ Keep w7 W)
        (fun _ _ _ => True)
        (fun s => (Stable.below w7 (by simp; omega)).and ((Stable.open_ _ _).and (Stable.cell _ _))) (fun _ _ => Stable.hpure (Stable.below w7 (by simp; omega))) (fun x Bx => Stable.pure True)
        (fun s A h => ⟨h.2.2, HAT7.out.keep h.1⟩) ⟨(by repeat (first | exact Keep.refl _ | apply Keep.alloc | apply Keep.gro | apply Keep.drew | apply Keep.drewN)), ⟨by simp [go_sem], by simp [go_sem]⟩, by simp [go_sem]⟩ ?assign ?body ?done ?stop
      case assign =>
        rintro r pre x suf W K hx ⟨hkw, hbx, hcl⟩ hK
        obtain ⟨Bx, hBx⟩ : ∃ Bx : Nat, Bx = 0 := ⟨_, rfl⟩
        simp only [encIV]
        gi_wp2
        refine hK Bx _ ?_ ?_
        rotate_left
        · exact Keep.refl _
        trivial
      case body =>
        rintro r pre x suf Bx W hx ⟨hkw, ⟨n0, nf⟩, hcl⟩ _
        obtain ⟨hi, hxe⟩ := idx_at hx
        have HKW := Lib.hid hkw
        have HCL := Lib.hid hcl
        have s0W := (hkw.cell (p := ⟨w.heap.size, 0, none⟩) hz7).trans s0
        have hzW : w.heap.size < W.heap.size := Nat.lt_of_lt_of_le hz7 hkw.size
        have hg3 := World.block_lt_of_cell? W _ n0
        simp only at hg3
        have hkp : ∀ W', Keep W W' → Keep w7 (W'.setCell ⟨w7.heap.size, 0, none⟩ (.int .i64 ((pre.length : Int) + 1))) := fun W' hk => (HKW.out.trans hk).setCell (Nat.le_refl _) _
        have hfin : ∀ (B : Nat) (W' : World), Keep W W' → RoundQ B (fun pre W => Keep w7 W ∧ Zone.Open W ⟨w7.heap.size, 0, none⟩ (.int .i64 pre.length) ∧ W.cell? ⟨w7.heap.size + 1 + 1, 0, none⟩ = some (.pointer (some ⟨b1, 0, none⟩))) (fun c pre W => c = .exit 0 ∧ Keep w7 W) (pre ++ [x]) W .normal ⟨#[], []⟩ (W'.setCell ⟨w7.heap.size, 0, none⟩ (.int .i64 ((pre.length : Int) + 1))) := fun B W' hk =>
          ⟨(KeepsFrom.keep hk).trans (KeepsFrom.set _ _ _), hkp W' hk, ⟨by rw [World.cell?_setCell_same _ _ _ ((hk.cell (p := ⟨w7.heap.size, 0, none⟩) hg3).trans n0)]; simp, by rw [World.frozen?_setCell]; exact (hk.frozen (p := ⟨w7.heap.size, 0, none⟩) hg3).trans nf⟩, (cell_ne (ne_blk (by show w7.heap.size + 1 + 1 ≠ w7.heap.size; omega))).trans ((hk.cell (World.block_lt_of_cell? W _ HCL.out)).trans HCL.out)⟩
        have hfin2 : ∀ (B : Nat) (W' : World), Keep W W' → RoundQ B (fun pre W => Keep w7 W ∧ Zone.Open W ⟨w7.heap.size, 0, none⟩ (.int .i64 pre.length) ∧ W.cell? ⟨w7.heap.size + 1 + 1, 0, none⟩ = some (.pointer (some ⟨b1, 0, none⟩))) (fun c pre W => c = .exit 0 ∧ Keep w7 W) (pre ++ [x]) W (.exit 0) ⟨#[], []⟩ (W'.setCell ⟨w7.heap.size, 0, none⟩ (.int .i64 ((pre.length : Int) + 1))) := fun B W' hk =>
          ⟨(KeepsFrom.keep hk).trans (KeepsFrom.set _ _ _), rfl, hkp W' hk⟩
        have HFIN := Lib.hid hfin
        have HFIN2 := Lib.hid hfin2
        have HX := Lib.hid hx
        have hne : ¬ (w.heap.size = w7.heap.size) := by omega
        have hne' : ¬ (w7.heap.size = w.heap.size) := by omega
        have hplen : pre.length < 200 := by have := HYL.out; omega
        clear hfin hfin2 hkp hkw hcl hx hxe
        by_cases hstop : stop ≤ (pre.length : Int) + 1
        · gi_wp2
          exact HFIN2.out _ _ (Keep.refl W)
        · gi_wp2
          exact HFIN.out _ _ (Keep.refl W)
      case done =>
        rintro E W hE ⟨hkw, _, _⟩ hb
        have HE := Lib.hid hb
        have hE2 : w7.heap.size ≤ E := by simp at hE; omega
        clear hb hE
        obtain ⟨p, rfl⟩ := gro_of_below w7 hkw
        generalize hW : World.gro _ _ = w8 at HE ⊢
        have hk8 : Keep w7 w8 := by rw [← hW]; exact below_gro _ _
        have HTOLD := Lib.hid (told_any b1 kind A1 e1 A4 c4 ys w8 (HAT7.out.keep hk8) (HSL7.out.keep hk8) HKK2.out HYL.out HSO.out HM2.out)
        have HK8 := Lib.hid (HK7.out.trans hk8)
        clear hkw hW hk8
        go_wp2_with (first | (go_at_call 21; refine (HTOLD.out).mono ?_; rintro e w' ⟨rfl, hk⟩; (first | obtain ⟨p, rfl⟩ := Zone.gro_of_gro _ _ hk | obtain ⟨p, rfl⟩ := Zone.gro_of_below _ hk); clear hk) | (go_at_call 10; refine (KN.out _).mono ?_; rintro e w' ⟨rfl, hk⟩; (first | obtain ⟨p, rfl⟩ := Zone.gro_of_gro _ _ hk | obtain ⟨p, rfl⟩ := Zone.gro_of_below _ hk); clear hk))
        refine postM_mark (.inl rfl) rfl (heap_keep (by repeat (first | exact Keep.refl _ | apply Keep.alloc | apply Keep.gro | apply Keep.drew | apply Keep.drewN)) HE.out) (postM_of_body (v := .bool true) (.inl rfl) rfl ?_ ⟨rfl, ?_⟩)
        · simp [results, Try.results6, go_sem]
        · exact keep_put _ (HK8.out.trans (by repeat (first | exact Keep.refl _ | apply Keep.alloc | apply Keep.gro | apply Keep.drew | apply Keep.drewN))) (by have := HK7.out.size; omega)
      case stop =>
        rintro E c pre W hE ⟨rfl, hkw⟩ _ hb
        have HE := Lib.hid hb
        have hE2 : w7.heap.size ≤ E := by simp at hE; omega
        clear hb hE
        obtain ⟨p, rfl⟩ := gro_of_below w7 hkw
        generalize hW : World.gro _ _ = w8 at HE ⊢
        have hk8 : Keep w7 w8 := by rw [← hW]; exact below_gro _ _
        have HTOLD := Lib.hid (told_any b1 kind A1 e1 A4 c4 ys w8 (HAT7.out.keep hk8) (HSL7.out.keep hk8) HKK2.out HYL.out HSO.out HM2.out)
        have HK8 := Lib.hid (HK7.out.trans hk8)
        clear hkw hW hk8
        go_wp2_with (first | (go_at_call 21; refine (HTOLD.out).mono ?_; rintro e w' ⟨rfl, hk⟩; (first | obtain ⟨p, rfl⟩ := Zone.gro_of_gro _ _ hk | obtain ⟨p, rfl⟩ := Zone.gro_of_below _ hk); clear hk) | (go_at_call 10; refine (KN.out _).mono ?_; rintro e w' ⟨rfl, hk⟩; (first | obtain ⟨p, rfl⟩ := Zone.gro_of_gro _ _ hk | obtain ⟨p, rfl⟩ := Zone.gro_of_below _ hk); clear hk))
        refine postM_mark (.inl rfl) rfl (heap_keep (by repeat (first | exact Keep.refl _ | apply Keep.alloc | apply Keep.gro | apply Keep.drew | apply Keep.drewN)) HE.out) (postM_of_body (v := .bool true) (.inl rfl) rfl ?_ ⟨rfl, ?_⟩)
        · simp [results, Try.results6, go_sem]
        · exact keep_put _ (HK8.out.trans (by repeat (first | exact Keep.refl _ | apply Keep.alloc | apply Keep.gro | apply Keep.drew | apply Keep.drewN))) (by have := HK7.out.size; omega)
    · rw [if_neg her] at hrf
      simp only at hrf
      have HRF := Lib.hid hrf
      have her2 : (er != 0) = true := by simpa using her
      have her3 : (er != er) = false := by simp
      have HER := Lib.hid her
      clear hrf her
      go_wp2_with (go_at_call 11; refine Zone.hold ?_)
      refine Zone.unhold ?_
      refine (HOF.out _ (by repeat (first | exact Keep.refl _ | apply Keep.alloc | apply Keep.gro | apply Keep.drew | apply Keep.drewN))).mono ?_
      rintro e w3 ⟨v1, rfl, hres, hk3⟩
      rcases hres with ⟨_, rfl⟩ | ⟨h0, _⟩
      rotate_left
      · exact absurd h0 HER.out
      have HK3 := Lib.hid hk3
      clear hk3
      go_wp2_with (go_at_call 12; refine Zone.hold ?_)
      refine Zone.unhold ?_
      refine (HRF.out _ HK3.out).mono ?_
      rintro e w4 ⟨A4, c4, rfl, hsl4, hk4⟩
      have HK4 := Lib.hid (HK3.out.trans hk4)
      clear hsl4 hk4
      go_wp2_with (first | (go_at_call 20; refine (HSAME.out _ (HK4.out.trans (by repeat (first | exact Keep.refl _ | apply Keep.alloc | apply Keep.gro | apply Keep.drew | apply Keep.drewN)))).mono ?_; rintro e w' ⟨rfl, hk⟩; (first | obtain ⟨p, rfl⟩ := Zone.gro_of_gro _ _ hk | obtain ⟨p, rfl⟩ := Zone.gro_of_below _ hk); clear hk) | (go_at_call 10; refine (KN.out _).mono ?_; rintro e w' ⟨rfl, hk⟩; (first | obtain ⟨p, rfl⟩ := Zone.gro_of_gro _ _ hk | obtain ⟨p, rfl⟩ := Zone.gro_of_below _ hk); clear hk))
      refine postM_of_body (v := .bool true) (.inl rfl) rfl ?_ ⟨rfl, ?_⟩
      · simp [results, Try.results6, go_sem]
      · exact (HKW2.out.trans HK4.out).trans (by repeat (first | exact Keep.refl _ | apply Keep.alloc | apply Keep.gro | apply Keep.drew | apply Keep.drewN))
end Go.Proofs.Ytbblkabnijhdoaa
