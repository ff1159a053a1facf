
/- The walk of isinglasslaw11.told. -/
import Derived.WalkKit
import Derived.Lib.Hide
import Derived.WalkSpells
import Derived.WalkLawsBesides
import Derived.BigQuiet
import Derived.Shelf.Abstract
import Derived.LoopN
import Derived.TacticsInMore
import Derived.LoopNIn
import Derived.LoopIn
import Derived.Test.YtbblkabnijhdoaaOrder
import Derived.Test.YtbblkabnijhdoaaRefB
namespace Go.Proofs.Ytbblkabnijhdoaa
open Go.RowKit Go.Zone Go.Shelf
attribute [local go_sem] Zone.zone Zone.stepZ Zone.fill Zone.lookFs Zone.goes Zone.goesUpon Zone.dropFs Zone.cell_gro Zone.frozen_gro Zone.size_gro Zone.lt_add Zone.drew_gro Zone.tape_gro Zone.keep_refl
attribute [local go_sem] Zone.lt_add2 Zone.lt_add3 Zone.lt_add4 Zone.lt_add5 Zone.lt_add6 Zone.lt_add7 Zone.lt_add8 Zone.lt_add9 Zone.lt_add10 Zone.lt_add11 Zone.lt_add12
attribute [local go_sem] Oper.semAt_some Zone.wide_fn Zone.wide_depth Zone.wide_round Fence.inRound_fn Fence.inRound_depth Fence.inRound_round
attribute [local go_sem high] run_eq_nilfn run_eq_val run_ne_val run_eqG_val eqC_zero
theorem eqC_same (k n : Int) (s : ByteArray) : eqC k n k n s s = true := by simp [eqC]
attribute [local go_sem high] eqC_same
theorem find_own {kind : Int} {ys : List Val} (hk : kind ≠ 0) (hs : ys.Pairwise LtV) (i : Nat) (hi : i < ys.length) : findV kind ys ys[i] = ((i : Int), true) := by
  have h := (at_hit hs i hi (v := ys[i])).1 rfl
  unfold findV
  rw [if_neg hk, if_pos h.1, ← h.2]
set_option maxRecDepth 100000 in
set_option maxHeartbeats 4000000 in
theorem told_any (b : Nat) (kind : Int) (A : Option Addr) (c : Nat) (B : Option Addr) (d : Nat) (ys : List Val) (w : World) (hat : DictAt w b kind A c ys) (hB : Sl w 3 Val.cells B d ys) (hk : kind = 1 ∨ kind = 2) (hl : ys.length ≤ 200)
    (hs : ys.Pairwise LtV) (hm : ∀ x ∈ ys, x.s.size ≤ 65535) :
    Calls Try.prog 21 #[.pointer (some ⟨b, 0, none⟩), .int .u8 kind, .slice B ys.length d] w fun e w' => e = .returned (.bool true) ∧ Keep w w' := by
  have HAT := Lib.hid hat
  have HB := Lib.hid hB
  have HSO := Lib.hid hs
  have hkr : 0 < kind ∧ kind < 256 := by omega
  have hkne : kind ≠ 0 := by omega
  have HKN := Lib.hid hkne
  have hlen := fun W (hW : Keep w W) => len_at W (hat.keep hW)
  rw [if_neg hkne] at hlen
  have HLEN := Lib.hid hlen
  have HKIND := Lib.hid (fun W (hW : Keep w W) => kind_at W (hat.keep hW))
  obtain ⟨bs, hbs⟩ : ∃ bs, dBytes kind ys = bs := ⟨_, rfl⟩
  have hb1 := fun W (hW : Keep w W) => bytes_at kind W (hat.keep hW) hkr.1 hkr.2 (by omega) (fun x hx => by have := hm x hx; omega)
  have hb2 := fun W (hW : Keep w W) => rdb_any kind B d ys W (hB.keep hW) hkr.1 hkr.2 (by omega) (fun x hx => by have := hm x hx; omega)
  rw [hbs] at hb1 hb2
  have hbl : bs.length ≤ 140737488355328 := by
    have h1 := flat_vB ys 65535 hm
    have h2 : ys.length * (65535 + 10) ≤ 200 * (65535 + 10) := Nat.mul_le_mul hl (Nat.le_refl _)
    rw [← hbs]
    simp only [dBytes, List.length_append, List.length_cons, List.length_nil, le_len]
    omega
  have HB1 := Lib.hid hb1
  have HB2 := Lib.hid hb2
  clear hat hB hs hlen hb1 hb2 hbs hkne hm
  refine Zone.calls_of_marks Try.func21 rfl ?_
  simp only [Try.ntmps21, List.size_toArray, List.length_cons, List.length_nil, Nat.reduceAdd, Nat.reduceSub, Array.replicate_succ, Array.replicate_zero, List.push_toArray, List.append_toArray, List.nil_append, List.cons_append]
  go_wp2
  first | refine Zone.wp_region_all_gro (by kernel_rfl) (by kernel_rfl) ?_ | refine Zone.wp_region_all (by kernel_rfl) (by kernel_rfl) ?_
  repeat
    refine Zone.wpZ_step (fun K hK => ?_)
    go_simp
    first
    | (refine hK _ _ ?_; clear hK K)
    | (apply Exists.intro
       refine ⟨fun p => ?_, hK _ _ ?_⟩
       (first | (go_at_call 16; exact Zone.zs (HLEN.out _ (by repeat (first | exact Keep.refl _ | apply Keep.alloc | apply Keep.gro | apply Keep.drew | apply Keep.drewN)))) | (go_at_call 23; exact Zone.zs (HKIND.out _ (by repeat (first | exact Keep.refl _ | apply Keep.alloc | apply Keep.gro | apply Keep.drew | apply Keep.drewN)))))
       clear hK K)
  refine Zone.wpZ_free 32 (fun u W => ∃ A c, u = .slice A bs.length c ∧ SlB W A c bs) rfl (fun _ _ _ hk ⟨A, c, h1, h2⟩ => ⟨A, c, h1, h2.keep hk⟩) ?_ ?_
  · intro p
    rw [Zone.lookFs_nil (by rfl)]
    simp only [Zone.fill]
    go_simp
    go_at_call 17
    refine (HB1.out _ (by repeat (first | exact Keep.refl _ | apply Keep.alloc | apply Keep.gro | apply Keep.drew | apply Keep.drewN))).mono ?_
    rintro e w5 ⟨u, rfl, hown, hk⟩
    obtain ⟨A5, c5, hv5, hsl5⟩ := hown.sl b8_len hbl
    exact ⟨u, rfl, ⟨A5, c5, hv5, hsl5⟩, hk⟩
  refine Zone.wpZ_step (fun K hK => ?_)
  refine Zone.zone_free1 (.string ⟨bs.toArray⟩) (d := 32) (by rfl) (fun p u hu => ?_) (hK _ _ ?_)
  · obtain ⟨A5, c5, rfl, hsl5⟩ := hu
    have hstr := str_of hsl5
    go_simp
  clear hK K
  refine Zone.wpZ_step (fun K hK => ?_)
  unfold Zone.zone Zone.stepZ
  rw [Zone.lookFs_nil (by rfl)]
  go_simp
  (refine hK _ _ ?_; clear hK K)
  refine Zone.wpZ_step (fun K hK => ?_)
  unfold Zone.zone Zone.stepZ
  rw [Zone.lookFs_nil (by rfl)]
  go_simp
  (refine hK _ _ ?_; clear hK K)
  refine Zone.wpZ_free 36 (fun u W => ∃ A c, u = .slice A bs.length c ∧ SlB W A c bs) rfl (fun _ _ _ hk ⟨A, c, h1, h2⟩ => ⟨A, c, h1, h2.keep hk⟩) ?_ ?_
  · intro p
    rw [Zone.lookFs_nil (by rfl)]
    simp only [Zone.fill]
    go_simp
    go_at_call 45
    refine (HB2.out _ (by repeat (first | exact Keep.refl _ | apply Keep.alloc | apply Keep.gro | apply Keep.drew | apply Keep.drewN))).mono ?_
    rintro e w5 ⟨u, rfl, hown, hk⟩
    obtain ⟨A5, c5, hv5, hsl5⟩ := hown.sl b8_len hbl
    exact ⟨u, rfl, ⟨A5, c5, hv5, hsl5⟩, hk⟩
  refine Zone.wpZ_step (fun K hK => ?_)
  refine Zone.zone_free1 (.string ⟨bs.toArray⟩) (d := 36) (by rfl) (fun p u hu => ?_) (hK _ _ ?_)
  · obtain ⟨A5, c5, rfl, hsl5⟩ := hu
    have hstr := str_of hsl5
    go_simp
  clear hK K
  refine Zone.wpZ_step (fun K hK => ?_)
  unfold Zone.zone Zone.stepZ
  rw [Zone.lookFs_nil (by rfl)]
  go_simp
  (refine hK _ _ ?_; clear hK K)
  refine Zone.wpZ_step (fun K hK => ?_)
  unfold Zone.zone Zone.stepZ
  rw [Zone.lookFs_nil (by rfl)]
  go_simp
  (refine hK _ _ ?_; clear hK K)
  refine Zone.wpZ_nil ?_
  intro p
  simp only [Zone.fill]
  intro u2 hu2 u1 hu1
  clear hu1 hu2
  obtain ⟨w7, hw7⟩ : ∃ w7, ((w.alloc (Obj.cells #[.slice B ys.length d] 22)).alloc (Obj.cells #[.bool false] 4)).gro p = w7 := ⟨_, rfl⟩
  have hk0 : Keep ((w.alloc (Obj.cells #[.slice B ys.length d] 22)).alloc (Obj.cells #[.bool false] 4)) w7 := by rw [← hw7]; exact below_gro _ p
  rw [hw7]
  have l0 : w7.cell? ⟨w.heap.size, 0, none⟩ = some (.slice B ys.length d) := (hk0.cell (p := ⟨w.heap.size, 0, none⟩) (by simp; omega)).trans (by simp [go_sem])
  have r0 : w7.cell? ⟨w.heap.size + 1, 0, none⟩ = some (.bool false) := (hk0.cell (p := ⟨w.heap.size + 1, 0, none⟩) (by simp)).trans (by simp [go_sem])
  have rf : w7.frozen? ⟨w.heap.size + 1, 0, none⟩ = false := (hk0.frozen (p := ⟨w.heap.size + 1, 0, none⟩) (by simp)).trans (by simp [go_sem])
  have hkw7 : Keep w w7 := Keep.trans (by repeat (first | exact Keep.refl _ | apply Keep.alloc | apply Keep.gro | apply Keep.drew | apply Keep.drewN)) hk0
  have hz7 : w.heap.size + 1 < w7.heap.size := by have := hk0.size; simp at this; omega
  have hz6 : w.heap.size < w7.heap.size := by omega
  have HAT7 := Lib.hid (HAT.out.keep hkw7)
  have HB7 := Lib.hid (HB.out.keep hkw7)
  have HK7 := Lib.hid hkw7
  clear hw7 hk0 hkw7 HB1 HB2 HLEN HKIND HAT HB hkr hbl
  go_wp2_with (go_at_call 18; refine (all_any _ _).mono ?_; rintro e w' ⟨rfl, rfl⟩)
  refine Zone.wp_range_frame ?frame (gf := 40) (lb := #[.pointer (some ⟨w7.heap.size + 1 + 1, 0, none⟩)]) rfl (enters_of Try.func40 (by kernel_rfl) rfl) (all_iter (w7.heap.size + 1 + 1) b kind A c ys HKN.out) (fun _ => rfl)
    (fun pre W => Keep w7 W ∧ Zone.Open W ⟨w7.heap.size, 0, none⟩ (.int .i64 pre.length) ∧ W.cell? ⟨w7.heap.size + 1 + 1, 0, none⟩ = some (.pointer (some ⟨b, 0, none⟩))) (fun _ _ _ => False)
    (fun x Bx W => w7.heap.size + 1 + 1 < Bx ∧ Box3 W Bx x.2)
    (fun s => (Stable.below w7 (by simp; omega)).and ((Stable.open_ _ _).and (Stable.cell _ _))) (fun _ _ => Stable.pure False) (fun x Bx => Stable.hpure (Stable.box3 _ _))
    (fun s A h => ⟨h.2.2, HAT7.out.keep h.1⟩) ⟨(by repeat (first | exact Keep.refl _ | apply Keep.alloc | apply Keep.gro | apply Keep.drew | apply Keep.drewN)), ⟨by simp [go_sem], by simp [go_sem]⟩, by simp [go_sem]⟩ ?assign ?body ?done ?stop
  case assign =>
    rintro r pre x suf W K hx ⟨hkw, hbx, hcl⟩ hK
    have hlt2 := World.block_lt_of_cell? W _ hcl
    obtain ⟨Bx, hBx⟩ : ∃ Bx, W.heap.size = Bx := ⟨_, rfl⟩
    simp only [encIV]
    gi_wp2
    refine hK Bx _ ?_ ?_
    rotate_left
    · exact (by repeat (first | exact Keep.refl _ | apply Keep.alloc | apply Keep.gro | apply Keep.drew | apply Keep.drewN))
    exact ⟨by omega, ⟨by rw [← hBx]; simp [go_sem], by rw [← hBx]; simp [go_sem], by rw [← hBx]; simp [go_sem], by rw [← hBx]; simp [go_sem], by rw [← hBx]; simp [go_sem], by rw [← hBx]; simp [go_sem]⟩⟩
  case body =>
    rintro r pre x suf Bx W hx ⟨hkw, ⟨n0, nf⟩, hcl⟩ ⟨hltB, hbX⟩
    obtain ⟨hi, hxe⟩ := idx_at hx
    obtain ⟨n, y⟩ := x
    simp only [Prod.mk.injEq] at hxe
    obtain ⟨rfl, hy⟩ := hxe
    obtain ⟨bx, off, rfl, hbx, c0, c1, c2⟩ := sl_val (HB7.out.keep hkw) pre.length hi
    rw [← hy] at c0 c1 c2
    have HKW := Lib.hid hkw
    have HCL := Lib.hid hcl
    obtain ⟨yk, yn, ysx⟩ := y
    have m0 := hbX.c0
    have m1 := hbX.c1
    have m2 := hbX.c2
    have hg2 := hbX.lt
    have hg3 := World.block_lt_of_cell? W _ n0
    simp only at m0 m1 m2 hg3
    have b0 := (hkw.cell (p := ⟨w.heap.size, 0, none⟩) hz6).trans l0
    have hz6W : w.heap.size < W.heap.size := Nat.lt_of_lt_of_le hz6 hkw.size
    have hfin : ∀ (B : Nat) (W' : World), Keep W W' → RoundQ B (fun pre W => Keep w7 W ∧ Zone.Open W ⟨w7.heap.size, 0, none⟩ (.int .i64 pre.length) ∧ W.cell? ⟨w7.heap.size + 1 + 1, 0, none⟩ = some (.pointer (some ⟨b, 0, none⟩))) (fun _ _ _ => False) (pre ++ [(pre.length, ⟨yk, yn, ysx⟩)]) W .normal ⟨#[], []⟩ (W'.setCell ⟨w7.heap.size, 0, none⟩ (.int .i64 ((pre.length : Int) + 1))) := fun B W' hk =>
      ⟨(KeepsFrom.keep hk).trans (KeepsFrom.set _ _ _), (HKW.out.trans hk).setCell (Nat.le_refl _) _, ⟨by rw [World.cell?_setCell_same _ _ _ ((hk.cell (p := ⟨w7.heap.size, 0, none⟩) hg3).trans n0)]; simp, by rw [World.frozen?_setCell]; exact (hk.frozen (p := ⟨w7.heap.size, 0, none⟩) hg3).trans nf⟩, (cell_ne (ne_blk (by show w7.heap.size + 1 + 1 ≠ w7.heap.size; omega))).trans ((hk.cell (World.block_lt_of_cell? W _ HCL.out)).trans HCL.out)⟩
    have HFIN := Lib.hid hfin
    have hi1 : (pre.length : Int) < (ys.length : Int) := by omega
    have hi2 : (0 : Int) ≤ (pre.length : Int) := by omega
    have HX := Lib.hid hx
    clear hfin hbX hkw hcl hx hy
    gi_wp2
    first | refine Zone.wpR_region_all_gro (by kernel_rfl) (by kernel_rfl) ?_ | refine Zone.wpR_region_all (by kernel_rfl) (by kernel_rfl) ?_
    repeat
      refine Zone.wpZ_step (fun K hK => ?_)
      go_simp
      first
      | (refine hK _ _ ?_; clear hK K)
      | (apply Exists.intro
         refine ⟨fun p => ?_, hK _ _ ?_⟩
         (fail)
         clear hK K)
    refine Zone.wpZ_nil ?_
    intro p
    simp only [Zone.fill]
    gi_wp2
    exact HFIN.out _ _ (below_gro W _)
  case done =>
    rintro E W hE ⟨hkw, ⟨n0, nf⟩, hcl⟩ hb
    have HE := Lib.hid hb
    have hE2 : w7.heap.size ≤ E := by simp at hE; omega
    rw [idx_len] at n0
    have b0 := (hkw.cell (p := ⟨w.heap.size, 0, none⟩) hz6).trans l0
    have s0 := (hkw.cell (p := ⟨w.heap.size + 1, 0, none⟩) hz7).trans r0
    have sf := (hkw.frozen (p := ⟨w.heap.size + 1, 0, none⟩) hz7).trans rf
    have hy6 : w.heap.size < W.heap.size := Nat.lt_of_lt_of_le hz6 hkw.size
    have hy7 : w.heap.size + 1 < W.heap.size := Nat.lt_of_lt_of_le hz7 hkw.size
    have hyn : w7.heap.size < W.heap.size := World.block_lt_of_cell? W _ n0
    have HATW := Lib.hid (HAT7.out.keep hkw)
    have HBW := Lib.hid (HB7.out.keep hkw)
    have HKW := Lib.hid (HK7.out.trans hkw)
    have HZ7 := Lib.hid hz7
    clear hb hkw hcl hE nf l0 r0 rf hz6 hz7 HAT7 HB7 HK7
    go_wp2
    go_loopw [10, 11, 12, 13, 14] (fun vi _ _ _ _ wr => ∃ j : Nat, j ≤ ys.length + 2 ∧ vi = .int .i64 ((j : Int) - 1) ∧ Hid (Keep W wr)) (fun vi _ _ _ _ _ => ys.length + 2 - (intOf vi + 1).toNat)
    case atStart => exact ⟨0, by omega, rfl, Keep.refl _⟩
    case round =>
      obtain ⟨j, hj, rfl, HK⟩ := hrel
      have b0' := (HK.out.cell (p := ⟨w.heap.size, 0, none⟩) hy6).trans b0
      have s0' := (HK.out.cell (p := ⟨w.heap.size + 1, 0, none⟩) hy7).trans s0
      have sf' := (HK.out.frozen (p := ⟨w.heap.size + 1, 0, none⟩) hy7).trans sf
      have n0' := (HK.out.cell (p := ⟨w7.heap.size, 0, none⟩) hyn).trans n0
      have hx6 : w.heap.size < wr.heap.size := Nat.lt_of_lt_of_le hy6 HK.out.size
      have hx7 : w.heap.size + 1 < wr.heap.size := Nat.lt_of_lt_of_le hy7 HK.out.size
      have hxn : w7.heap.size < wr.heap.size := Nat.lt_of_lt_of_le hyn HK.out.size
      have HATR := Lib.hid (HATW.out.keep HK.out)
      have HBR := Lib.hid (HBW.out.keep HK.out)
      by_cases h0 : j = 0
      · subst h0
        rw [show (((0 : Nat) : Int) - 1) = -1 from rfl]
        go_wp2_with (go_at_call 22; refine (value_out (-1) _ (HATR.out.keep (by repeat (first | exact Keep.refl _ | apply Keep.alloc | apply Keep.gro | apply Keep.drew | apply Keep.drewN))) HKN.out (Or.inl (by omega))).mono ?_; rintro e w' ⟨rfl, hk⟩; (first | obtain ⟨p, rfl⟩ := Zone.gro_of_gro _ _ hk | obtain ⟨p, rfl⟩ := Zone.gro_of_below _ hk); clear hk)
        go_roundw
        case rel => exact ⟨1, by omega, rfl, HK.out.trans (by repeat (first | exact Keep.refl _ | apply Keep.alloc | apply Keep.gro | apply Keep.drew | apply Keep.drewN))⟩
        case measure => simp [intOf] <;> omega
      · obtain ⟨m, rfl⟩ : ∃ m, j = m + 1 := ⟨j - 1, by omega⟩
        rw [show (((m + 1 : Nat) : Int) - 1) = (m : Int) by omega]
        by_cases hlt : m < ys.length
        · have hfind := fun W' (hW : Keep wr W') => find_at ys[m] W' (HATR.out.keep hW) HSO.out
          simp only [find_own HKN.out HSO.out m hlt] at hfind
          have hval := fun W' (hW : Keep wr W') => value_at m W' (HATR.out.keep hW) HKN.out hlt
          obtain ⟨bx, off, rfl, hbx, c0, c1, c2⟩ := sl_val HBR.out m hlt
          obtain ⟨y, hy⟩ : ∃ y, ys[m] = y := ⟨_, rfl⟩
          rw [hy] at c0 c1 c2
          simp only [hy] at hfind hval
          obtain ⟨yk, yn, ysx⟩ := y
          have HFIND := Lib.hid hfind
          have HVAL := Lib.hid hval
          have hi1 : (m : Int) < (ys.length : Int) := by omega
          have hi2 : (0 : Int) ≤ (m : Int) := by omega
          clear hfind hval hy
          go_wp2_with (first | (go_at_call 22; refine (HVAL.out _ (by repeat (first | exact Keep.refl _ | apply Keep.alloc | apply Keep.gro | apply Keep.drew | apply Keep.drewN))).mono ?_; rintro e w' ⟨rfl, hk⟩; (first | obtain ⟨p, rfl⟩ := Zone.gro_of_gro _ _ hk | obtain ⟨p, rfl⟩ := Zone.gro_of_below _ hk); clear hk) | (go_at_call 15; refine (HFIND.out _ (by repeat (first | exact Keep.refl _ | apply Keep.alloc | apply Keep.gro | apply Keep.drew | apply Keep.drewN))).mono ?_; rintro e w' ⟨rfl, hk⟩; (first | obtain ⟨p, rfl⟩ := Zone.gro_of_gro _ _ hk | obtain ⟨p, rfl⟩ := Zone.gro_of_below _ hk); clear hk))
          first | refine Zone.wp_region_all_gro (by kernel_rfl) (by kernel_rfl) ?_ | refine Zone.wp_region_all (by kernel_rfl) (by kernel_rfl) ?_
          repeat
            refine Zone.wpZ_step (fun K hK => ?_)
            go_simp
            first
            | (refine hK _ _ ?_; clear hK K)
            | (apply Exists.intro
               refine ⟨fun p => ?_, hK _ _ ?_⟩
               (fail)
               clear hK K)
          refine Zone.wpZ_nil ?_
          intro p
          simp only [Zone.fill]
          go_wp2
          go_roundw
          case rel => exact ⟨m + 2, by omega, congrArg (Value.int .i64) (by omega), HK.out.trans (by repeat (first | exact Keep.refl _ | apply Keep.alloc | apply Keep.gro | apply Keep.drew | apply Keep.drewN))⟩
          case measure => simp [intOf] <;> omega
        · by_cases hle : m = ys.length
          · subst hle
            go_wp2_with (go_at_call 22; refine (value_out (ys.length : Int) _ (HATR.out.keep (by repeat (first | exact Keep.refl _ | apply Keep.alloc | apply Keep.gro | apply Keep.drew | apply Keep.drewN))) HKN.out (Or.inr (by omega))).mono ?_; rintro e w' ⟨rfl, hk⟩; (first | obtain ⟨p, rfl⟩ := Zone.gro_of_gro _ _ hk | obtain ⟨p, rfl⟩ := Zone.gro_of_below _ hk); clear hk)
            go_roundw
            case rel => exact ⟨ys.length + 2, by omega, congrArg (Value.int .i64) (by omega), HK.out.trans (by repeat (first | exact Keep.refl _ | apply Keep.alloc | apply Keep.gro | apply Keep.drew | apply Keep.drewN))⟩
            case measure => simp [intOf] <;> omega
          · have hi1 : ¬ ((m : Int) ≤ (ys.length : Int)) := by omega
            have HER := Lib.hid (heap_keep HK.out HE.out)
            go_wp2
            have g1 : ((wr.setCell ⟨w.heap.size + 1, 0, none⟩ (.bool true)).heap[E]? = some (.deferred (some []))) := (heap_set_ne (by have := HZ7.out; show w.heap.size + 1 ≠ E; omega)).trans HER.out
            have gc : (wr.setCell ⟨w.heap.size + 1, 0, none⟩ (.bool true)).cell? ⟨w.heap.size + 1, 0, none⟩ = some (.bool true) := World.cell?_setCell_same _ _ _ s0'
            have gc2 := cell_put (o' := .deferred none) gc g1 rfl
            refine postM_mark (.inl rfl) rfl g1 (postM_of_body (v := .bool true) (.inl rfl) rfl ?_ ⟨rfl, ?_⟩)
            · simp [results, Try.results21, go_sem, gc2]
            · exact keep_put _ ((HKW.out.trans HK.out).setCell (by simp) _) (by have := HZ7.out; omega)
  case stop => exact fun _ _ _ _ _ h => h.elim
end Go.Proofs.Ytbblkabnijhdoaa
