
/- forward.Read of the sample's index. -/
import Derived.WalkKit
import Derived.Lib.Hide
import Derived.WalkSpells
import Derived.WalkLawsBesides
import Derived.BigQuiet
import Derived.Shelf.Abstract
import Derived.TacticsInMore
import Derived.LoopNIn
import Derived.LoopIn
import Derived.Test.YtmcaednlilhnoaaGreatDoorFr
import Derived.Test.YtmcaednlilhnoaaGreatDoorSk
namespace Go.Proofs.YtmcaednlilhnoaaGreatDoor
open Go.RowKit Go.Zone Go.Shelf
attribute [local go_sem] Zone.zone Zone.stepZ Zone.fill Zone.lookFs Zone.goes Zone.goesUpon Zone.dropFs Zone.cell_gro Zone.frozen_gro Zone.size_gro Zone.lt_add Zone.drew_gro Zone.tape_gro Zone.keep_refl
attribute [local go_sem] Zone.lt_add2 Zone.lt_add3 Zone.lt_add4 Zone.lt_add5 Zone.lt_add6 Zone.lt_add7 Zone.lt_add8 Zone.lt_add9 Zone.lt_add10 Zone.lt_add11 Zone.lt_add12
attribute [local go_sem] Oper.semAt_some Zone.wide_fn Zone.wide_depth Zone.wide_round Fence.inRound_fn Fence.inRound_depth Fence.inRound_round
theorem wp_calm {P : Program} {c : Code} {K : Act → World → Prop} {Q : Exit → Act → World → Prop} {a : Act} {w : World} (h : c.wp P (Exit.then K fun _ _ _ => False) a w) : c.wp P (Exit.then K Q) a w :=
  wp_mono h fun e _ _ he => by cases e <;> first | exact he | exact he.elim
def idsK : List Nat := [1, 0, 1]
theorem fK_le : fK = le 3 4 ++ (le 2 4 ++ ([UInt8.ofNat 1] ++ [5])) := rfl
theorem fK_len : fK.length = 10 := by decide
set_option maxRecDepth 100000 in
set_option maxHeartbeats 4000000 in
theorem fread_k (A : Option Addr) (c : Nat) (w : World) (h : SlB w A c fK) :
    Calls Tryz.prog 96 #[.slice A fK.length c, .int .i64 3, .int .i64 2] w fun e w' => ∃ b A' c', e = .returned (.tuple #[.pointer (some ⟨b, 0, none⟩), .int .i64 0]) ∧ IdxAt w' b 3 2 1 A' c' (packB idsK 1) ∧ w.heap.size ≤ b ∧ (∀ g off, A' = some ⟨g, off, none⟩ → w.heap.size ≤ g) ∧ Keep w w' := by
  have HNEW := Lib.hid (fun W (hk : Keep w W) => new_any A c fK W (h.keep hk))
  have HSZ := Lib.hid (size_pk 3 1 (by omega) (by omega) (by omega))
  have HMY := Lib.hid (fmay_any 3 2 (.inl ⟨by omega, by omega⟩))
  have HWD := Lib.hid (show ∀ W, Calls Tryz.prog 126 #[.int .i64 2] W fun e w' => e = .returned (.int .i64 1) ∧ Keep W w' from fun W => by
    have := fwidth_any 2 (by omega) W
    rwa [wdF_2] at this)
  have HL := Lib.hid fK_len
  clear h
  refine Zone.calls_of_marks Tryz.func96 rfl ?_
  simp only [Tryz.ntmps96, List.size_toArray, List.length_cons, List.length_nil, Nat.reduceAdd, Nat.reduceSub, Array.replicate_succ, Array.replicate_zero, List.push_toArray, List.append_toArray, List.nil_append, List.cons_append]
  go_wp2_with (go_at_call 91; refine Zone.hold ?_)
  refine Zone.unhold ?_
  have hk0 : Keep w ((w.alloc (.cells #[.pointer none] 43)).alloc (.cells #[.int .i64 0] 34)) := (by repeat (first | exact Keep.refl _ | apply Keep.alloc | apply Keep.gro | apply Keep.drew | apply Keep.drewN))
  have r6 : Row ((w.alloc (.cells #[.pointer none] 43)).alloc (.cells #[.int .i64 0] 34)) w.heap.size 43 [.pointer none] := (row_alloc w _ _).keep (by repeat (first | exact Keep.refl _ | apply Keep.alloc | apply Keep.gro | apply Keep.drew | apply Keep.drewN))
  have r7 : Row ((w.alloc (.cells #[.pointer none] 43)).alloc (.cells #[.int .i64 0] 34)) (w.heap.size + 1) 34 [.int .i64 0] := by
    have := row_alloc (w.alloc (.cells #[.pointer none] 43)) 34 [.int .i64 0]
    rwa [World.size_alloc] at this
  generalize (w.alloc (.cells #[.pointer none] 43)).alloc (.cells #[.int .i64 0] 34) = w0 at hk0 r6 r7 ⊢
  refine (HNEW.out _ hk0).mono ?_
  rintro e w1 ⟨R, A1, c1, rfl, hR, hrd, hk1⟩
  have HRD1 := Lib.hid hrd
  have HK1 := Lib.hid hk1
  have HK0 := Lib.hid hk0
  have HR6 := Lib.hid r6
  have HR7 := Lib.hid r7
  clear hk0 r6 r7 hrd hk1 HNEW
  go_wp2_with (go_at_call 92; refine Zone.hold ?_)
  refine Zone.unhold ?_
  refine (u32_at _ 3 (by omega) HRD1.out (rest := le 2 4 ++ ([UInt8.ofNat 1] ++ [5])) rfl).mono ?_
  rintro e w2 ⟨rfl, hrd, hg⟩
  have HRD2 := Lib.hid hrd
  have HK2 := Lib.hid (Keep.grown HK1.out hg fun k e => by cases e; exact hR)
  clear hrd hg HRD1 HK1
  go_wp2_with (go_at_call 92; refine Zone.hold ?_)
  refine Zone.unhold ?_
  refine (u32_at _ 2 (by omega) HRD2.out (rest := [UInt8.ofNat 1] ++ [5]) rfl).mono ?_
  rintro e w3 ⟨rfl, hrd, hg⟩
  have HRD3 := Lib.hid hrd
  have HK3 := Lib.hid (Keep.grown HK2.out hg fun k e => by cases e; exact hR)
  clear hrd hg HRD2 HK2
  go_wp2_with (go_at_call 157; refine Zone.hold ?_)
  refine Zone.unhold ?_
  refine (u8_at _ 1 (by omega) HRD3.out (rest := [5]) rfl).mono ?_
  rintro e w4 ⟨rfl, hrd, hg⟩
  have HRD4 := Lib.hid hrd
  have HK4 := Lib.hid (Keep.grown HK3.out hg fun k e => by cases e; exact hR)
  clear hrd hg HRD3 HK3
  simp only [Nat.zero_add, Nat.reduceAdd] at HRD4
  have HLF := Lib.hid (fun W (hk : Keep w4 W) => left_any W (HRD4.out.keep hk))
  have hlf : leftR fK 9 false = 1 := by unfold leftR; rw [fK_len]; rfl
  rw [hlf] at HLF
  have HBD := Lib.hid (fun W (hk : Keep w4 W) => bad_any W (HRD4.out.keep hk))
  clear hlf
  go_upto_region 14 with (first | (go_at_call 160; refine (HSZ.out _).mono ?_; rintro e w' ⟨rfl, hk⟩; (first | obtain ⟨p, rfl⟩ := Zone.gro_of_gro _ _ hk | obtain ⟨p, rfl⟩ := Zone.gro_of_below _ hk); clear hk) | (go_at_call 150; refine (HBD.out _ (by repeat (first | exact Keep.refl _ | apply Keep.alloc | apply Keep.gro | apply Keep.drew | apply Keep.drewN))).mono ?_; rintro e w' ⟨rfl, rfl⟩) | (go_at_call 125; refine (HMY.out _).mono ?_; rintro e w' ⟨rfl, hk⟩; (first | obtain ⟨p, rfl⟩ := Zone.gro_of_gro _ _ hk | obtain ⟨p, rfl⟩ := Zone.gro_of_below _ hk); clear hk) | (go_at_call 126; refine (HWD.out _).mono ?_; rintro e w' ⟨rfl, hk⟩; (first | obtain ⟨p, rfl⟩ := Zone.gro_of_gro _ _ hk | obtain ⟨p, rfl⟩ := Zone.gro_of_below _ hk); clear hk) | (go_at_call 154; refine (HLF.out _ (by repeat (first | exact Keep.refl _ | apply Keep.alloc | apply Keep.gro | apply Keep.drew | apply Keep.drewN))).mono ?_; rintro e w' ⟨rfl, hk⟩; (first | obtain ⟨p, rfl⟩ := Zone.gro_of_gro _ _ hk | obtain ⟨p, rfl⟩ := Zone.gro_of_below _ hk); clear hk))
  rename GB => p
  have hk5 : Keep w4 ((w4.alloc (.cells #[.int .i64 2] 3)).gro p) := (by repeat (first | exact Keep.refl _ | apply Keep.alloc | apply Keep.gro | apply Keep.drew | apply Keep.drewN))
  have rM : Row ((w4.alloc (.cells #[.int .i64 2] 3)).gro p) w4.heap.size 3 [.int .i64 2] := (row_alloc w4 _ _).keep (below_gro _ _)
  generalize (w4.alloc (.cells #[.int .i64 2] 3)).gro p = w5 at hk5 rM ⊢
  have HK5 := Lib.hid (HK4.out.trans hk5)
  have HBY := Lib.hid (fun W (hk : Keep w5 W) => bytes_rd W [5] (by simp) (HRD4.out.keep (hk5.trans hk)) (rest := []) rfl)
  have HRM := Lib.hid rM
  have HM4 := Lib.hid (show R ≠ w4.heap.size by have := HRD4.out.lt; omega)
  have hm0 := rM.cell 0 _ rfl
  have hmb := rM.lt
  clear hk5 rM HLF HBD HRD4 HSZ HMY HWD
  generalize w4.heap.size = mb at HRM HM4 hm0 hmb ⊢
  go_cut [13] from 69 to 76 (fun s13 wx => ∃ b A9 c9, s13 = .pointer (some ⟨b, 0, none⟩) ∧ Hid (IdxAt wx b 3 2 1 A9 c9 [5]) ∧ w5.heap.size ≤ b ∧ Hid (∀ g off, A9 = some ⟨g, off, none⟩ → w5.heap.size ≤ g) ∧ Hid (Keep w0 wx) ∧ Hid (Row wx mb 3 [.int .i64 2]))
  case first =>
    --DEVCUT
    refine wp_calm ?_
    go_region_with (go_at_call 149; refine (HBY.out _ (by repeat (first | exact Keep.refl _ | apply Keep.alloc | apply Keep.gro | apply Keep.drew | apply Keep.drewN))).mono ?_; rintro e w9 ⟨A9, c9, rfl, hown, hrd, hg⟩; have hm9 := hg.cell hm0 (fun e => HM4.out (Option.some.inj e).symm); have hmb9 := block_lt_of_cell hm9; have HG9 := Lib.hid hg; have HO9 := Lib.hid hown; clear hg hown hrd)
    all_goals
      go_wp2_with fail
      go_meet
      obtain ⟨A', c', hv, hsl⟩ := HO9.out.sl b8_len (by decide)
      injection hv with hv1 _ hv2
      subst hv1; subst hv2
      exact ⟨w9.heap.size, A9, c9, rfl, ⟨by simp [go_sem], by simp [go_sem], by simp [go_sem], by simp [go_sem], hsl.keep (by repeat (first | exact Keep.refl _ | apply Keep.alloc | apply Keep.gro | apply Keep.drew | apply Keep.drewN))⟩, HG9.out.size, fun g off e => (HO9.out.lt g (by rw [e]; rfl)).1, (Keep.grown (Keep.drew HK5.out) HG9.out fun k e => by cases e; exact hR).trans (by repeat (first | exact Keep.refl _ | apply Keep.alloc | apply Keep.gro | apply Keep.drew | apply Keep.drewN)),
        Row.keep (show Row w9 mb _ _ from (HG9.out.block mb hmb (fun e => HM4.out (Option.some.inj e).symm)).trans HRM.out) (by repeat (first | exact Keep.refl _ | apply Keep.alloc | apply Keep.gro | apply Keep.drew | apply Keep.drewN))⟩
    --DEVEND
  case rest =>
    rename World => w6
    obtain ⟨b, A9, c9, rfl, HIX, hb6, HA9, HK6, HM6⟩ := hcut
    have b3 := HIX.out.b_
    have hb9 := block_lt_of_cell b3
    simp only at hb9
    clear hm0 hmb HBY HRM HM4 HL
    go_wp2_with (go_at_call 161; refine Zone.hold ?_)
    refine Zone.unhold ?_
    refine (unpack_k A9 c9 _ HIX.out.sl).mono ?_
    rintro e w7 ⟨v7, rfl, hk7⟩
    have HK7 := Lib.hid (HK6.out.trans hk7)
    have HIX7 := Lib.hid (HIX.out.keep hk7)
    have HM7 := Lib.hid (HM6.out.keep hk7)
    clear b3 hb9 hk7 HIX HK6 HM6
    go_wp2_with (go_at_call 100; refine Zone.hold ?_)
    refine Zone.unhold ?_
    refine (fall_any _ _).mono ?_
    rintro e w8 ⟨rfl, rfl⟩
    have hk8 : Keep w7 (w7.alloc (.cells #[.pointer (some ⟨b, 0, none⟩)] 43)) := (by repeat (first | exact Keep.refl _ | apply Keep.alloc | apply Keep.gro | apply Keep.drew | apply Keep.drewN))
    have hc8 : (w7.alloc (.cells #[.pointer (some ⟨b, 0, none⟩)] 43)).cell? ⟨w7.heap.size, 0, none⟩ = some (.pointer (some ⟨b, 0, none⟩)) := by simp [go_sem]
    generalize w7.alloc (.cells #[.pointer (some ⟨b, 0, none⟩)] 43) = w8 at hk8 hc8 ⊢
    have HK8 := Lib.hid (HK7.out.trans hk8)
    have HIX8 := Lib.hid (HIX7.out.keep hk8)
    have HM8 := Lib.hid (HM7.out.keep hk8)
    have HC8 := Lib.hid hc8
    clear hk8 hc8 HK7 HIX7 HM7
    generalize w7.heap.size = gI at HC8 ⊢
    go_wp2
    refine Zone.wp_range_frame ?frame (gf := 166) (lb := #[.pointer (some ⟨gI, 0, none⟩)]) rfl (enters_of Tryz.func166 (by kernel_rfl) rfl) (fall_iter gI b 2 1 A9 c9 idsK (by decide) (by decide) (by decide) (by decide)) (fun _ => rfl)
      (fun pre W => Keep w8 W) (fun _ _ _ => False) (fun x Bx W => True)
      (fun s => Stable.below w8 (Nat.le_refl _)) (fun _ _ => Stable.pure False) (fun x Bx => Stable.pure True)
      (fun s A h => ⟨(h.cell (World.block_lt_of_cell? _ _ HC8.out)).trans HC8.out, HIX8.out.keep h⟩) (Keep.refl _) ?assign ?body ?done ?stop
    case assign =>
      rintro r pre x suf W K hx hkw hK
      obtain ⟨Bx, hBx⟩ : ∃ Bx : Nat, Bx = 0 := ⟨_, rfl⟩
      simp only [encII]
      gi_wp2
      refine hK Bx _ ?_ ?_
      rotate_left
      · exact (by repeat (first | exact Keep.refl _ | apply Keep.alloc | apply Keep.gro | apply Keep.drew | apply Keep.drewN))
      trivial
    case body =>
      rintro r pre x suf Bx W hx hkw -
      obtain ⟨hi, hxe⟩ := pairs_at hx
      have hx2 : x.2 < 2 := by rw [hxe]; exact (by decide : ∀ y ∈ idsK, y < 2) _ (List.getElem_mem hi)
      obtain ⟨xi, y⟩ := x
      simp only at hx2
      have hx3 : (y : Int) < 2 := by omega
      have m0 := (HM8.out.keep hkw).cell 0 _ rfl
      have hm := block_lt_of_cell m0
      simp only at hm
      have HKW := Lib.hid hkw
      clear hx hxe hkw hi
      gi_wp2
      exact ⟨KeepsFrom.keep (Keep.refl _), HKW.out⟩
    case done =>
      rintro E W hE hkw hb
      have hz0 := HR7.out.lt
      have hz5 := HK5.out.size
      have hz8 := HK8.out.size
      have HIXW := Lib.hid (HIX8.out.keep hkw)
      have hbl := block_lt_of_cell HIX8.out.r
      have HKW := Lib.hid (HK0.out.trans (HK8.out.trans hkw))
      have r6 := (HR6.out.keep HK8.out).keep hkw
      have r7 := (HR7.out.keep HK8.out).keep hkw
      have HQ6 := Lib.hid r6
      have HQ7 := Lib.hid r7
      have c6 := r6.cell 0 _ rfl
      have f6 := r6.soft 0
      have c7 := r7.cell 0 _ rfl
      have f7 := r7.soft 0
      have HE := Lib.hid hb
      have HA := Lib.hid (show ∀ g off, A9 = some ⟨g, off, none⟩ → g < w8.heap.size from fun g off e => by
        obtain ⟨g', off', e', hc⟩ := HIX8.out.sl.at_ 0 (by decide)
        rw [e] at e'
        cases e'
        exact World.block_lt_of_cell? _ _ (hc 0 _ rfl))
      simp only at hbl
      clear r6 r7 hb hkw HIX8 HM8 HC8 HR6 HR7 HK8
      go_wp2
      have t1 : Turn W (W.setCell ⟨w.heap.size, 0, none⟩ (.pointer (some ⟨b, 0, none⟩))) [w.heap.size, w.heap.size + 1, E] := (Turn.set W ⟨w.heap.size, 0, none⟩ _).mono fun i hi => .inl (by simp at hi; simp [hi])
      have t2 := t1.trans ((Turn.set _ ⟨w.heap.size + 1, 0, none⟩ (.int .i64 0)).mono fun i hi => .inl (by simp at hi; simp [hi]))
      have hE2 : ((W.setCell ⟨w.heap.size, 0, none⟩ (.pointer (some ⟨b, 0, none⟩))).setCell ⟨w.heap.size + 1, 0, none⟩ (.int .i64 0)).heap[E]? = some (.deferred (some [])) := by
        rw [heap_set_ne (by show w.heap.size + 1 ≠ E; omega), heap_set_ne (by show w.heap.size ≠ E; omega)]
        exact HE.out
      have q7 := (HQ7.out.other (b := w.heap.size) 0 (.pointer (some ⟨b, 0, none⟩)) (by omega)).set 0 (.int .i64 0)
      have q6 := (HQ6.out.set 0 (.pointer (some ⟨b, 0, none⟩))).other (b := w.heap.size + 1) 0 (.int .i64 0) (by omega)
      have t3 : Turn W (((W.setCell ⟨w.heap.size, 0, none⟩ (.pointer (some ⟨b, 0, none⟩))).setCell ⟨w.heap.size + 1, 0, none⟩ (.int .i64 0)).putObj E (.deferred none)) [w.heap.size, w.heap.size + 1, E] :=
        t2.trans ⟨rfl, rfl, rfl, by simp, fun i _ hi => World.putObj_heap_other (fun e => hi (by simp [e]))⟩
      have p6 := cell_put (o' := .deferred none) (q6.cell 0 _ rfl) hE2 rfl
      have p7 := cell_put (o' := .deferred none) (q7.cell 0 _ rfl) hE2 rfl
      refine postM_mark (.inl rfl) rfl hE2 (postM_of_body (v := .tuple #[.pointer (some ⟨b, 0, none⟩), .int .i64 0]) (.inl rfl) rfl ?_ ⟨b, A9, c9, rfl, HIXW.out.turn t3 ?_ ?_, ?_, ?_, Turn.after HKW.out t3 ?_⟩)
      · simp [results, Tryz.results96, go_sem, p6, p7]
      · simp only [List.mem_cons, List.not_mem_nil, or_false, not_or]
        omega
      · intro g off e
        have h1 := HA9.out g off e
        have h2 := HA.out g off e
        simp only [List.mem_cons, List.not_mem_nil, or_false, not_or]
        omega
      · omega
      · intro g off e
        have h1 := HA9.out g off e
        omega
      · intro i hi
        simp only [List.mem_cons, List.not_mem_nil, or_false] at hi
        omega
    case stop => exact fun _ _ _ _ _ h => h.elim
end Go.Proofs.YtmcaednlilhnoaaGreatDoor
