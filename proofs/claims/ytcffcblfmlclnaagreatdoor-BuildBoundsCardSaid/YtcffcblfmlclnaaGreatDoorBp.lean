
/- Build, no rows, one column. -/
import Derived.WalkKit
import Derived.Lib.Hide
import Derived.WalkSpells
import Derived.WalkLawsBesides
import Derived.BigQuiet
import Derived.Shelf.Abstract
import Derived.WalkMore
import Derived.Deep.Cut
import Derived.Deep.CutRange
import Derived.Test.YtcffcblfmlclnaaGreatDoorBn
namespace Go.Proofs.YtcffcblfmlclnaaGreatDoor
open Go.RowKit Go.Zone Go.Shelf
attribute [local go_sem] Zone.zone Zone.stepZ Zone.fill Zone.lookFs Zone.goes Zone.goesUpon Zone.dropFs Zone.cell_gro Zone.frozen_gro Zone.size_gro Zone.lt_add Zone.drew_gro Zone.tape_gro Zone.keep_refl
attribute [local go_sem] Zone.lt_add2 Zone.lt_add3 Zone.lt_add4 Zone.lt_add5 Zone.lt_add6 Zone.lt_add7 Zone.lt_add8 Zone.lt_add9 Zone.lt_add10 Zone.lt_add11 Zone.lt_add12
theorem make_ii (W : World) : (Instr.makeSlice 24 (.int .i64 1) (.int .i64 1)).run Tryz.prog W = .ok (.slice (some ⟨W.heap.size, 0, none⟩) 1 1) (W.alloc (.cells #[.int .i64 0] 3)) := by kernel_rfl
theorem make_ss (W : World) : (Instr.makeSlice 48 (.int .i64 1) (.int .i64 1)).run Tryz.prog W = .ok (.slice (some ⟨W.heap.size, 0, none⟩) 1 1) (W.alloc (.cells #[.slice none 0 0] 24)) := by kernel_rfl
def cfg0 : Cfg := ⟨-1, none, 0, [], none, 0, [], none, 0, [], 1⟩
theorem cfg0_at (w : World) : CfgAt w cfg0 := ⟨Sl.nil_ _ (by decide), Sl.nil_ _ (by decide), Sl.nil_ _ (by decide)⟩
def zeroNB (nm : ByteArray) : List (ByteArray × List UInt8) := [(⟨#[115, 99, 104, 101, 109, 97]⟩, schB [⟨nm, 1⟩] cfg0), (⟨#[114, 111, 119, 115]⟩, le 0 4), (⟨#[100, 105, 99, 116, 46, 48]⟩, dBytes 1 []), (⟨#[102, 111, 114, 119, 97, 114, 100, 46, 48]⟩, idxB 0 0 1 [])]
theorem ne_toL {a b : Array UInt8} (h : a.toList ≠ b.toList) : (ByteArray.mk a).toList ≠ (ByteArray.mk b).toList := by
  rw [Lib.toList_data, Lib.toList_data]
  exact h
theorem schB_len (nm : ByteArray) (h : nm.size ≤ 64) : (schB [⟨nm, 1⟩] cfg0).length ≤ 100 := by
  have h2 : nm.data.size = nm.size := rfl
  simp [schB, colB, flagB, le_len, cfg0]
  omega
theorem nameS_sch : NameS ⟨#[115, 99, 104, 101, 109, 97]⟩ := ⟨by decide, by decide, by decide⟩
theorem nameS_rows : NameS ⟨#[114, 111, 119, 115]⟩ := ⟨by decide, by decide, by decide⟩
theorem nameS_dict : NameS ⟨#[100, 105, 99, 116, 46, 48]⟩ := ⟨by decide, by decide, by decide⟩
theorem nameS_fwd : NameS ⟨#[102, 111, 114, 119, 97, 114, 100, 46, 48]⟩ := ⟨by decide, by decide, by decide⟩
theorem secs_zero (nm : ByteArray) (hf : Fits [⟨nm, 1⟩] cfg0) (S : List Sec) (h : S.map nbS = zeroNB nm) : SecsP S := by
  have hl : S.length = 4 := by simpa [zeroNB] using congrArg List.length h
  have hn : nm.size ≤ 64 := by
    have := (hf.may.name 0 (by simp)).hi
    simpa using this
  have hs := schB_len nm hn
  match S, hl with
  | [a, b, c, d], _ =>
    obtain ⟨na, Aa, ca, ba⟩ := a
    obtain ⟨nb, Ab, cb, bb⟩ := b
    obtain ⟨nc, Ac, cc, bc⟩ := c
    obtain ⟨nd, Ad, cd, bd⟩ := d
    simp only [List.map_cons, List.map_nil, nbS, zeroNB, List.cons.injEq, Prod.mk.injEq, and_true] at h
    obtain ⟨⟨rfl, rfl⟩, ⟨rfl, rfl⟩, ⟨rfl, rfl⟩, rfl, rfl⟩ := h
    refine ⟨fun i hi => ?_, fun i hi => ?_, fun i k hi hk => ?_, by simp⟩
    · match i, hi with
      | 0, _ => exact nameS_sch
      | 1, _ => exact nameS_rows
      | 2, _ => exact nameS_dict
      | 3, _ => exact nameS_fwd
    · match i, hi with
      | 0, _ => exact Nat.le_trans hs (by decide)
      | 1, _ => exact (by decide : (le 0 4).length ≤ 1073741824)
      | 2, _ => exact (by decide : (dBytes 1 []).length ≤ 1073741824)
      | 3, _ => exact (by decide : (idxB 0 0 1 []).length ≤ 1073741824)
    · match i, hi, k, hk with
      | 1, _, 0, _ => exact ne_toL (by decide : (#[115, 99, 104, 101, 109, 97] : Array UInt8).toList ≠ (#[114, 111, 119, 115] : Array UInt8).toList)
      | 2, _, 0, _ => exact ne_toL (by decide : (#[115, 99, 104, 101, 109, 97] : Array UInt8).toList ≠ (#[100, 105, 99, 116, 46, 48] : Array UInt8).toList)
      | 2, _, 1, _ => exact ne_toL (by decide : (#[114, 111, 119, 115] : Array UInt8).toList ≠ (#[100, 105, 99, 116, 46, 48] : Array UInt8).toList)
      | 3, _, 0, _ => exact ne_toL (by decide : (#[115, 99, 104, 101, 109, 97] : Array UInt8).toList ≠ (#[102, 111, 114, 119, 97, 114, 100, 46, 48] : Array UInt8).toList)
      | 3, _, 1, _ => exact ne_toL (by decide : (#[114, 111, 119, 115] : Array UInt8).toList ≠ (#[102, 111, 114, 119, 97, 114, 100, 46, 48] : Array UInt8).toList)
      | 3, _, 2, _ => exact ne_toL (by decide : (#[100, 105, 99, 116, 46, 48] : Array UInt8).toList ≠ (#[102, 111, 114, 119, 97, 114, 100, 46, 48] : Array UInt8).toList)
set_option maxRecDepth 100000 in
set_option maxHeartbeats 4000000 in
theorem build_zero (nm : ByteArray) (A B : Option Addr) (n m : Nat) (w : World) (h : Sl w 2 Col.cells A n [⟨nm, 1⟩]) (hf : Fits [⟨nm, 1⟩] cfg0) :
    Calls Tryz.prog 8 #[.slice A 1 n, .agg #[.int .i64 (-1), .slice none 0 0, .slice none 0 0, .slice none 0 0, .int .i64 1], .slice B 0 m] w fun e w' => ∃ v S, e = .returned (.tuple #[v, .int .i64 0]) ∧ S.map nbS = zeroNB nm ∧ SecsP S ∧ OwnB w' w.heap.size v (imageB S) ∧ Keep w w' := by
  have hz : ∀ x ∈ ([⟨nm, 1⟩] : List Col), x.name.size ≤ 140737488355328 := fun x hx => by
    rw [List.mem_singleton] at hx
    subst hx
    have := (hf.may.name 0 (by simp)).hi
    simp at this ⊢
    omega
  have HSO := Lib.hid (fun W (hW : Keep w W) => sorted_zero A B n m [⟨nm, 1⟩] cfg0 W (h.keep hW) hz (cfg0_at W) hf rfl)
  have HSB := Lib.hid (fun W (hW : Keep w W) => sbytes_any A n [⟨nm, 1⟩] cfg0 W (h.keep hW) hz (cfg0_at W) hf)
  have HDM := Lib.hid (fun W (hW : Keep w W) => dim_any A n [⟨nm, 1⟩] 0 W (h.keep hW))
  have HL := Lib.hid h
  have HF := Lib.hid hf
  have hm1 := make_ii
  have hm2 := make_ss
  clear h hf hz
  go_enter Tryz.func8, Tryz.ntmps8
  go_wp2
  go_step3
  have hB : BoxA w (w.alloc (.cells #[.int .i64 (-1), .slice none 0 0, .slice none 0 0, .slice none 0 0, .int .i64 1] 26)) [.int .i64 (-1), .slice none 0 0, .slice none 0 0, .slice none 0 0, .int .i64 1] := BoxA.start (t := 26) (Keep.refl _)
  generalize hwb : World.alloc w _ = wb at hB ⊢
  have hbs := hB.lt
  have x0 := hB.at_ 0 _ rfl
  have x1 := hB.at_ 1 _ rfl
  have x2 := hB.at_ 2 _ rfl
  have x3 := hB.at_ 3 _ rfl
  have x4 := hB.at_ 4 _ rfl
  have HKB := Lib.hid hB.keep
  have HX0 := Lib.hid x0
  have HX1 := Lib.hid x1
  have HX2 := Lib.hid x2
  have HX3 := Lib.hid x3
  have HX4 := Lib.hid x4
  clear hwb hB
  generalize w.heap.size = g0 at hbs x0 x1 x2 x3 x4 HX0 HX1 HX2 HX3 HX4 ⊢
  go_wp2_with (go_at_call 15; refine Zone.hold ?_)
  refine Zone.unhold ?_
  refine (HSO.out _ HKB.out).mono ?_
  rintro e w1 ⟨g1, rfl, hg1, hk1⟩
  have HK1 := Lib.hid hk1
  clear x0 x1 x2 x3 x4 hg1
  have x0 := box_cell hk1 hbs HX0.out
  have x1 := box_cell hk1 hbs HX1.out
  have x2 := box_cell hk1 hbs HX2.out
  have x3 := box_cell hk1 hbs HX3.out
  have x4 := box_cell hk1 hbs HX4.out
  have hgw : g0 < w1.heap.size := block_lt_of_cell x0
  clear hk1 HSO
  go_upto_region 4 with fail
  go_cut [10] from 32 to 42 (fun s10 wx => ∃ bx b gi gq, s10 = .pointer (some ⟨bx, 0, none⟩) ∧ wx.cell? ⟨bx, 0, none⟩ = some (.pointer (some ⟨b, 0, none⟩)) ∧ b ≠ bx ∧
    Hid (Row wx b 51 (mkC (.slice A 1 n) (.int .i64 (-1)) (.slice none 0 0) (.slice none 0 0) (.slice none 0 0) (.int .i64 1) (.slice (some ⟨g1, 0, none⟩) 0 0) (.slice none 0 0) (.slice (some ⟨gi, 0, none⟩) 1 1) (.slice (some ⟨gq, 0, none⟩) 1 1) (.slice none 0 0))) ∧
    Hid (Row wx gi 24 [.slice none 0 0]) ∧ Hid (Row wx gq 3 [.int .i64 0]) ∧ Hid (Keep w1 wx) ∧ w1.heap.size ≤ b ∧ w1.heap.size ≤ bx ∧ w1.heap.size ≤ gi ∧ w1.heap.size ≤ gq)
  case first =>
    --DEVCUT
    go_region
    all_goals
      go_wp2_with fail
      go_meet
      first
      | exact ⟨_, w1.heap.size + 2, w1.heap.size + 0, w1.heap.size + 1, rfl, (by simp [go_sem]), (by omega), allocs_at [_, _, _, _] w1 2 _ rfl, allocs_at [_, _, _, _] w1 0 _ rfl, allocs_at [_, _, _, _] w1 1 _ rfl, (by repeat (first | exact Keep.refl _ | apply Keep.alloc | apply Keep.gro | apply Keep.drew | apply Keep.drewN)), (by omega), (by omega), (by omega), (by omega)⟩
      | exact ⟨_, w1.heap.size + 2, w1.heap.size + 1, w1.heap.size + 0, rfl, (by simp [go_sem]), (by omega), allocs_at [_, _, _, _] w1 2 _ rfl, allocs_at [_, _, _, _] w1 1 _ rfl, allocs_at [_, _, _, _] w1 0 _ rfl, (by repeat (first | exact Keep.refl _ | apply Keep.alloc | apply Keep.gro | apply Keep.drew | apply Keep.drewN)), (by omega), (by omega), (by omega), (by omega)⟩
      | exact ⟨_, w1.heap.size + 3, w1.heap.size + 0, w1.heap.size + 1, rfl, (by simp [go_sem]), (by omega), allocs_at [_, _, _, _] w1 3 _ rfl, allocs_at [_, _, _, _] w1 0 _ rfl, allocs_at [_, _, _, _] w1 1 _ rfl, (by repeat (first | exact Keep.refl _ | apply Keep.alloc | apply Keep.gro | apply Keep.drew | apply Keep.drewN)), (by omega), (by omega), (by omega), (by omega)⟩
      | exact ⟨_, w1.heap.size + 3, w1.heap.size + 1, w1.heap.size + 0, rfl, (by simp [go_sem]), (by omega), allocs_at [_, _, _, _] w1 3 _ rfl, allocs_at [_, _, _, _] w1 1 _ rfl, allocs_at [_, _, _, _] w1 0 _ rfl, (by repeat (first | exact Keep.refl _ | apply Keep.alloc | apply Keep.gro | apply Keep.drew | apply Keep.drewN)), (by omega), (by omega), (by omega), (by omega)⟩
      | exact ⟨_, w1.heap.size + 3, w1.heap.size + 0, w1.heap.size + 2, rfl, (by simp [go_sem]), (by omega), allocs_at [_, _, _, _] w1 3 _ rfl, allocs_at [_, _, _, _] w1 0 _ rfl, allocs_at [_, _, _, _] w1 2 _ rfl, (by repeat (first | exact Keep.refl _ | apply Keep.alloc | apply Keep.gro | apply Keep.drew | apply Keep.drewN)), (by omega), (by omega), (by omega), (by omega)⟩
      | exact ⟨_, w1.heap.size + 3, w1.heap.size + 2, w1.heap.size + 0, rfl, (by simp [go_sem]), (by omega), allocs_at [_, _, _, _] w1 3 _ rfl, allocs_at [_, _, _, _] w1 2 _ rfl, allocs_at [_, _, _, _] w1 0 _ rfl, (by repeat (first | exact Keep.refl _ | apply Keep.alloc | apply Keep.gro | apply Keep.drew | apply Keep.drewN)), (by omega), (by omega), (by omega), (by omega)⟩
      | exact ⟨_, w1.heap.size + 3, w1.heap.size + 1, w1.heap.size + 2, rfl, (by simp [go_sem]), (by omega), allocs_at [_, _, _, _] w1 3 _ rfl, allocs_at [_, _, _, _] w1 1 _ rfl, allocs_at [_, _, _, _] w1 2 _ rfl, (by repeat (first | exact Keep.refl _ | apply Keep.alloc | apply Keep.gro | apply Keep.drew | apply Keep.drewN)), (by omega), (by omega), (by omega), (by omega)⟩
      | exact ⟨_, w1.heap.size + 3, w1.heap.size + 2, w1.heap.size + 1, rfl, (by simp [go_sem]), (by omega), allocs_at [_, _, _, _] w1 3 _ rfl, allocs_at [_, _, _, _] w1 2 _ rfl, allocs_at [_, _, _, _] w1 1 _ rfl, (by repeat (first | exact Keep.refl _ | apply Keep.alloc | apply Keep.gro | apply Keep.drew | apply Keep.drewN)), (by omega), (by omega), (by omega), (by omega)⟩
    --DEVEND
  case rest =>
    rename World => w2
    obtain ⟨bx, b, gi, gq, rfl, hbx, hne, HR, HGI, HGQ, HK2, hb1, hbx1, hgi1, hgq1⟩ := hcut
    have HBX := Lib.hid hbx
    have HW2 := Lib.hid (HKB.out.trans (HK1.out.trans HK2.out))
    have HKG := Lib.hid (HK1.out.trans HK2.out)
    have hb2 := HR.out.lt
    have hbx2 := block_lt_of_cell hbx
    simp only at hbx2
    have hgi2 := HGI.out.lt
    have hgq2 := HGQ.out.lt
    have hz2 := HK2.out.size
    clear x0 x1 x2 x3 x4
    have x0 := box_cell HKG.out hbs HX0.out
    have x1 := box_cell HKG.out hbs HX1.out
    have x2 := box_cell HKG.out hbs HX2.out
    have x3 := box_cell HKG.out hbs HX3.out
    have x4 := box_cell HKG.out hbs HX4.out
    have hg02 : g0 < w2.heap.size := block_lt_of_cell x0
    have hg0b : g0 ≠ b := by omega
    clear hbx
    go_wp2_with (go_at_call 16; refine Zone.hold ?_)
    refine Zone.unhold ?_
    refine (HSB.out _ HW2.out).mono ?_
    rintro e w3 ⟨v3, rfl, ho3, hk3⟩
    obtain ⟨A3, c3, rfl, _⟩ := ho3.sl b8_len (by
      have := (HF.out.may.name 0 (by simp)).hi
      simp at this
      have h2 : nm.data.size = nm.size := rfl
      simp [schB, colB, flagB, le_len, cfg0]
      omega)
    have HK3 := Lib.hid hk3
    have HB3 := Lib.hid (ho3.base_mono (Nat.zero_le _))
    clear hk3 ho3 x0 x1 x2 x3 x4 HSB hm1 hm2
    have y0 := (HK3.out.cell (p := ⟨bx, 0, none⟩) hbx2).trans HBX.out
    have hy0 := block_lt_of_cell y0
    simp only at hy0
    go_wp2_with (go_at_call 17; refine Zone.hold ?_)
    refine Zone.unhold ?_
    refine (put_secs b w2.heap.size [] _ A3 c3 (schB [⟨nm, 1⟩] cfg0) _ (HR.out.keep HK3.out) (Own.nil_ _ _ _ _ _) hb2 HK3.out.size (by simp) (fun _ h => by cases h) HB3.out).mono ?_
    rintro e w4 ⟨rfl, o1, hR4, hO4, hS4, hT4, hd4⟩
    have HT4 := Lib.hid (show Turn w2 w4 [b] from (Turn.keep HK3.out [b]).trans2 hT4 fun i hi => .inl (by simpa [Value.ownBlock] using hi))
    have HR4 := Lib.hid hR4
    have HO4 := Lib.hid hO4
    have HS4 := Lib.hid hS4
    clear hR4 hO4 hS4 hT4 hd4 y0 hy0 HB3
    have y0 := HT4.out.cell HBX.out (show bx ∉ [b] by simp; exact fun e => hne e.symm)
    have hy0 := block_lt_of_cell y0
    simp only at hy0
    go_upto_region 7 with fail
    generalize hnb : ([] ++ [⟨_, A3, c3, schB [⟨nm, 1⟩] cfg0⟩] : List Sec) = S1 at HO4 HS4
    have HNB1 := Lib.hid (show S1.map nbS = [(⟨#[115, 99, 104, 101, 109, 97]⟩, schB [⟨nm, 1⟩] cfg0)] from hnb ▸ rfl)
    have hl1 : S1.length = 1 := hnb ▸ rfl
    have hw0 : IntKind.u32.wrap 0 = 0 := by decide
    clear hnb
    go_cut [] from 52 to 57 (fun wx => ∃ o2 S2, Hid (Row wx b 51 (mkC (.slice A 1 n) (.int .i64 (-1)) (.slice none 0 0) (.slice none 0 0) (.slice none 0 0) (.int .i64 1) (.slice (some ⟨g1, 0, none⟩) 0 0) o2 (.slice (some ⟨gi, 0, none⟩) 1 1) (.slice (some ⟨gq, 0, none⟩) 1 1) (.slice none 0 0))) ∧ Hid (OwnC wx w2.heap.size o2 S2) ∧ Hid (SecsO wx S2) ∧
      Hid (S2.map nbS = [(⟨#[115, 99, 104, 101, 109, 97]⟩, schB [⟨nm, 1⟩] cfg0), (⟨#[114, 111, 119, 115]⟩, le 0 4)]) ∧ Hid (Turn w2 wx [b]))
    case first =>
      --DEVCUT
      have HZ4 := Lib.hid HT4.out.size
      go_region_with (first
        | (go_at_call 18
           refine (app32_any none 0 [] 0 (by decide) _ (Sl.nil_ _ (by decide)) (by simp)).mono ?_
           rintro e w5 ⟨v5, rfl, ho5, hk5⟩
           obtain ⟨A5, c5, rfl, _⟩ := ho5.sl b8_len (by simp [le_len])
           have HB5 := Lib.hid (ho5.base_mono (Nat.zero_le _))
           have HK5 := Lib.hid (Keep.trans (show Keep w4 _ from (by repeat (first | exact Keep.refl _ | apply Keep.alloc | apply Keep.gro | apply Keep.drew | apply Keep.drewN))) hk5)
           have y5 := (HK5.out.cell (p := ⟨bx, 0, none⟩) hy0).trans y0
           have hy5 := block_lt_of_cell y5
           simp only at hy5
           clear ho5 hk5)
        | (go_at_call 17
           refine (put_secs b w2.heap.size S1 _ A5 c5 (le 0 4) _ (HR4.out.keep (HK5.out.trans (by repeat (first | exact Keep.refl _ | apply Keep.alloc | apply Keep.gro | apply Keep.drew | apply Keep.drewN)))) (HO4.out.keep (HK5.out.trans (by repeat (first | exact Keep.refl _ | apply Keep.alloc | apply Keep.gro | apply Keep.drew | apply Keep.drewN)))) hb2 (Nat.le_trans HZ4.out (HK5.out.trans (by repeat (first | exact Keep.refl _ | apply Keep.alloc | apply Keep.gro | apply Keep.drew | apply Keep.drewN))).size) (by omega) (HS4.out.keep (HK5.out.trans (by repeat (first | exact Keep.refl _ | apply Keep.alloc | apply Keep.gro | apply Keep.drew | apply Keep.drewN)))) (HB5.out.keep (by repeat (first | exact Keep.refl _ | apply Keep.alloc | apply Keep.gro | apply Keep.drew | apply Keep.drewN)))).mono ?_
           rintro e w6 ⟨rfl, o2, hR6, hO6, hS6, hT6, hd6⟩))
      all_goals
        go_wp2_with fail
        go_meet
        exact ⟨o2, _, hR6.keep (by repeat (first | exact Keep.refl _ | apply Keep.alloc | apply Keep.gro | apply Keep.drew | apply Keep.drewN)), hO6.keep (by repeat (first | exact Keep.refl _ | apply Keep.alloc | apply Keep.gro | apply Keep.drew | apply Keep.drewN)), hS6.keep (by repeat (first | exact Keep.refl _ | apply Keep.alloc | apply Keep.gro | apply Keep.drew | apply Keep.drewN)), (by show List.map _ _ = _; rw [List.map_append, HNB1.out]; rfl), ((HT4.out.keep_ (HK5.out.trans (by repeat (first | exact Keep.refl _ | apply Keep.alloc | apply Keep.gro | apply Keep.drew | apply Keep.drewN)))).trans2 hT6 fun i hi => by
          rw [List.mem_cons, Option.mem_toList] at hi
          rcases hi with h | h
          · exact .inl (by simp [h])
          · exact .inr (HO4.out.lt _ h).1).keep_ (by repeat (first | exact Keep.refl _ | apply Keep.alloc | apply Keep.gro | apply Keep.drew | apply Keep.drewN))⟩
      --DEVEND
    case rest =>
      rename World => w7
      obtain ⟨o2, S2, HR7, HO7, HS7, HNB7, HT7⟩ := hcut
      have HZ7 := Lib.hid HT7.out.size
      have hl2 : S2.length = 2 := by
        have := congrArg List.length HNB7.out
        simpa using this
      have hgin : gi ∉ [b] := fun e => row_ne HGI.out HR.out (by decide) (by simpa using e)
      have hgqn : gq ∉ [b] := fun e => row_ne HGQ.out HR.out (by decide) (by simpa using e)
      have HGI7 := Lib.hid (HT7.out.row HGI.out hgin)
      have HGQ7 := Lib.hid (HT7.out.row HGQ.out hgqn)
      have hAb : ∀ bA off, A = some ⟨bA, off, none⟩ → bA < w.heap.size := fun bA off e => by
        obtain ⟨bA', off', hA, hlt, _⟩ := sl_col HL.out 0 (by simp)
        rw [hA] at e
        injection e with e
        injection e with e
        rw [← e]
        exact hlt
      have HWZ := Lib.hid HW2.out.size
      have HL7 := Lib.hid (show Sl w7 2 Col.cells A n [⟨nm, 1⟩] from (HL.out.keep HW2.out).turn HT7.out fun bA off e hm => by
        have h1 := hAb bA off e
        have h2 := HKB.out.size
        have h3 := HK1.out.size
        simp at hm
        omega)
      have z0 := HT7.out.cell HBX.out (show bx ∉ [b] by simp; exact fun e => hne e.symm)
      have hz0 := block_lt_of_cell z0
      simp only at hz0
      clear y0 hy0 HR4 HO4 HS4 HT4 HNB1 hw0
      go_wp2
      go_step3
      go_wp2
      refine wp_loop_rounds 2 ?_
      rw [rounds_succ]
      go_wp2_with (go_at_call 11; refine Zone.hold ?_)
      refine Zone.unhold ?_
      refine (dim_any A n [⟨nm, 1⟩] 0 _ HL7.out).mono ?_
      rintro e w8 ⟨rfl, hk8⟩
      rw [show dimP [⟨nm, 1⟩] 0 = true from rfl]
      have HK8 := Lib.hid hk8
      have z1 := (hk8.cell (p := ⟨bx, 0, none⟩) hz0).trans z0
      have hz1 := block_lt_of_cell z1
      simp only at hz1
      clear hk8 z0 hz0
      go_wp2_with (go_at_call 20; refine Zone.hold ?_)
      refine Zone.unhold ?_
      refine (dim_zero b w2.heap.size gi gq S2 nm A _ n 0 _ (HL7.out.keep HK8.out) (HR7.out.keep HK8.out) (HGI7.out.keep HK8.out) (HGQ7.out.keep HK8.out) (HO7.out.keep HK8.out) (HS7.out.keep HK8.out) hb2 hgi2 hgq2 (Nat.le_trans HZ7.out HK8.out.size) (by omega)).mono ?_
      rintro e w9 ⟨rfl, o3, S3, hR9, hO9, hS9, hnb9, hT9⟩
      have HT9 := Lib.hid (show Turn w2 w9 [b, gi, gq] from ((HT7.out.keep_ HK8.out).mono (fun i hi => .inl (by simp at hi ⊢; exact .inl hi))).trans2 hT9 fun i hi => by
        simp only [List.mem_cons, Option.mem_toList] at hi
        rcases hi with h | h | h | h
        · exact .inl (by simp [h])
        · exact .inl (by simp [h])
        · exact .inl (by simp [h])
        · exact .inr (HO7.out.lt _ h).1)
      have HNB9 := Lib.hid (show (S2 ++ S3).map nbS = zeroNB nm by rw [List.map_append, HNB7.out, hnb9]; rfl)
      generalize S2 ++ S3 = S at hO9 hS9 HNB9
      have hlS : S.length = 4 := by simpa [zeroNB] using congrArg List.length HNB9.out
      have HR9 := Lib.hid hR9
      have HO9 := Lib.hid hO9
      have HS9 := Lib.hid hS9
      have hbxn : bx ∉ [b, gi, gq] := fun e => by
        simp only [List.mem_cons, List.not_mem_nil, or_false] at e
        rcases e with e | e | e
        · exact hne e.symm
        · subst e
          have := HGI.out.cell 0 _ rfl
          rw [HBX.out] at this
          cases this
        · subst e
          have := HGQ.out.cell 0 _ rfl
          rw [HBX.out] at this
          cases this
      have z2 := HT9.out.cell HBX.out hbxn
      have hz2' := block_lt_of_cell z2
      have hg0n : g0 ∉ [b, gi, gq] := fun e => by simp at e; omega
      have z3 := HT9.out.cell (box_cell HKG.out hbs HX3.out) hg0n
      have hg09 := block_lt_of_cell z3
      simp only at hz2' hg09
      clear hR9 hO9 hS9 hT9 hnb9 hl2 z1 hz1 hgin hgqn hAb
      obtain ⟨A9, c9, rfl, hsl9⟩ := HO9.out.sl sec_len (by omega)
      have HSL := Lib.hid hsl9
      have HSP := Lib.hid (secs_zero nm HF.out S HNB9.out)
      have HSA := Lib.hid (HS9.out.at_ fun s hs => by
        obtain ⟨i, hi, rfl⟩ := List.getElem_of_mem hs
        have := HSP.out.small i hi
        omega)
      have x7 := HR9.out.cell 7 _ rfl
      have hb9 := HR9.out.lt
      clear hsl9 hbxn hg0n hlS
      go_wp2
      rw [rounds_succ]
      go_wp2_with (go_at_call 24; refine Zone.hold ?_)
      refine Zone.unhold ?_
      refine (write_any A9 c9 S _ HSL.out HSA.out HSP.out).mono ?_
      rintro e wa ⟨v, rfl, hov, hka⟩
      have HKA := Lib.hid (show Keep w wa from (Turn.after HW2.out HT9.out (fun i hi => by
        have h2 := HKB.out.size
        have h3 := HK1.out.size
        simp only [List.mem_cons, List.not_mem_nil, or_false] at hi
        rcases hi with h | h | h <;> omega)).trans hka)
      have HOV := Lib.hid (hov.base_mono (base' := w.heap.size) (Nat.le_trans HW2.out.size HT9.out.size))
      clear hov hka
      go_wp2
      rw [Exit.noGoto_ret]
      exact bodyPost_ret (v := .tuple #[v, .int .i64 0]) (by simp [results, Tryz.results8, go_sem]) rfl ⟨v, S, rfl, HNB9.out, HSP.out, HOV.out, HKA.out⟩
end Go.Proofs.YtcffcblfmlclnaaGreatDoor
