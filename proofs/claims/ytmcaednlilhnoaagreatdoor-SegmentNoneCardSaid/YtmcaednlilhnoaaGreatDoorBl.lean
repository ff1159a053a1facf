
/- Build, one column, no index. -/
import Derived.WalkKit
import Derived.Lib.Hide
import Derived.WalkSpells
import Derived.WalkLawsBesides
import Derived.BigQuiet
import Derived.Shelf.Abstract
import Derived.WalkMore
import Derived.Deep.Cut
import Derived.Deep.CutRange
import Derived.Test.YtmcaednlilhnoaaGreatDoorDn
namespace Go.Proofs.YtmcaednlilhnoaaGreatDoor
open Go.RowKit Go.Zone Go.Shelf
attribute [local go_sem] Zone.zone Zone.stepZ Zone.fill Zone.lookFs Zone.goes Zone.goesUpon Zone.dropFs Zone.cell_gro Zone.frozen_gro Zone.size_gro Zone.lt_add Zone.drew_gro Zone.tape_gro Zone.keep_refl
attribute [local go_sem] Zone.lt_add2 Zone.lt_add3 Zone.lt_add4 Zone.lt_add5 Zone.lt_add6 Zone.lt_add7 Zone.lt_add8 Zone.lt_add9 Zone.lt_add10 Zone.lt_add11 Zone.lt_add12
theorem make_ii (W : World) : (Instr.makeSlice 24 (.int .i64 1) (.int .i64 1)).run Tryz.prog W = .ok (.slice (some ⟨W.heap.size, 0, none⟩) 1 1) (W.alloc (.cells #[.int .i64 0] 3)) := by kernel_rfl
theorem make_ss (W : World) : (Instr.makeSlice 92 (.int .i64 1) (.int .i64 1)).run Tryz.prog W = .ok (.slice (some ⟨W.heap.size, 0, none⟩) 1 1) (W.alloc (.cells #[.slice none 0 0] 24)) := by kernel_rfl
theorem ne_toL {a b : Array UInt8} (h : a.toList ≠ b.toList) : (ByteArray.mk a).toList ≠ (ByteArray.mk b).toList := by
  rw [Lib.toList_data, Lib.toList_data]
  exact h
theorem nameS_sch : NameS ⟨#[115, 99, 104, 101, 109, 97]⟩ := ⟨by decide, by decide, by decide⟩
theorem nameS_rows : NameS ⟨#[114, 111, 119, 115]⟩ := ⟨by decide, by decide, by decide⟩
theorem nameS_dict : NameS ⟨#[100, 105, 99, 116, 46, 48]⟩ := ⟨by decide, by decide, by decide⟩
theorem nameS_fwd : NameS ⟨#[102, 111, 114, 119, 97, 114, 100, 46, 48]⟩ := ⟨by decide, by decide, by decide⟩
/-- the sections of a segment of one column without an index -/
def plainNB (cl : Col) (c : Cfg) (vs : List (List Val)) : List (ByteArray × List UInt8) := [(⟨#[115, 99, 104, 101, 109, 97]⟩, schB [cl] c), (⟨#[114, 111, 119, 115]⟩, le vs.length 4)] ++ dimNB (kindT cl) 0 vs.length (colV vs 0)
set_option maxRecDepth 100000 in
set_option maxHeartbeats 4000000 in
theorem build_plain (cl : Col) (c : Cfg) (A B : Option Addr) (n m : Nat) (rows : List Rw) (w : World) (h : Sl w 2 Col.cells A n [cl]) (hf : Fits [cl] c) (hs : c.sort = -1) (hsp : c.split = []) (hni : hasP c.inv 0 = false) (hnr : hasP c.rng 0 = false) (hdm : dimP [cl] 0 = true)
    (hc : CfgAt w c) (hiA : ∀ bb off, c.iA = some ⟨bb, off, none⟩ → bb < w.heap.size) (hrA : ∀ bb off, c.rA = some ⟨bb, off, none⟩ → bb < w.heap.size)
    (hr : Sl w 1 Rw.cells B m rows) (hra : RowsAt w rows) (hrl : rows.length ≤ 1000000) (hrs : ∀ r ∈ rows, r.vs.length ≤ 1000000) (he : tErr [cl] (rows.map (·.vs)) = 0) (hd : dErr (kindT cl) (colV (rows.map (·.vs)) 0) = 0)
    (hS : ∀ S : List Sec, S.map nbS = plainNB cl c (rows.map (·.vs)) → SecsP S) :
    Calls Tryz.prog 27 #[.slice A 1 n, c.v, .slice B rows.length m] w fun e w' => ∃ v S, e = .returned (.tuple #[v, .int .i64 0]) ∧ S.map nbS = plainNB cl c (rows.map (·.vs)) ∧ SecsP S ∧ OwnB w' w.heap.size v (imageB S) ∧ Keep w w' := by
  have hz : ∀ x ∈ ([cl] : List Col), x.name.size ≤ 140737488355328 := fun x hx => by
    rw [List.mem_singleton] at hx
    subst hx
    have := (hf.may.name 0 (by simp)).hi
    simp at this ⊢
    omega
  have HSO := Lib.hid (fun W (hW : Keep w W) => tsort_plain A B n m [cl] c rows W (h.keep hW) hz (hc.keep hW) hf hs (hr.keep hW) (hra.keep hW) (by omega) (fun r hx => by have := hrs r hx; omega) he)
  have HSB := Lib.hid (fun W (hW : Keep w W) => sbytes_any A n [cl] c W (h.keep hW) hz (hc.keep hW) hf)
  have HNZ := Lib.hid (show cl.name.size ≤ 64 by have := (hf.may.name 0 (by simp)).hi; simpa using this)
  have HSL8 := Lib.hid (show (schB [cl] c).length ≤ 200 by
    have h1 := (hf.may.name 0 (by simp)).hi
    simp at h1
    have h2 : cl.name.data.size = cl.name.size := rfl
    simp [schB, colB, flagB, le_len, hsp]
    omega)
  have HL := Lib.hid h
  have HF := Lib.hid hf
  have HS := Lib.hid hS
  have HCF := Lib.hid hc
  have HRS := Lib.hid hrs
  have HRL := Lib.hid hrl
  have HD := Lib.hid hd
  have HI := Lib.hid hiA
  have HRA := Lib.hid hrA
  have HNI := Lib.hid hni
  have HNR := Lib.hid hnr
  have HDP := Lib.hid hdm
  generalize hsb : schB [cl] c = SB at HSB HSL8
  have HSE := Lib.hid hsb
  clear hsb
  have hm1 := make_ii
  have hm2 := make_ss
  clear h hf hz hc hr hra hrl hrs he hd hS hiA hrA hni hnr hdm
  obtain ⟨s0, iA, ic, iv, rA, rc, rv, sA, sc, sp, lf⟩ := c
  simp only at hs hsp HI HRA HNI HNR
  subst hs
  subst hsp
  go_enter Tryz.func27, Tryz.ntmps27
  simp only [Cfg.v, List.length_nil] at HSO HSB ⊢
  go_wp2
  go_step3
  have hB : BoxA w (w.alloc (.cells #[.int .i64 (-1), .slice iA iv.length ic, .slice rA rv.length rc, .slice sA 0 sc, .int .i64 lf] 26)) [.int .i64 (-1), .slice iA iv.length ic, .slice rA rv.length rc, .slice sA 0 sc, .int .i64 lf] := BoxA.start (t := 26) (Keep.refl _)
  generalize hwb : World.alloc w _ = wb at hB ⊢
  have hbs := hB.lt
  have x0 := hB.at_ 0 _ rfl
  have x1 := hB.at_ 1 _ rfl
  have x2 := hB.at_ 2 _ rfl
  have x3 := hB.at_ 3 _ rfl
  have x4 := hB.at_ 4 _ rfl
  have HKB := Lib.hid hB.keep
  have HX0 := Lib.hid x0
  have HX1 := Lib.hid x1
  have HX2 := Lib.hid x2
  have HX3 := Lib.hid x3
  have HX4 := Lib.hid x4
  clear hwb hB
  have HG0 := Lib.hid (rfl : w.heap.size = w.heap.size)
  generalize hg0 : w.heap.size = g0 at hbs x0 x1 x2 x3 x4 HX0 HX1 HX2 HX3 HX4 ⊢
  clear HG0
  have HG0 := Lib.hid hg0
  clear hg0
  go_wp2_with (go_at_call 33; refine Zone.hold ?_)
  refine Zone.unhold ?_
  refine (HSO.out _ HKB.out).mono ?_
  rintro e w1 ⟨g1, rfl, L, hgo, hgn, hgv, hk1⟩
  have HGO := Lib.hid hgo
  have HGN := Lib.hid hgn
  have HGV := Lib.hid hgv
  have HK1 := Lib.hid hk1
  clear x0 x1 x2 x3 x4 hgo hgn hgv
  have x0 := box_cell hk1 hbs HX0.out
  have x1 := box_cell hk1 hbs HX1.out
  have x2 := box_cell hk1 hbs HX2.out
  have x3 := box_cell hk1 hbs HX3.out
  have x4 := box_cell hk1 hbs HX4.out
  have hgw : g0 < w1.heap.size := block_lt_of_cell x0
  clear hk1 HSO
  go_upto_region 4 with fail
  go_cut [10] from 32 to 42 (fun s10 wx => ∃ bx b gi gq, s10 = .pointer (some ⟨bx, 0, none⟩) ∧ wx.cell? ⟨bx, 0, none⟩ = some (.pointer (some ⟨b, 0, none⟩)) ∧ b ≠ bx ∧
    Hid (Row wx b 96 (mkC (.slice A 1 n) (.int .i64 (-1)) (.slice iA iv.length ic) (.slice rA rv.length rc) (.slice sA 0 sc) (.int .i64 lf) (.slice (some ⟨g1, 0, none⟩) rows.length rows.length) (.slice none 0 0) (.slice (some ⟨gi, 0, none⟩) 1 1) (.slice (some ⟨gq, 0, none⟩) 1 1) (.slice none 0 0))) ∧
    Hid (Row wx gi 24 [.slice none 0 0]) ∧ Hid (Row wx gq 3 [.int .i64 0]) ∧ Hid (Keep w1 wx) ∧ w1.heap.size ≤ b ∧ w1.heap.size ≤ bx ∧ w1.heap.size ≤ gi ∧ w1.heap.size ≤ gq)
  case first =>
    --DEVCUT
    go_region
    all_goals
      go_wp2_with fail
      go_meet
      first
      | exact ⟨_, w1.heap.size + 2, w1.heap.size + 0, w1.heap.size + 1, rfl, (by simp [go_sem]), (by omega), allocs_at [_, _, _, _] w1 2 _ rfl, allocs_at [_, _, _, _] w1 0 _ rfl, allocs_at [_, _, _, _] w1 1 _ rfl, (by repeat (first | exact Keep.refl _ | apply Keep.alloc | apply Keep.gro | apply Keep.drew | apply Keep.drewN)), (by omega), (by omega), (by omega), (by omega)⟩
      | exact ⟨_, w1.heap.size + 2, w1.heap.size + 1, w1.heap.size + 0, rfl, (by simp [go_sem]), (by omega), allocs_at [_, _, _, _] w1 2 _ rfl, allocs_at [_, _, _, _] w1 1 _ rfl, allocs_at [_, _, _, _] w1 0 _ rfl, (by repeat (first | exact Keep.refl _ | apply Keep.alloc | apply Keep.gro | apply Keep.drew | apply Keep.drewN)), (by omega), (by omega), (by omega), (by omega)⟩
      | exact ⟨_, w1.heap.size + 3, w1.heap.size + 0, w1.heap.size + 1, rfl, (by simp [go_sem]), (by omega), allocs_at [_, _, _, _] w1 3 _ rfl, allocs_at [_, _, _, _] w1 0 _ rfl, allocs_at [_, _, _, _] w1 1 _ rfl, (by repeat (first | exact Keep.refl _ | apply Keep.alloc | apply Keep.gro | apply Keep.drew | apply Keep.drewN)), (by omega), (by omega), (by omega), (by omega)⟩
      | exact ⟨_, w1.heap.size + 3, w1.heap.size + 1, w1.heap.size + 0, rfl, (by simp [go_sem]), (by omega), allocs_at [_, _, _, _] w1 3 _ rfl, allocs_at [_, _, _, _] w1 1 _ rfl, allocs_at [_, _, _, _] w1 0 _ rfl, (by repeat (first | exact Keep.refl _ | apply Keep.alloc | apply Keep.gro | apply Keep.drew | apply Keep.drewN)), (by omega), (by omega), (by omega), (by omega)⟩
      | exact ⟨_, w1.heap.size + 3, w1.heap.size + 0, w1.heap.size + 2, rfl, (by simp [go_sem]), (by omega), allocs_at [_, _, _, _] w1 3 _ rfl, allocs_at [_, _, _, _] w1 0 _ rfl, allocs_at [_, _, _, _] w1 2 _ rfl, (by repeat (first | exact Keep.refl _ | apply Keep.alloc | apply Keep.gro | apply Keep.drew | apply Keep.drewN)), (by omega), (by omega), (by omega), (by omega)⟩
      | exact ⟨_, w1.heap.size + 3, w1.heap.size + 2, w1.heap.size + 0, rfl, (by simp [go_sem]), (by omega), allocs_at [_, _, _, _] w1 3 _ rfl, allocs_at [_, _, _, _] w1 2 _ rfl, allocs_at [_, _, _, _] w1 0 _ rfl, (by repeat (first | exact Keep.refl _ | apply Keep.alloc | apply Keep.gro | apply Keep.drew | apply Keep.drewN)), (by omega), (by omega), (by omega), (by omega)⟩
      | exact ⟨_, w1.heap.size + 3, w1.heap.size + 1, w1.heap.size + 2, rfl, (by simp [go_sem]), (by omega), allocs_at [_, _, _, _] w1 3 _ rfl, allocs_at [_, _, _, _] w1 1 _ rfl, allocs_at [_, _, _, _] w1 2 _ rfl, (by repeat (first | exact Keep.refl _ | apply Keep.alloc | apply Keep.gro | apply Keep.drew | apply Keep.drewN)), (by omega), (by omega), (by omega), (by omega)⟩
      | exact ⟨_, w1.heap.size + 3, w1.heap.size + 2, w1.heap.size + 1, rfl, (by simp [go_sem]), (by omega), allocs_at [_, _, _, _] w1 3 _ rfl, allocs_at [_, _, _, _] w1 2 _ rfl, allocs_at [_, _, _, _] w1 1 _ rfl, (by repeat (first | exact Keep.refl _ | apply Keep.alloc | apply Keep.gro | apply Keep.drew | apply Keep.drewN)), (by omega), (by omega), (by omega), (by omega)⟩
    --DEVEND
  case rest =>
    rename World => w2
    obtain ⟨bx, b, gi, gq, rfl, hbx, hne, HR, HGI, HGQ, HK2, hb1, hbx1, hgi1, hgq1⟩ := hcut
    have HBX := Lib.hid hbx
    have HW2 := Lib.hid (HKB.out.trans (HK1.out.trans HK2.out))
    have HKG := Lib.hid (HK1.out.trans HK2.out)
    have hb2 := HR.out.lt
    have hbx2 := block_lt_of_cell hbx
    simp only at hbx2
    have hgi2 := HGI.out.lt
    have hgq2 := HGQ.out.lt
    have hz2 := HK2.out.size
    clear x0 x1 x2 x3 x4
    have x0 := box_cell HKG.out hbs HX0.out
    have x1 := box_cell HKG.out hbs HX1.out
    have x2 := box_cell HKG.out hbs HX2.out
    have x3 := box_cell HKG.out hbs HX3.out
    have x4 := box_cell HKG.out hbs HX4.out
    have hg02 : g0 < w2.heap.size := block_lt_of_cell x0
    have hg0b : g0 ≠ b := by omega
    clear hbx
    go_wp2_with (go_at_call 34; refine Zone.hold ?_)
    refine Zone.unhold ?_
    refine (HSB.out _ HW2.out).mono ?_
    rintro e w3 ⟨v3, rfl, ho3, hk3⟩
    obtain ⟨A3, c3, rfl, _⟩ := ho3.sl b8_len (by have := HSL8.out; omega)
    have HK3 := Lib.hid hk3
    have HB3 := Lib.hid (ho3.base_mono (Nat.zero_le _))
    clear hk3 ho3 x0 x1 x2 x3 x4 HSB hm1 hm2
    have y0 := (HK3.out.cell (p := ⟨bx, 0, none⟩) hbx2).trans HBX.out
    have hy0 := block_lt_of_cell y0
    simp only at hy0
    go_wp2_with (go_at_call 35; refine Zone.hold ?_)
    refine Zone.unhold ?_
    refine (put_secs b w2.heap.size [] _ A3 c3 (SB) _ (HR.out.keep HK3.out) (Own.nil_ _ _ _ _ _) hb2 HK3.out.size (by simp) (fun _ h => by cases h) HB3.out).mono ?_
    rintro e w4 ⟨rfl, o1, hR4, hO4, hS4, hT4, hd4⟩
    have HT4 := Lib.hid (show Turn w2 w4 [b] from (Turn.keep HK3.out [b]).trans2 hT4 fun i hi => .inl (by simpa [Value.ownBlock] using hi))
    have HR4 := Lib.hid hR4
    have HO4 := Lib.hid hO4
    have HS4 := Lib.hid hS4
    clear hR4 hO4 hS4 hT4 hd4 y0 hy0 HB3
    have y0 := HT4.out.cell HBX.out (show bx ∉ [b] by simp; exact fun e => hne e.symm)
    have hy0 := block_lt_of_cell y0
    simp only at hy0
    go_upto_region 7 with fail
    generalize hnb : ([] ++ [⟨_, A3, c3, SB⟩] : List Sec) = S1 at HO4 HS4
    have HNB1 := Lib.hid (show S1.map nbS = [(⟨#[115, 99, 104, 101, 109, 97]⟩, SB)] from hnb ▸ rfl)
    have hl1 : S1.length = 1 := hnb ▸ rfl
    have hw0 : IntKind.u32.wrap (rows.length : Int) = (rows.length : Int) := by have := HRL.out; simp [IntKind.wrap, IntKind.signed, IntKind.bits]; omega
    clear hnb
    go_cut [] from 52 to 57 (fun wx => ∃ o2 S2, Hid (Row wx b 96 (mkC (.slice A 1 n) (.int .i64 (-1)) (.slice iA iv.length ic) (.slice rA rv.length rc) (.slice sA 0 sc) (.int .i64 lf) (.slice (some ⟨g1, 0, none⟩) rows.length rows.length) o2 (.slice (some ⟨gi, 0, none⟩) 1 1) (.slice (some ⟨gq, 0, none⟩) 1 1) (.slice none 0 0))) ∧ Hid (OwnC wx w2.heap.size o2 S2) ∧ Hid (SecsO wx S2) ∧
      Hid (S2.map nbS = [(⟨#[115, 99, 104, 101, 109, 97]⟩, SB), (⟨#[114, 111, 119, 115]⟩, le rows.length 4)]) ∧ Hid (Turn w2 wx [b]))
    case first =>
      --DEVCUT
      have HZ4 := Lib.hid HT4.out.size
      go_region_with (first
        | (go_at_call 36
           refine (app32_any none 0 [] rows.length (by have := HRL.out; omega) _ (Sl.nil_ _ (by decide)) (by simp)).mono ?_
           rintro e w5 ⟨v5, rfl, ho5, hk5⟩
           obtain ⟨A5, c5, rfl, _⟩ := ho5.sl b8_len (by simp [le_len])
           have HB5 := Lib.hid (ho5.base_mono (Nat.zero_le _))
           have HK5 := Lib.hid (Keep.trans (show Keep w4 _ from (by repeat (first | exact Keep.refl _ | apply Keep.alloc | apply Keep.gro | apply Keep.drew | apply Keep.drewN))) hk5)
           have y5 := (HK5.out.cell (p := ⟨bx, 0, none⟩) hy0).trans y0
           have hy5 := block_lt_of_cell y5
           simp only at hy5
           clear ho5 hk5)
        | (go_at_call 35
           refine (put_secs b w2.heap.size S1 _ A5 c5 (le rows.length 4) _ (HR4.out.keep (HK5.out.trans (by repeat (first | exact Keep.refl _ | apply Keep.alloc | apply Keep.gro | apply Keep.drew | apply Keep.drewN)))) (HO4.out.keep (HK5.out.trans (by repeat (first | exact Keep.refl _ | apply Keep.alloc | apply Keep.gro | apply Keep.drew | apply Keep.drewN)))) hb2 (Nat.le_trans HZ4.out (HK5.out.trans (by repeat (first | exact Keep.refl _ | apply Keep.alloc | apply Keep.gro | apply Keep.drew | apply Keep.drewN))).size) (by omega) (HS4.out.keep (HK5.out.trans (by repeat (first | exact Keep.refl _ | apply Keep.alloc | apply Keep.gro | apply Keep.drew | apply Keep.drewN)))) (HB5.out.keep (by repeat (first | exact Keep.refl _ | apply Keep.alloc | apply Keep.gro | apply Keep.drew | apply Keep.drewN)))).mono ?_
           rintro e w6 ⟨rfl, o2, hR6, hO6, hS6, hT6, hd6⟩))
      all_goals
        go_wp2_with fail
        go_meet
        exact ⟨o2, _, hR6.keep (by repeat (first | exact Keep.refl _ | apply Keep.alloc | apply Keep.gro | apply Keep.drew | apply Keep.drewN)), hO6.keep (by repeat (first | exact Keep.refl _ | apply Keep.alloc | apply Keep.gro | apply Keep.drew | apply Keep.drewN)), hS6.keep (by repeat (first | exact Keep.refl _ | apply Keep.alloc | apply Keep.gro | apply Keep.drew | apply Keep.drewN)), (by show List.map _ _ = _; rw [List.map_append, HNB1.out]; rfl), ((HT4.out.keep_ (HK5.out.trans (by repeat (first | exact Keep.refl _ | apply Keep.alloc | apply Keep.gro | apply Keep.drew | apply Keep.drewN)))).trans2 hT6 fun i hi => by
          rw [List.mem_cons, Option.mem_toList] at hi
          rcases hi with h | h
          · exact .inl (by simp [h])
          · exact .inr (HO4.out.lt _ h).1).keep_ (by repeat (first | exact Keep.refl _ | apply Keep.alloc | apply Keep.gro | apply Keep.drew | apply Keep.drewN))⟩
      --DEVEND
    case rest =>
      rename World => w7
      obtain ⟨o2, S2, HR7, HO7, HS7, HNB7, HT7⟩ := hcut
      have HZ7 := Lib.hid HT7.out.size
      have hl2 : S2.length = 2 := by
        have := congrArg List.length HNB7.out
        simpa using this
      have hgin : gi ∉ [b] := fun e => row_ne HGI.out HR.out (by decide) (by simpa using e)
      have hgqn : gq ∉ [b] := fun e => row_ne HGQ.out HR.out (by decide) (by simpa using e)
      have HGI7 := Lib.hid (HT7.out.row HGI.out hgin)
      have HGQ7 := Lib.hid (HT7.out.row HGQ.out hgqn)
      have hAb : ∀ bA off, A = some ⟨bA, off, none⟩ → bA < w.heap.size := fun bA off e => by
        obtain ⟨bA', off', hA, hlt, _⟩ := sl_col HL.out 0 (by simp)
        rw [hA] at e
        injection e with e
        injection e with e
        rw [← e]
        exact hlt
      have HWZ := Lib.hid HW2.out.size
      have HL7 := Lib.hid (show Sl w7 2 Col.cells A n [cl] from (HL.out.keep HW2.out).turn HT7.out fun bA off e hm => by
        have h1 := hAb bA off e
        have h2 := HKB.out.size
        have h3 := HK1.out.size
        simp at hm
        omega)
      have z0 := HT7.out.cell HBX.out (show bx ∉ [b] by simp; exact fun e => hne e.symm)
      have hz0 := block_lt_of_cell z0
      simp only at hz0
      clear y0 hy0 HR4 HO4 HS4 HT4 HNB1 hw0
      go_wp2
      go_step3
      go_wp2
      refine wp_loop_rounds 2 ?_
      rw [rounds_succ]
      go_wp2_with (go_at_call 37; refine Zone.hold ?_)
      refine Zone.unhold ?_
      refine (dim_any A n [cl] 0 _ HL7.out).mono ?_
      rintro e w8 ⟨rfl, hk8⟩
      rw [HDP.out]
      have HK8 := Lib.hid hk8
      have z1 := (hk8.cell (p := ⟨bx, 0, none⟩) hz0).trans z0
      have hz1 := block_lt_of_cell z1
      simp only at hz1
      clear hk8 z0 hz0
      go_wp2_with (go_at_call 39; refine Zone.hold ?_)
      refine Zone.unhold ?_
      have HK18 := Lib.hid (show Keep w1 w8 from (Turn.after HK2.out HT7.out (fun i hi => by simp at hi; omega)).trans HK8.out)
      have HRW8 := Lib.hid (show RowsAt w8 L from fun r hr => ((HGN.out r hr).keep HK18.out).sl (by
        have : r.vs ∈ rows.map (·.vs) := HGV.out ▸ List.mem_map_of_mem hr
        obtain ⟨r', hr', e⟩ := List.mem_map.1 this
        have := HRS.out r' hr'
        rw [← e]
        omega))
      have hLl : L.length = rows.length := by simpa using congrArg List.length HGV.out
      obtain ⟨_, _, eg, hsg⟩ := (HGO.out.keep HK18.out).sl (fun r => rfl) (by rw [hLl]; have := HRL.out; omega)
      injection eg with eg1 eg2 eg3
      subst eg1
      subst eg3
      have HSG := Lib.hid hsg
      have HLL := Lib.hid hLl
      have HWB := Lib.hid (show w.heap.size ≤ w1.heap.size from Nat.le_trans HKB.out.size HK1.out.size)
      clear hsg hLl eg2
      have hdim := dim_plain (p := .slice sA 0 sc) (f := .int .i64 lf) (M := .slice none 0 0) b w2.heap.size gi gq S2 [cl] A (some ⟨g1, 0, none⟩) n rows.length 0 L (-1) iA rA ic rc iv rv [.slice none 0 0] [.int .i64 0] w8 (HL7.out.keep HK8.out) (HSG.out) HRW8.out (by rw [HLL.out]; exact HRL.out) ((HCF.out.i.keep (HKB.out.trans HK1.out)).keep HK18.out) ((HCF.out.r.keep (HKB.out.trans HK1.out)).keep HK18.out) (by simp) (by omega) HNI.out HNR.out (by simp) (by rw [HLL.out]; exact HR7.out.keep HK8.out) (HGI7.out.keep HK8.out) (HGQ7.out.keep HK8.out) (by simp) (by simp) (HO7.out.keep HK8.out) (HS7.out.keep HK8.out) hb2 hgi2 hgq2 (Nat.le_trans HZ7.out HK8.out.size) (by omega) (by rw [HGV.out]; exact HD.out)
        (fun bb off e => by have h1 := HI.out bb off e; have h2 := HWB.out; exact ⟨by simp; omega, by omega⟩) (fun bb off e => by have h1 := HRA.out bb off e; have h2 := HWB.out; exact ⟨by simp; omega, by omega⟩)
      rw [HLL.out, HGV.out] at hdim
      refine hdim.mono ?_
      rintro e w9 ⟨rfl, o3, S3, X9, hR9, hGI9, hGQ9, hO9, hS9, hnb9, hT9⟩
      have HT9 := Lib.hid (show Turn w2 w9 [b, gi, gq] from ((HT7.out.keep_ HK8.out).mono (fun i hi => .inl (by simp at hi ⊢; exact .inl hi))).trans2 hT9 fun i hi => by
        simp only [List.mem_cons, Option.mem_toList] at hi
        rcases hi with h | h | h | h
        · exact .inl (by simp [h])
        · exact .inl (by simp [h])
        · exact .inl (by simp [h])
        · exact .inr (HO7.out.lt _ h).1)
      have HNB9 := Lib.hid (show (S2 ++ S3).map nbS = plainNB cl ⟨-1, iA, ic, iv, rA, rc, rv, sA, sc, [], lf⟩ (rows.map (·.vs)) by rw [List.map_append, HNB7.out, hnb9]; simp only [plainNB, List.length_map]; rw [HSE.out]; rfl)
      generalize S2 ++ S3 = S at hO9 hS9 HNB9
      have hlS : S.length = 4 := by simpa [plainNB, dimNB] using congrArg List.length HNB9.out
      have HR9 := Lib.hid hR9
      have HO9 := Lib.hid hO9
      have HS9 := Lib.hid hS9
      have hbxn : bx ∉ [b, gi, gq] := fun e => by
        simp only [List.mem_cons, List.not_mem_nil, or_false] at e
        rcases e with e | e | e
        · exact hne e.symm
        · subst e
          have := HGI.out.cell 0 _ rfl
          rw [HBX.out] at this
          cases this
        · subst e
          have := HGQ.out.cell 0 _ rfl
          rw [HBX.out] at this
          cases this
      have z2 := HT9.out.cell HBX.out hbxn
      have hz2' := block_lt_of_cell z2
      have hg0n : g0 ∉ [b, gi, gq] := fun e => by simp at e; omega
      have z3 := HT9.out.cell (box_cell HKG.out hbs HX3.out) hg0n
      have hg09 := block_lt_of_cell z3
      simp only at hz2' hg09
      clear hdim hGI9 hGQ9 hR9 hO9 hS9 hT9 hnb9 hl2 z1 hz1 hgin hgqn hAb
      obtain ⟨A9, c9, rfl, hsl9⟩ := HO9.out.sl sec_len (by omega)
      have HSL := Lib.hid hsl9
      have HSP := Lib.hid (HS.out S HNB9.out)
      have HSA := Lib.hid (HS9.out.at_ fun s hs => by
        obtain ⟨i, hi, rfl⟩ := List.getElem_of_mem hs
        have := HSP.out.small i hi
        omega)
      have x7 := HR9.out.cell 7 _ rfl
      have hb9 := HR9.out.lt
      clear hsl9 hbxn hg0n hlS
      go_wp2
      rw [rounds_succ]
      go_wp2_with (go_at_call 43; refine Zone.hold ?_)
      refine Zone.unhold ?_
      refine (write_any A9 c9 S _ HSL.out HSA.out HSP.out).mono ?_
      rintro e wa ⟨v, rfl, hov, hka⟩
      have HKA := Lib.hid (show Keep w wa from (Turn.after HW2.out HT9.out (fun i hi => by
        have h2 := HKB.out.size
        have h3 := HK1.out.size
        simp only [List.mem_cons, List.not_mem_nil, or_false] at hi
        rcases hi with h | h | h <;> omega)).trans hka)
      have HOV := Lib.hid (hov.base_mono (base' := w.heap.size) (Nat.le_trans HW2.out.size HT9.out.size))
      clear hov hka
      go_wp2
      rw [Exit.noGoto_ret]
      exact bodyPost_ret (v := .tuple #[v, .int .i64 0]) (by simp [results, Tryz.results27, go_sem]) rfl ⟨v, S, rfl, HNB9.out, HSP.out, HOV.out, HKA.out⟩
end Go.Proofs.YtmcaednlilhnoaaGreatDoor
