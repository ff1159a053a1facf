
/- schema.Bytes. -/
import Derived.WalkKit
import Derived.Lib.Hide
import Derived.WalkSpells
import Derived.WalkLawsBesides
import Derived.BigQuiet
import Derived.Shelf.Abstract
import Derived.Deep.Cut
import Derived.Deep.CutRange
import Derived.Deep.RegionLaw
import Derived.Test.YtmcaednlilhnoaaGreatDoorJh
import Derived.Test.YtmcaednlilhnoaaGreatDoorJe
import Derived.Test.YtmcaednlilhnoaaGreatDoorJj
namespace Go.Proofs.YtmcaednlilhnoaaGreatDoor
open Go.RowKit Go.Zone Go.Shelf
attribute [local go_sem] Zone.zone Zone.stepZ Zone.fill Zone.lookFs Zone.goes Zone.goesUpon Zone.dropFs Zone.cell_gro Zone.frozen_gro Zone.size_gro Zone.lt_add Zone.drew_gro Zone.tape_gro Zone.keep_refl
attribute [local go_sem] Zone.lt_add2 Zone.lt_add3 Zone.lt_add4 Zone.lt_add5 Zone.lt_add6 Zone.lt_add7 Zone.lt_add8 Zone.lt_add9 Zone.lt_add10 Zone.lt_add11 Zone.lt_add12
theorem slB_two {w : World} {g c : Nat} {x y : UInt8} (h0 : w.cell? ⟨g, 0, none⟩ = some (.int .u8 (x.toNat : Int))) (h1 : w.cell? ⟨g, 1, none⟩ = some (.int .u8 (y.toNat : Int))) (hc : 2 ≤ c := by decide) (hc2 : c ≤ 9223372036854775807 := by decide) : SlB w (some ⟨g, 0, none⟩) c [x, y] :=
  ⟨hc, hc2, by simp, fun i hi => ⟨g, 0, rfl, fun j u hu => by
    match i, hi, j, hu with
    | 0, _, 0, hu => cases hu; exact h0
    | 1, _, 0, hu => cases hu; exact h1⟩⟩
def colB (c : Col) : List UInt8 := [UInt8.ofNat c.kind.toNat, UInt8.ofNat c.name.size] ++ c.name.data.toList
def flagB (c : Cfg) (i : Nat) : List UInt8 := [UInt8.ofNat ((if hasP c.inv (i : Int) then 1 else 0) + (if hasP c.rng (i : Int) then 2 else 0))]
def schB (cs : List Col) (c : Cfg) : List UInt8 := le cs.length 2 ++ cs.flatMap colB ++ le (c.sort + 1).toNat 2 ++ (List.range cs.length).flatMap (flagB c) ++ [UInt8.ofNat c.split.length] ++ c.split.flatMap (fun x => le x.toNat 2) ++ le c.leaf.toNat 4
theorem dim_rng {l : List Col} {i : Int} (h : dimP l i = true) : 0 ≤ i ∧ i < l.length := by
  cases i with
  | ofNat k =>
    by_cases hk : k < l.length
    · exact ⟨by simp, by simp; omega⟩
    · simp [dimP, hk] at h
  | negSucc k => simp [dimP] at h
theorem sort_rng {l : List Col} {c : Cfg} (h : Fits l c) : -1 ≤ c.sort ∧ c.sort < 256 := by
  have h1 := h.sort
  have h2 := h.may.hi
  rcases h1 with h1 | h1
  · omega
  · have := dim_rng h1
    omega
/-- where a row of one's own lies behind a box, the box stands -/
theorem box_cell {wb wr : World} {g j : Nat} {u : Value} (hk : Keep wb wr) (hg : g < wb.heap.size) (h : wb.cell? ⟨g, j, none⟩ = some u) : wr.cell? ⟨g, j, none⟩ = some u := (hk.cell (p := ⟨g, j, none⟩) hg).trans h
set_option maxRecDepth 100000 in
set_option maxHeartbeats 8000000 in
theorem sbytes_any (A : Option Addr) (n : Nat) (cs : List Col) (c : Cfg) (w : World) (h : Sl w 2 Col.cells A n cs) (hz : ∀ x ∈ cs, x.name.size ≤ 140737488355328) (hc : CfgAt w c) (hf : Fits cs c) :
    Calls Tryz.prog 34 #[.slice A cs.length n, c.v] w fun e w' => ∃ v, e = .returned (.tuple #[v, .int .i64 0]) ∧ OwnB w' w.heap.size v (schB cs c) ∧ Keep w w' := by
  have HF := Lib.hid (fun W (hW : Keep w W) => fits_any A n cs c W (h.keep hW) hz (hc.keep hW))
  have hq := pB_yes hf
  have hsr := sort_rng hf
  obtain ⟨s0, iA, ic, iv, rA, rc, rv, sA, sc, sp, lf⟩ := c
  simp only at hsr
  obtain ⟨hs0, hs1⟩ := hsr
  have hl := sl_len h
  have hl3 := sl_len hc.i
  have hl4 := sl_len hc.r
  have hc256 : cs.length ≤ 256 := hf.may.hi
  have hs8 : sp.length ≤ 8 := hf.few
  have hf1 : 1 ≤ lf := hf.lo
  have hf2 : lf ≤ 1000000 := hf.hi
  have H := Lib.hid h
  have HMY := Lib.hid hf.may
  have HSP := Lib.hid (show ∀ j, (h : j < sp.length) → 0 ≤ sp[j] ∧ sp[j] < 256 from fun j hj => by have := dim_rng (hf.split j hj); simp only at this; omega)
  have HV1 := Lib.hid (fun W (hW : Keep w W) (i : Int) => has_any iA ic iv i W (hc.i.keep hW))
  have HV2 := Lib.hid (fun W (hW : Keep w W) (i : Int) => has_any rA rc rv i W (hc.r.keep hW))
  have HS := Lib.hid hc.s
  simp only [Cfg.v]
  clear h hf hc hz
  go_enter Tryz.func34, Tryz.ntmps34
  go_upto_region 1 with fail
  have hB : BoxA w (w.alloc (.cells #[.int .i64 s0, .slice iA iv.length ic, .slice rA rv.length rc, .slice sA sp.length sc, .int .i64 lf] 26)) [.int .i64 s0, .slice iA iv.length ic, .slice rA rv.length rc, .slice sA sp.length sc, .int .i64 lf] := BoxA.start (t := 26) (Keep.refl _)
  generalize hwb : World.alloc w _ = wb at hB ⊢
  have hbs := hB.lt
  have x0 := hB.at_ 0 _ rfl
  have x1 := hB.at_ 1 _ rfl
  have x2 := hB.at_ 2 _ rfl
  have x3 := hB.at_ 3 _ rfl
  have x4 := hB.at_ 4 _ rfl
  have HKB := Lib.hid hB.keep
  have HX0 := Lib.hid x0
  have HX1 := Lib.hid x1
  have HX2 := Lib.hid x2
  have HX3 := Lib.hid x3
  have HX4 := Lib.hid x4
  clear hwb hB
  generalize w.heap.size = g0 at hbs x0 x1 x2 x3 x4 HX0 HX1 HX2 HX3 HX4 ⊢
  go_wp2_with (go_at_call 53; refine Zone.hold ?_)
  refine Zone.unhold ?_
  refine (HF.out _ HKB.out).mono ?_
  rintro e w0 ⟨rfl, hk0⟩
  have HK0 := Lib.hid hk0
  clear x0 x1 x2 x3 x4 HF hk0
  go_wp2_with (go_at_call 59; refine Zone.hold ?_)
  refine Zone.unhold ?_
  refine (app16_any none 0 [] cs.length (by omega) _ (Sl.nil_ _ (by decide)) (by simp)).mono ?_
  rintro e w1 ⟨v1, rfl, hown1, hk1⟩
  have HO1 := Lib.hid (hown1.base_mono HK0.out.size)
  have HK1 := Lib.hid (HK0.out.trans hk1)
  clear hown1 hk1 HK0 hq
  go_wp2
  go_loopw [6, 23] (fun v i wr => ∃ (k : Nat) (o : Value) (pre : List UInt8), k ≤ cs.length ∧ i = .int .i64 k ∧ o = v ∧ Hid (OwnB wr wb.heap.size o pre) ∧ Hid (pre = le cs.length 2 ++ (cs.take k).flatMap colB) ∧ pre.length ≤ 2 + k * 66 ∧ Hid (Keep wb wr)) (fun _ i _ => cs.length - (intOf i).toNat)
  case atStart => exact ⟨0, _, _, Nat.zero_le _, rfl, rfl, HO1.out, (by show _ = _; simp), by simp [le_len], HK1.out⟩
  case round =>
    clear HO1 HK1
    obtain ⟨k, o, pre, hk, rfl, rfl, HO, HPR, hpl, HK⟩ := hrel
    by_cases hlt : k < cs.length
    · obtain ⟨b, off, hA, hb, h0, h1⟩ := sl_col (H.out.keep (HKB.out.trans HK.out)) k hlt
      have hn2 := (HMY.out.name k hlt).hi
      have hk1 := (HMY.out.kind k hlt).1
      have hk2 := (HMY.out.kind k hlt).2
      have HT := Lib.hid (show (cs.take (k + 1)).flatMap colB = (cs.take k).flatMap colB ++ colB cs[k] by rw [List.take_succ_eq_append_getElem hlt, List.flatMap_append]; simp)
      subst hA
      generalize cs[k] = s at h0 h1 hn2 hk1 hk2 HT
      obtain ⟨nm, kd⟩ := s
      simp only at h0 h1 hn2 hk1 hk2 HT
      have HSZ := Lib.hid (show nm.data.toList.length = nm.size by rw [Lib.size_eq])
      --DEVCUT
      go_upto_region 7 with fail
      have hka : Keep wr (wr.alloc (.cells #[.string nm, .int .u8 kd] 68)) := (by repeat (first | exact Keep.refl _ | apply Keep.alloc | apply Keep.gro | apply Keep.drew | apply Keep.drewN))
      have c0 : (wr.alloc (.cells #[.string nm, .int .u8 kd] 68)).cell? ⟨wr.heap.size, 0, none⟩ = some (.string nm) := by simp [go_sem]
      have c1 : (wr.alloc (.cells #[.string nm, .int .u8 kd] 68)).cell? ⟨wr.heap.size, 1, none⟩ = some (.int .u8 kd) := by simp [go_sem]
      have hol := HO.out.lt
      have hne : o.ownBlock ≠ some wr.heap.size := fun e => by have := (hol _ e).2; omega
      have HOA := Lib.hid (HO.out.keep hka)
      have HKA := Lib.hid (HK.out.trans hka)
      generalize hwa : World.alloc wr _ = wa at hka c0 c1 HOA HKA ⊢
      generalize wr.heap.size = g at c0 c1 hne ⊢
      have hgl := block_lt_of_cell c0
      have HNE := Lib.hid hne
      have hza := HKA.out.size
      clear hwa hka hol hne HO HK h0 h1 hb
      have hw8 : IntKind.u8.wrap (nm.size : Int) = (nm.size : Int) := by simp [IntKind.wrap, IntKind.signed, IntKind.bits]; omega
      go_region_law (first
        | (refine step_app elt_u8 b8_len b8_one rfl (.tmp 27) (.tmp 34) rfl (ys := [UInt8.ofNat kd.toNat, UInt8.ofNat nm.size]) (HOA.out.keep (by repeat (first | exact Keep.refl _ | apply Keep.alloc | apply Keep.gro | apply Keep.drew | apply Keep.drewN))) rfl rfl (slB_two (x := UInt8.ofNat kd.toNat) (y := UInt8.ofNat nm.size) ?h0 ?h1) (by simp; omega) (by simp; omega) ?_
           case h0 => rw [u8_nat, show ((kd.toNat : Nat) : Int) % 256 = kd by omega]; simp [go_sem]
           case h1 => rw [u8_nat, show (nm.size : Int) % 256 = (nm.size : Int) by omega]; simp [go_sem]
           intro v3 w3 hown3 hg3 hd3
           have c3 : w3.cell? ⟨g, 0, none⟩ = some (.string nm) := hg3.cell (by simp [go_sem, c0, hgl]) fun hj => HNE.out hj.symm
           have hgl3 : g < w3.heap.size := block_lt_of_cell c3
           have HA3 := Lib.hid ((HOA.out.keep (by repeat (first | exact Keep.refl _ | apply Keep.alloc | apply Keep.gro | apply Keep.drew | apply Keep.drewN))).kept (w := wb) hg3 (HKA.out.trans (by repeat (first | exact Keep.refl _ | apply Keep.alloc | apply Keep.gro | apply Keep.drew | apply Keep.drewN))) (Nat.le_refl _))
           have HO3 := Lib.hid hown3
           clear hown3 hg3 hd3)
        | (refine step_appS rfl (.tmp 35) (.tmp 37) rfl rfl HO3.out nm rfl (by simp; omega) HA3.out.size ?_
           intro v4 w4 hown4 hg4
           have HA4 := Lib.hid (HO3.out.kept (w := wb) hg4 HA3.out (Nat.le_refl _))
           have HO4 := Lib.hid hown4
           clear hown4 hg4))
      all_goals
        go_wp2
        go_roundw
        case rel => exact ⟨k + 1, _, _, by omega, by go_num, rfl, HO4.out, (by
          show _ = _
          rw [HT.out, HPR.out]
          simp [colB]), (by
          have := HSZ.out
          simp only [List.length_append, List.length_cons, List.length_nil]
          omega), HA4.out⟩
        case measure => simp [intOf]; omega
      --DEVEND
    · have hkl : k = cs.length := by omega
      subst hkl
      rw [List.take_length] at HPR
      have y0 := box_cell HK.out hbs HX0.out
      have hgw : g0 < wr.heap.size := block_lt_of_cell y0
      have hpl2 : pre.length ≤ 20000 := by omega
      obtain ⟨Lp, Ap, cp, rfl, HSp, _, HLp⟩ := ownB_open HO.out (by omega)
      have hlp : Lp.length ≤ 20000 := by rw [HLp.out]; exact hpl2
      obtain ⟨m1, hm1⟩ : ∃ m1 : Nat, s0 + 1 = (m1 : Int) := ⟨(s0 + 1).toNat, by omega⟩
      have HM1 := Lib.hid hm1
      have hm2 : m1 < 65536 := by omega
      clear hpl hpl2
      go_wp2_with (go_at_call 59; refine Zone.hold ?_)
      refine Zone.unhold ?_
      refine (app16_any Ap cp Lp m1 hm2 _ (HSp.out.keep (by repeat (first | exact Keep.refl _ | apply Keep.alloc | apply Keep.gro | apply Keep.drew | apply Keep.drewN))) (by omega)).mono ?_
      rintro e w2 ⟨v2, rfl, hown2, hk2⟩
      have HK2 := Lib.hid (HK.out.trans hk2)
      have HO2 := Lib.hid (hown2.base_mono HK.out.size : OwnB w2 wb.heap.size v2 _)
      have HP2 := Lib.hid (show Lp ++ le m1 2 = le cs.length 2 ++ cs.flatMap colB ++ le (s0 + 1).toNat 2 by
        rw [HLp.out, HPR.out]
        congr 2
        have := HM1.out
        omega)
      have hl2 : (Lp ++ le m1 2).length ≤ 20002 := by simp [le_len]; omega
      generalize Lp ++ le m1 2 = P2 at HO2 HP2 hl2
      clear hown2 hk2 HO HPR HSp HLp y0 hgw hm1
      go_wp2
      go_loopw [6, 48] (fun v i wr => ∃ (k : Nat) (o : Value) (pre : List UInt8), k ≤ cs.length ∧ i = .int .i64 k ∧ o = v ∧ Hid (OwnB wr wb.heap.size o pre) ∧ Hid (pre = P2 ++ (List.range k).flatMap (flagB ⟨s0, iA, ic, iv, rA, rc, rv, sA, sc, sp, lf⟩)) ∧ pre.length ≤ 20002 + k ∧ Hid (Keep wb wr)) (fun _ i _ => cs.length - (intOf i).toNat)
      case atStart => exact ⟨0, _, _, Nat.zero_le _, rfl, rfl, HO2.out, (by show _ = _; simp), by omega, HK2.out⟩
      case round =>
        clear HO2 HK2 hlt hk HK
        obtain ⟨k, o, pre, hk, rfl, rfl, HO, HPR, hpl, HK⟩ := hrel
        have y1 := box_cell HK.out hbs HX1.out
        have y2 := box_cell HK.out hbs HX2.out
        have hgw : g0 < wr.heap.size := block_lt_of_cell y1
        by_cases hlt : k < cs.length
        · have HRK := Lib.hid (show (List.range (k + 1)).flatMap (flagB ⟨s0, iA, ic, iv, rA, rc, rv, sA, sc, sp, lf⟩) = (List.range k).flatMap (flagB ⟨s0, iA, ic, iv, rA, rc, rv, sA, sc, sp, lf⟩) ++ flagB ⟨s0, iA, ic, iv, rA, rc, rv, sA, sc, sp, lf⟩ k by rw [List.range_succ, List.flatMap_append]; simp)
          cases e1 : hasP iv (k : Int)
          all_goals cases e2 : hasP rv (k : Int)
          all_goals
            have E := Lib.hid (And.intro e1 e2)
            go_wp2_with (go_at_call 60; refine Zone.hold ?_)
            refine Zone.unhold ?_
            with_reducible refine (HV1.out _ (HKB.out.trans HK.out) _).mono ?_
            rintro e w3 ⟨rfl, hk3⟩
            have HK3 := Lib.hid (HK.out.trans hk3)
            have HO3 := Lib.hid (HO.out.keep hk3)
            have z2 := box_cell HK3.out hbs HX2.out
            have hgw3 : g0 < w3.heap.size := block_lt_of_cell z2
            clear y1 y2 hk3 HO HK
            go_wp2_with (go_at_call 60; refine Zone.hold ?_)
            refine Zone.unhold ?_
            with_reducible refine (HV2.out _ (HKB.out.trans HK3.out) _).mono ?_
            rintro e w4 ⟨rfl, hk4⟩
            have HK4 := Lib.hid (HK3.out.trans hk4)
            have HO4 := Lib.hid (HO3.out.keep hk4)
            clear z2 hk4 HO3 HK3 hgw3
            go_wp2_with (at_builtin; refine Zone.hold ?_)
            refine Zone.unhold ?_
          · have HO5 : OwnB (w4.alloc (.cells #[.int .u8 0] 5)) wb.heap.size o pre := HO4.out.keep (Keep.alloc (Keep.refl _) _)
            refine wpList_app elt_u8 b8_len b8_one rfl (.tmp 61) (.tmp 63) rfl (ys := [0]) HO5 rfl rfl (sl_one _ (by omega) (by omega) (b8_at _ (by simp [go_sem]))) (by simp; omega) (by simp; exact Nat.le_succ_of_le HK4.out.size) ?_
            intro v5 w5 hown5 hg5 _
            have ⟨a1, a2, _⟩ := HO5.after (w := wb) hg5 (HK4.out.trans (Keep.alloc (Keep.refl _) _)) (Nat.le_refl _)
            have HO6 := Lib.hid hown5
            have HA5 := Lib.hid a1
            clear hown5 hg5 a1 a2 HO5 HO4
            go_wp2
            go_roundw
            case rel => exact ⟨k + 1, _, _, by omega, by go_num, rfl, HO6.out, (by
              show _ = _
              rw [HRK.out, HPR.out]
              simp [flagB, E.out.1, E.out.2]), by simp; omega, HA5.out⟩
            case measure => simp [intOf]; omega
          · have HO5 : OwnB (w4.alloc (.cells #[.int .u8 2] 5)) wb.heap.size o pre := HO4.out.keep (Keep.alloc (Keep.refl _) _)
            refine wpList_app elt_u8 b8_len b8_one rfl (.tmp 61) (.tmp 63) rfl (ys := [2]) HO5 rfl rfl (sl_one _ (by omega) (by omega) (b8_at _ (by simp [go_sem]))) (by simp; omega) (by simp; exact Nat.le_succ_of_le HK4.out.size) ?_
            intro v5 w5 hown5 hg5 _
            have ⟨a1, a2, _⟩ := HO5.after (w := wb) hg5 (HK4.out.trans (Keep.alloc (Keep.refl _) _)) (Nat.le_refl _)
            have HO6 := Lib.hid hown5
            have HA5 := Lib.hid a1
            clear hown5 hg5 a1 a2 HO5 HO4
            go_wp2
            go_roundw
            case rel => exact ⟨k + 1, _, _, by omega, by go_num, rfl, HO6.out, (by
              show _ = _
              rw [HRK.out, HPR.out]
              simp [flagB, E.out.1, E.out.2]), by simp; omega, HA5.out⟩
            case measure => simp [intOf]; omega
          · have HO5 : OwnB (w4.alloc (.cells #[.int .u8 1] 5)) wb.heap.size o pre := HO4.out.keep (Keep.alloc (Keep.refl _) _)
            refine wpList_app elt_u8 b8_len b8_one rfl (.tmp 61) (.tmp 63) rfl (ys := [1]) HO5 rfl rfl (sl_one _ (by omega) (by omega) (b8_at _ (by simp [go_sem]))) (by simp; omega) (by simp; exact Nat.le_succ_of_le HK4.out.size) ?_
            intro v5 w5 hown5 hg5 _
            have ⟨a1, a2, _⟩ := HO5.after (w := wb) hg5 (HK4.out.trans (Keep.alloc (Keep.refl _) _)) (Nat.le_refl _)
            have HO6 := Lib.hid hown5
            have HA5 := Lib.hid a1
            clear hown5 hg5 a1 a2 HO5 HO4
            go_wp2
            go_roundw
            case rel => exact ⟨k + 1, _, _, by omega, by go_num, rfl, HO6.out, (by
              show _ = _
              rw [HRK.out, HPR.out]
              simp [flagB, E.out.1, E.out.2]), by simp; omega, HA5.out⟩
            case measure => simp [intOf]; omega
          · have HO5 : OwnB (w4.alloc (.cells #[.int .u8 3] 5)) wb.heap.size o pre := HO4.out.keep (Keep.alloc (Keep.refl _) _)
            refine wpList_app elt_u8 b8_len b8_one rfl (.tmp 61) (.tmp 63) rfl (ys := [3]) HO5 rfl rfl (sl_one _ (by omega) (by omega) (b8_at _ (by simp [go_sem]))) (by simp; omega) (by simp; exact Nat.le_succ_of_le HK4.out.size) ?_
            intro v5 w5 hown5 hg5 _
            have ⟨a1, a2, _⟩ := HO5.after (w := wb) hg5 (HK4.out.trans (Keep.alloc (Keep.refl _) _)) (Nat.le_refl _)
            have HO6 := Lib.hid hown5
            have HA5 := Lib.hid a1
            clear hown5 hg5 a1 a2 HO5 HO4
            go_wp2
            go_roundw
            case rel => exact ⟨k + 1, _, _, by omega, by go_num, rfl, HO6.out, (by
              show _ = _
              rw [HRK.out, HPR.out]
              simp [flagB, E.out.1, E.out.2]), by simp; omega, HA5.out⟩
            case measure => simp [intOf]; omega
        · have hkl : k = cs.length := by omega
          subst hkl
          have y3 := box_cell HK.out hbs HX3.out
          have hsl8 : IntKind.u8.wrap (sp.length : Int) = (sp.length : Int) := by simp [IntKind.wrap, IntKind.signed, IntKind.bits]; omega
          clear y1 y2
          go_wp2_with (at_builtin; refine Zone.hold ?_)
          refine Zone.unhold ?_
          have HO5 : OwnB (wr.alloc (.cells #[.int .u8 (sp.length : Int)] 5)) wb.heap.size o pre := HO.out.keep (Keep.alloc (Keep.refl _) _)
          refine wpList_app elt_u8 b8_len b8_one rfl (.tmp 66) (.tmp 71) rfl (ys := [UInt8.ofNat sp.length]) HO5 rfl rfl (sl_one _ (by omega) (by omega) (b8_at _ (by rw [u8_nat, show (sp.length : Int) % 256 = (sp.length : Int) by omega]; simp [go_sem]))) (by simp; omega) (by simp; exact Nat.le_succ_of_le HK.out.size) ?_
          intro v5 w5 hown5 hg5 _
          have ⟨a1, a2, _⟩ := HO5.after (w := wb) hg5 (HK.out.trans (Keep.alloc (Keep.refl _) _)) (Nat.le_refl _)
          have HO6 := Lib.hid hown5
          have HA5 := Lib.hid a1
          have HP6 := Lib.hid (show pre ++ [UInt8.ofNat sp.length] = P2 ++ (List.range cs.length).flatMap (flagB ⟨s0, iA, ic, iv, rA, rc, rv, sA, sc, sp, lf⟩) ++ [UInt8.ofNat sp.length] by rw [HPR.out])
          have hl6 : (pre ++ [UInt8.ofNat sp.length]).length ≤ 20300 := by simp; omega
          generalize pre ++ [UInt8.ofNat sp.length] = P6 at HO6 HP6 hl6
          clear hown5 hg5 a1 a2 HO5 HO y3 hgw HPR hpl
          have z3 := box_cell HA5.out hbs HX3.out
          have hgw : g0 < w5.heap.size := block_lt_of_cell z3
          go_wp2
          clear z3 hgw
          go_loopw [6, 76] (fun v i wr => ∃ (k : Nat) (o : Value) (pre : List UInt8), k ≤ sp.length ∧ i = .int .i64 k ∧ o = v ∧ Hid (OwnB wr wb.heap.size o pre) ∧ Hid (pre = P6 ++ (sp.take k).flatMap (fun x => le x.toNat 2)) ∧ pre.length ≤ 20300 + k * 2 ∧ Hid (Keep wb wr)) (fun _ i _ => sp.length - (intOf i).toNat)
          case atStart => exact ⟨0, _, _, Nat.zero_le _, rfl, rfl, HO6.out, (by show _ = _; simp), by omega, HA5.out⟩
          case round =>
            clear HO6 HA5 hlt hk HK
            obtain ⟨k, o, pre, hk, rfl, rfl, HO, HPR, hpl, HK⟩ := hrel
            obtain ⟨Lp, Ap, cp, rfl, HSp, _, HLp⟩ := ownB_open HO.out (by omega)
            have hlp : Lp.length ≤ 20320 := by rw [HLp.out]; omega
            by_cases hlt : k < sp.length
            · obtain ⟨b, off, hA, hb, h0⟩ := sl_i64 (HS.out.keep (HKB.out.trans HK.out)) k hlt
              obtain ⟨h1, h2⟩ := HSP.out k hlt
              have HT := Lib.hid (show (sp.take (k + 1)).flatMap (fun x => le x.toNat 2) = (sp.take k).flatMap (fun x => le x.toNat 2) ++ le sp[k].toNat 2 by rw [List.take_succ_eq_append_getElem hlt, List.flatMap_append]; simp)
              subst hA
              generalize sp[k] = x at h0 h1 h2 HT
              obtain ⟨y, rfl⟩ : ∃ y : Nat, x = (y : Int) := ⟨x.toNat, by omega⟩
              go_wp2_with (go_at_call 59; refine Zone.hold ?_)
              refine Zone.unhold ?_
              refine (app16_any Ap cp Lp y (by omega) _ (HSp.out.keep (by repeat (first | exact Keep.refl _ | apply Keep.alloc | apply Keep.gro | apply Keep.drew | apply Keep.drewN))) (by omega)).mono ?_
              rintro e w7 ⟨v7, rfl, hown7, hk7⟩
              have HK7 := Lib.hid (HK.out.trans hk7)
              have HO7 := Lib.hid (hown7.base_mono HK.out.size : OwnB w7 wb.heap.size v7 _)
              clear hown7 hk7
              go_wp2
              go_roundw
              case rel => exact ⟨k + 1, _, _, by omega, by go_num, rfl, HO7.out, (by
                show _ = _
                rw [HLp.out, HPR.out, HT.out]
                simp), (by rw [HLp.out]; simp [le_len]; omega), HK7.out⟩
              case measure => simp [intOf]; omega
            · have hkl : k = sp.length := by omega
              subst hkl
              rw [List.take_length] at HPR
              have y4 := box_cell HK.out hbs HX4.out
              have hgw : g0 < wr.heap.size := block_lt_of_cell y4
              obtain ⟨y, rfl⟩ : ∃ y : Nat, lf = (y : Int) := ⟨lf.toNat, by omega⟩
              go_wp2_with (go_at_call 36; refine Zone.hold ?_)
              refine Zone.unhold ?_
              refine (app32_any Ap cp Lp y (by omega) _ (HSp.out.keep (by repeat (first | exact Keep.refl _ | apply Keep.alloc | apply Keep.gro | apply Keep.drew | apply Keep.drewN))) (by omega)).mono ?_
              rintro e w7 ⟨v7, rfl, hown7, hk7⟩
              have HK7 := Lib.hid (HK.out.trans hk7)
              have HO7 := Lib.hid (hown7.base_mono HK.out.size : OwnB w7 wb.heap.size v7 _)
              clear hown7 hk7
              go_wp2
              exact bodyPost_ret (v := .tuple #[v7, .int .i64 0]) (by simp [results, Tryz.results34, go_sem]) rfl ⟨v7, rfl, by
                have := HO7.out.base_mono HKB.out.size
                rw [HLp.out, HPR.out, HP6.out, HP2.out] at this
                simpa [schB] using this, HKB.out.trans HK7.out⟩
end Go.Proofs.YtmcaednlilhnoaaGreatDoor
