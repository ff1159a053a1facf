
/- The table: Column; Sorted where nothing is sorted by. -/
import Derived.WalkKit
import Derived.Lib.Hide
import Derived.WalkSpells
import Derived.WalkLawsBesides
import Derived.BigQuiet
import Derived.Shelf.Abstract
import Derived.Deep.Cut
import Derived.Deep.CutRange
import Derived.Test.YtmcaednlilhnoaaGreatDoorTb
import Derived.Test.YtmcaednlilhnoaaGreatDoorBe3
namespace Go.Proofs.YtmcaednlilhnoaaGreatDoor
open Go.RowKit Go.Zone Go.Shelf
attribute [local go_sem] Zone.zone Zone.stepZ Zone.fill Zone.lookFs Zone.goes Zone.goesUpon Zone.dropFs Zone.cell_gro Zone.frozen_gro Zone.size_gro Zone.lt_add Zone.drew_gro Zone.tape_gro Zone.keep_refl
attribute [local go_sem] Zone.lt_add2 Zone.lt_add3 Zone.lt_add4 Zone.lt_add5 Zone.lt_add6 Zone.lt_add7 Zone.lt_add8 Zone.lt_add9 Zone.lt_add10 Zone.lt_add11 Zone.lt_add12
theorem flat_set3 : ∀ (xs : List Val) (i : Nat) (x : Val), i < xs.length → (((xs.flatMap Val.cells).set (i * 3) (.int .u8 x.k)).set (i * 3 + 1) (.int .i64 x.n)).set (i * 3 + 2) (.string x.s) = (xs.set i x).flatMap Val.cells
  | y :: r, 0, x, _ => by
    simp only [List.flatMap_cons, Val.cells, List.set_cons_zero, List.cons_append, List.nil_append, Nat.zero_mul, Nat.zero_add, List.set_cons_succ]
  | y :: r, i + 1, x, h => by
    have := flat_set3 r i x (by simpa using h)
    simp only [List.flatMap_cons, List.set_cons_succ]
    rw [← this]
    have e : (i + 1) * 3 = i * 3 + 1 + 1 + 1 := by omega
    simp only [Val.cells, e, List.cons_append, List.nil_append, List.set_cons_succ]
theorem row_set3 {w : World} {g : Nat} {xs : List Val} (h : Row w g 61 (xs.flatMap Val.cells)) (i : Nat) (hi : i < xs.length) (x : Val) :
    Row (((w.setCell ⟨g, i * 3, none⟩ (.int .u8 x.k)).setCell ⟨g, i * 3 + 1, none⟩ (.int .i64 x.n)).setCell ⟨g, i * 3 + 2, none⟩ (.string x.s)) g 61 ((xs.set i x).flatMap Val.cells) := by
  rw [← flat_set3 xs i x hi]
  exact ((Row.set h _ _).set _ _).set _ _
def colV (rows : List (List Val)) (p : Nat) : List Val := rows.map fun r => r.getD p zeroVal
set_option maxRecDepth 100000 in
set_option maxHeartbeats 4000000 in
theorem tcol_any (A : Option Addr) (c p : Nat) (rows : List Rw) (w : World) (h : Sl w 1 Rw.cells A c rows) (hs : RowsAt w rows) (hl : rows.length ≤ 1000000000) :
    Calls Tryz.prog 62 #[.slice A rows.length c, .int .i64 p] w fun e w' => ∃ g, e = .returned (.slice (some ⟨g, 0, none⟩) rows.length rows.length) ∧ Row w' g 61 ((colV (rows.map (·.vs)) p).flatMap Val.cells) ∧ w.heap.size ≤ g ∧ Keep w w' := by
  have H := Lib.hid h
  have HS := Lib.hid hs
  generalize hn : rows.length = n at hl
  have HN := Lib.hid hn
  obtain ⟨W', hmk, hrow, hk⟩ := made_vals n w.heap.size w hl (Nat.le_refl _)
  have HO := Lib.hid hrow
  have HK := Lib.hid hk
  clear h hs hrow hk hn
  generalize hg : w.heap.size = g at HO hmk
  have HG := Lib.hid hg
  clear hg
  go_enter Tryz.func62, Tryz.ntmps62
  go_wp2
  clear hmk
  go_loopw [13] (fun i wr => ∃ k : Nat, k ≤ n ∧ i = .int .i64 k ∧ Hid (Row wr g 61 ((colV ((rows.take k).map (·.vs)) p ++ List.replicate (n - k) zeroVal).flatMap Val.cells)) ∧ Hid (Keep w wr)) (fun i _ => n - (intOf i).toNat)
  case atStart => exact ⟨0, Nat.zero_le _, rfl, HO.out, HK.out⟩
  case round =>
    clear HO HK
    obtain ⟨k, hk, rfl, HO, HK⟩ := hrel
    by_cases hlt : k < n
    · have hlt2 : k < rows.length := by rw [HN.out]; exact hlt
      obtain ⟨b, off, hA, hb, h0⟩ := sl_rw (H.out.keep HK.out) k hlt2
      have HSR := Lib.hid ((HS.out rows[k] (List.getElem_mem hlt2)).keep HK.out)
      have HTK := Lib.hid (show colV ((rows.take (k + 1)).map (·.vs)) p = colV ((rows.take k).map (·.vs)) p ++ [rows[k].vs.getD p zeroVal] by rw [List.take_succ_eq_append_getElem hlt2, List.map_append]; simp [colV])
      have hcl : (colV ((rows.take k).map (·.vs)) p).length = k := by simp [colV]; omega
      subst hA
      generalize rows[k] = r at h0 HSR HTK
      obtain ⟨rA, rc, vs⟩ := r
      simp only at h0 HSR HTK
      generalize colV ((rows.take k).map (·.vs)) p = L at HO HTK hcl
      have HCL := Lib.hid hcl
      have hlen : (L ++ List.replicate (n - k) zeroVal).length = n := by simp; omega
      have hbl := HO.out.lt
      have hso := HO.out.soft
      by_cases hp : p < vs.length
      · obtain ⟨b2, off2, hA2, hb2, c0, c1, c2⟩ := sl_val HSR.out p hp
        have HVP := Lib.hid (show vs.getD p zeroVal = vs[p] by simp [hp])
        have hset : (L ++ List.replicate (n - k) zeroVal).set k vs[p] = (L ++ [vs[p]]) ++ List.replicate (n - (k + 1)) zeroVal := by
          rw [List.set_append_right _ _ (by omega), hcl, Nat.sub_self, show n - k = (n - (k + 1)) + 1 by omega, List.replicate_succ, List.set_cons_zero, List.append_assoc]; rfl
        subst hA2
        have HO2 := row_set3 HO.out k (by omega) vs[p]
        rw [hset] at HO2
        generalize vs[p] = x at c0 c1 c2 HVP HO2
        obtain ⟨xk, xn, xs⟩ := x
        simp only at c0 c1 c2 HO2
        have HO3 := Lib.hid HO2
        have q0 := hso (k * 3)
        have q1 := hso (k * 3 + 1)
        have q2 := hso (k * 3 + 2)
        obtain ⟨y0, d0⟩ : ∃ y, wr.cell? ⟨g, k * 3, none⟩ = some y := ⟨_, HO.out.cell (k * 3) _ (List.getElem?_eq_getElem (by rw [flat_len val_len]; omega))⟩
        obtain ⟨y1, d1⟩ : ∃ y, wr.cell? ⟨g, k * 3 + 1, none⟩ = some y := ⟨_, HO.out.cell (k * 3 + 1) _ (List.getElem?_eq_getElem (by rw [flat_len val_len]; omega))⟩
        obtain ⟨y2, d2⟩ : ∃ y, wr.cell? ⟨g, k * 3 + 2, none⟩ = some y := ⟨_, HO.out.cell (k * 3 + 2) _ (List.getElem?_eq_getElem (by rw [flat_len val_len]; omega))⟩
        have hp2 : (p : Int) < (vs.length : Int) := by omega
        clear HO2 hset hlen hso hcl
        go_wp2
        go_roundw
        case rel =>
          have hgg : w.heap.size ≤ g := Nat.le_of_eq HG.out
          exact ⟨k + 1, by omega, by go_num, (by show Row _ _ _ _; rw [HTK.out, HVP.out]; exact HO3.out), ((HK.out.setCell hgg _).setCell hgg _).setCell hgg _⟩
        case measure => simp [intOf]; omega
      · have hp2 : ¬ (p : Int) < (vs.length : Int) := by omega
        have hd : decide ((p : Int) < (vs.length : Int)) = false := decide_eq_false hp2
        have HVP := Lib.hid (show vs.getD p zeroVal = zeroVal by simp [Nat.le_of_not_lt hp])
        have HSE := Lib.hid (show L ++ List.replicate (n - k) zeroVal = (L ++ [zeroVal]) ++ List.replicate (n - (k + 1)) zeroVal by
          rw [show n - k = (n - (k + 1)) + 1 by omega, List.replicate_succ, List.append_assoc]; rfl)
        clear hlen hso hcl hbl
        go_wp2
        go_roundw
        case rel =>
          exact ⟨k + 1, by omega, by go_num, (by show Row _ _ _ _; rw [HTK.out, HVP.out, ← HSE.out]; exact HO.out), HK.out⟩
        case measure => simp [intOf]; omega
    · have hkl : k = n := by omega
      subst hkl
      rw [Nat.sub_self, List.replicate_zero, List.append_nil, ← HN.out, List.take_length] at HO
      go_wp2
      exact bodyPost_ret (v := .slice (some ⟨g, 0, none⟩) k k) (by simp [results, Tryz.results62, go_sem]) rfl ⟨g, rfl, HO.out, Nat.le_refl _, HK.out⟩
set_option maxHeartbeats 1000000 in
theorem tsort_plain (A B : Option Addr) (n m : Nat) (cs : List Col) (c : Cfg) (rows : List Rw) (w : World) (h : Sl w 2 Col.cells A n cs) (hz : ∀ x ∈ cs, x.name.size ≤ 140737488355328) (hc : CfgAt w c) (hf : Fits cs c) (hs : c.sort = -1)
    (hr : Sl w 1 Rw.cells B m rows) (hra : RowsAt w rows) (hl : rows.length ≤ 1000000000) (hrl : ∀ r ∈ rows, r.vs.length ≤ 1000000000) (he : tErr cs (rows.map (·.vs)) = 0) :
    Calls Tryz.prog 33 #[.slice A cs.length n, c.v, .slice B rows.length m] w fun e w' => ∃ g, e = .returned (.tuple #[.slice (some ⟨g, 0, none⟩) rows.length rows.length, .int .i64 0]) ∧ ∃ L, OwnR w' w.heap.size (.slice (some ⟨g, 0, none⟩) rows.length rows.length) L ∧ (∀ r ∈ L, NewRow w' w.heap.size r) ∧ L.map (·.vs) = rows.map (·.vs) ∧ Keep w w' := by
  have HF := Lib.hid (fun W (hW : Keep w W) => fits_any A n cs c W (h.keep hW) hz (hc.keep hW))
  have HM := Lib.hid (fun W (hW : Keep w W) => tmay_any A B n m cs rows W (h.keep hW) hz (hr.keep hW) (hra.keep hW))
  have HC := Lib.hid (fun W (hW : Keep w W) => tcopy_any B m rows W (hr.keep hW) (hra.keep hW) hl hrl)
  have hq := pB_yes hf
  rw [he] at HM
  obtain ⟨s0, iA, ic, iv, rA, rc, rv, sA, sc, sp, lf⟩ := c
  simp only at hs
  subst hs
  simp only [Cfg.v]
  clear h hc hf hr hra hrl he
  go_enter Tryz.func33, Tryz.ntmps33
  go_upto_region 1 with fail
  have hB : BoxA w (w.alloc (.cells #[.int .i64 (-1), .slice iA iv.length ic, .slice rA rv.length rc, .slice sA sp.length sc, .int .i64 lf] 26)) [.int .i64 (-1), .slice iA iv.length ic, .slice rA rv.length rc, .slice sA sp.length sc, .int .i64 lf] := BoxA.start (t := 26) (Keep.refl _)
  generalize hwb : World.alloc w _ = wb at hB ⊢
  have hbs := hB.lt
  have x0 := hB.at_ 0 _ rfl
  have x1 := hB.at_ 1 _ rfl
  have x2 := hB.at_ 2 _ rfl
  have x3 := hB.at_ 3 _ rfl
  have x4 := hB.at_ 4 _ rfl
  have HKB := Lib.hid hB.keep
  have HX0 := Lib.hid x0
  clear hwb hB
  generalize w.heap.size = g0 at hbs x0 x1 x2 x3 x4 HX0
  go_wp2_with (go_at_call 53; refine Zone.hold ?_)
  refine Zone.unhold ?_
  refine (HF.out _ HKB.out).mono ?_
  rintro e w0 ⟨rfl, hk0⟩
  have HK0 := Lib.hid hk0
  clear x0 x1 x2 x3 x4 HF hk0
  go_wp2_with (go_at_call 54; refine Zone.hold ?_)
  refine Zone.unhold ?_
  refine (HM.out _ (HKB.out.trans HK0.out)).mono ?_
  rintro e w1 ⟨rfl, hk1⟩
  have HK1 := Lib.hid (HK0.out.trans hk1)
  clear hk1
  go_wp2_with (go_at_call 55; refine Zone.hold ?_)
  refine Zone.unhold ?_
  refine (HC.out _ (HKB.out.trans HK1.out)).mono ?_
  rintro e w2 ⟨g, rfl, L, hown, hnew, hvs, hk2⟩
  have HK2 := Lib.hid (HK1.out.trans hk2)
  have HZ := Lib.hid (HKB.out.trans HK1.out).size
  have HOW := Lib.hid hown
  have HNW := Lib.hid hnew
  have HVS := Lib.hid hvs
  have y0 := box_cell HK2.out hbs HX0.out
  have hgw : g0 < w2.heap.size := block_lt_of_cell y0
  clear hk2 hown hnew hvs
  go_wp2
  exact bodyPost_ret (v := .tuple #[.slice (some ⟨g, 0, none⟩) rows.length rows.length, .int .i64 0]) (by simp [results, Tryz.results33, go_sem]) rfl ⟨g, rfl, L, HOW.out.base_mono HZ.out, fun r hr => by
    obtain ⟨b, h1, h2, h3, h4⟩ := HNW.out r hr
    exact ⟨b, h1, Nat.le_trans HZ.out h2, h3, h4⟩, HVS.out, HKB.out.trans HK2.out⟩
end Go.Proofs.YtmcaednlilhnoaaGreatDoor
