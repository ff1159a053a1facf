
/- The table: rows in memory; kind, May. -/
import Derived.WalkKit
import Derived.Lib.Hide
import Derived.WalkSpells
import Derived.WalkLawsBesides
import Derived.BigQuiet
import Derived.Shelf.Abstract
import Derived.Deep.Cut
import Derived.Deep.CutRange
import Derived.Test.YtmcaednlilhnoaaGreatDoorJd
import Derived.Test.YtmcaednlilhnoaaGreatDoorJg
import Derived.Test.YtmcaednlilhnoaaGreatDoorJh
namespace Go.Proofs.YtmcaednlilhnoaaGreatDoor
open Go.RowKit Go.Zone Go.Shelf
attribute [local go_sem] Zone.zone Zone.stepZ Zone.fill Zone.lookFs Zone.goes Zone.goesUpon Zone.dropFs Zone.cell_gro Zone.frozen_gro Zone.size_gro Zone.lt_add Zone.drew_gro Zone.tape_gro Zone.keep_refl
attribute [local go_sem] Zone.lt_add2 Zone.lt_add3 Zone.lt_add4 Zone.lt_add5 Zone.lt_add6 Zone.lt_add7 Zone.lt_add8 Zone.lt_add9 Zone.lt_add10 Zone.lt_add11 Zone.lt_add12
/-- A row in memory. -/
structure Rw where
  A : Option Addr
  c : Nat
  vs : List Val
def Rw.cells (r : Rw) : List Value := [.slice r.A r.vs.length r.c]
theorem rw_f (r : Rw) : r.cells = [.slice r.A r.vs.length r.c] := rfl
def RowsAt (w : World) (l : List Rw) : Prop := ∀ r ∈ l, Sl w 3 Val.cells r.A r.c r.vs
theorem RowsAt.keep {w w' : World} {l : List Rw} (h : RowsAt w l) (hk : Keep w w') : RowsAt w' l := fun r hr => (h r hr).keep hk
theorem sl_rw {w : World} {c : Nat} {A : Option Addr} {xs : List Rw} (h : Sl w 1 Rw.cells A c xs) (i : Nat) (hi : i < xs.length) : ∃ b off, A = some ⟨b, off, none⟩ ∧ b < w.heap.size ∧ w.cell? ⟨b, off + i, none⟩ = some (.slice xs[i].A xs[i].vs.length xs[i].c) := by
  obtain ⟨b, off, hA, hc⟩ := h.at_ i hi
  have h0 := hc 0 _ rfl
  rw [Nat.mul_one, Nat.add_zero] at h0
  exact ⟨b, off, hA, World.block_lt_of_cell? w _ h0, h0⟩
theorem getD_lt {α : Type} (l : List α) (i : Nat) (d : α) (h : i < l.length) : l.getD i d = l[i] := by simp [h]
def kindT (c : Col) : Int := if c.kind = 2 then 2 else 1
def badRow (cs : List Col) (r : List Val) : Bool := (r.length != cs.length) || r.any noMay
def oddTo (cs : List Col) (r : List Val) (k : Nat) : Bool := (List.range k).any fun i => (r.getD i default).k != kindT (cs.getD i default)
def oddRow (cs : List Col) (r : List Val) : Bool := oddTo cs r r.length
noncomputable def tErr (cs : List Col) (rows : List (List Val)) : Int := if pB (MayP cs) = false then 2 else if rows.any (badRow cs) then 2 else if 16777216 < rows.length then 3 else if rows.any (oddRow cs) then 9 else 0
theorem tkind_any (c : Col) (w : World) : Calls Tryz.prog 108 #[c.v] w fun e w' => e = .returned (.int .u8 (kindT c)) ∧ Keep w w' := by
  obtain ⟨k, n⟩ := c
  simp only [Col.v, kindT]
  go_enter Tryz.func108, Tryz.ntmps108
  go_wp2
  all_goals go_ret
  all_goals exact ⟨by simp_all, (by repeat (first | exact Keep.refl _ | apply Keep.alloc | apply Keep.gro | apply Keep.drew | apply Keep.drewN))⟩
theorem oddTo_succ (cs : List Col) (r : List Val) (k : Nat) : oddTo cs r (k + 1) = (oddTo cs r k || ((r.getD k default).k != kindT (cs.getD k default))) := by
  simp [oddTo, List.range_succ]
theorem any_take_succ {α : Type} (p : α → Bool) (l : List α) (k : Nat) (h : k < l.length) : (l.take (k + 1)).any p = ((l.take k).any p || p l[k]) := by
  rw [List.take_succ_eq_append_getElem h, List.any_append, List.any_cons, List.any_nil, Bool.or_false]
set_option maxRecDepth 100000 in
set_option maxHeartbeats 4000000 in
theorem tmay_any (A B : Option Addr) (n m : Nat) (cs : List Col) (rows : List Rw) (w : World) (h : Sl w 2 Col.cells A n cs) (hz : ∀ x ∈ cs, x.name.size ≤ 140737488355328) (hr : Sl w 1 Rw.cells B m rows) (hs : RowsAt w rows) :
    Calls Tryz.prog 54 #[.slice A cs.length n, .slice B rows.length m] w fun e w' => e = .returned (.int .i64 (tErr cs (rows.map (·.vs)))) ∧ Keep w w' := by
  have HM := Lib.hid (smay_any A n cs w h hz)
  have hl := sl_len h
  have hl2 := sl_len hr
  cases hq : pB (MayP cs)
  · have HE := Lib.hid (show tErr cs (rows.map (·.vs)) = 2 by unfold tErr; rw [if_pos hq])
    rw [hq] at HM
    clear h hr hs hq
    go_enter Tryz.func54, Tryz.ntmps54
    go_wp2_with (go_at_call 104; refine (HM.out).mono ?_; rintro e w' ⟨rfl, hk⟩; (first | obtain ⟨p, rfl⟩ := Zone.gro_of_gro _ _ hk | obtain ⟨p, rfl⟩ := Zone.gro_of_below _ hk); clear hk)
    go_ret
    exact ⟨ret_int HE.out.symm, (by repeat (first | exact Keep.refl _ | apply Keep.alloc | apply Keep.gro | apply Keep.drew | apply Keep.drewN))⟩
  · have HE := Lib.hid (show tErr cs (rows.map (·.vs)) = if rows.any (fun r => badRow cs r.vs) then 2 else if 16777216 < rows.length then 3 else if rows.any (fun r => oddRow cs r.vs) then 9 else 0 by
      unfold tErr
      rw [if_neg (by rw [hq]; decide), List.any_map, List.any_map, List.length_map]
      rfl)
    rw [hq] at HM
    have HC := Lib.hid h
    have HR := Lib.hid hr
    have HS := Lib.hid hs
    clear h hr hs hq
    go_enter Tryz.func54, Tryz.ntmps54
    go_wp2_with (go_at_call 104; refine (HM.out).mono ?_; rintro e w' ⟨rfl, hk⟩; (first | obtain ⟨p, rfl⟩ := Zone.gro_of_gro _ _ hk | obtain ⟨p, rfl⟩ := Zone.gro_of_below _ hk); clear hk)
    go_loopw [5, 15] (fun o i wr => ∃ (k : Nat) (ob : Bool), k ≤ rows.length ∧ i = .int .i64 k ∧ o = .bool ob ∧ Hid (ob = (rows.take k).any (fun r => oddRow cs r.vs)) ∧ Hid ((rows.take k).any (fun r => badRow cs r.vs) = false) ∧ Hid (Keep w wr)) (fun _ i _ => rows.length - (intOf i).toNat)
    case atStart => exact ⟨0, false, Nat.zero_le _, rfl, rfl, (by show _ = _; simp), (by show _ = _; simp), (by repeat (first | exact Keep.refl _ | apply Keep.alloc | apply Keep.gro | apply Keep.drew | apply Keep.drewN))⟩
    case round =>
      obtain ⟨k, ob, hk, rfl, rfl, HOB, HBD, HK⟩ := hrel
      by_cases hlt : k < rows.length
      · obtain ⟨b, off, hA, hb, h0⟩ := sl_rw (HR.out.keep HK.out) k hlt
        have HSR := Lib.hid (HS.out rows[k] (List.getElem_mem hlt))
        have HT := Lib.hid (any_take_succ (fun r : Rw => oddRow cs r.vs) rows k hlt)
        have HT2 := Lib.hid (any_take_succ (fun r : Rw => badRow cs r.vs) rows k hlt)
        have HBR := Lib.hid (show badRow cs rows[k].vs = true → rows.any (fun r => badRow cs r.vs) = true from fun h => List.any_eq_true.2 ⟨rows[k], List.getElem_mem hlt, h⟩)
        subst hA
        generalize rows[k] = r at h0 HSR HT HT2 HBR
        obtain ⟨rA, rc, vs⟩ := r
        simp only at h0 HSR HT HT2 HBR
        by_cases hln : vs.length = cs.length
        · have hd : ((vs.length : Int) != (cs.length : Int)) = false := by simp [hln]
          have HLN := Lib.hid hln
          clear hln
          go_wp2
          go_loopw [5, 26] (fun o i wr => ∃ (j : Nat) (o2 : Bool), j ≤ vs.length ∧ i = .int .i64 j ∧ o = .bool o2 ∧ Hid (o2 = (ob || oddTo cs vs j)) ∧ Hid ((vs.take j).any noMay = false) ∧ Hid (Keep w wr)) (fun _ i _ => vs.length - (intOf i).toNat)
          case atStart => exact ⟨0, ob, Nat.zero_le _, rfl, rfl, (by show _ = _; simp [oddTo]), (by show _ = _; simp), HK.out⟩
          case round =>
            rename Bool => ob1
            obtain ⟨j, o2, hj, rfl, rfl, HO2, HN2, HK2⟩ := hrel
            by_cases hjt : j < vs.length
            · obtain ⟨b2, off2, hA2, hb2, c0, c1, c2⟩ := sl_val (HSR.out.keep HK2.out) j hjt
              obtain ⟨b3, off3, hA3, hb3, d0, d1⟩ := sl_col (HC.out.keep HK2.out) j (by rw [← HLN.out]; exact hjt)
              have hjt2 : j < cs.length := by rw [← HLN.out]; exact hjt
              have HT3 := Lib.hid (any_take_succ noMay vs j hjt)
              have HT4 := Lib.hid (show noMay vs[j] = true → vs.any noMay = true from fun h => List.any_eq_true.2 ⟨vs[j], List.getElem_mem hjt, h⟩)
              have HT5 := Lib.hid (show oddTo cs vs (j + 1) = (oddTo cs vs j || (vs[j].k != kindT cs[j])) by
                rw [oddTo_succ, getD_lt _ _ _ hjt, getD_lt _ _ _ hjt2])
              subst hA2; subst hA3
              generalize vs[j] = x at c0 c1 c2 HT3 HT4 HT5
              generalize cs[j] = cl at d0 d1 HT5
              obtain ⟨xk, xn, xs⟩ := x
              obtain ⟨cn, ck⟩ := cl
              simp only at c0 c1 c2 d0 d1 HT5
              have HMV := Lib.hid (may_any ⟨xk, xn, xs⟩)
              have HTK := Lib.hid (tkind_any ⟨cn, ck⟩)
              cases hmv : mayV ⟨xk, xn, xs⟩
              · rw [hmv] at HMV
                have HMV2 := Lib.hid hmv
                clear hmv
                go_wp2_with (go_at_call 107; refine (HMV.out _).mono ?_; rintro e w' ⟨rfl, hk⟩; (first | obtain ⟨p, rfl⟩ := Zone.gro_of_gro _ _ hk | obtain ⟨p, rfl⟩ := Zone.gro_of_below _ hk); clear hk)
                go_ret
                exact ⟨ret_int (by rw [HE.out, if_pos (HBR.out (by simp [badRow, HT4.out (by simp [noMay, HMV2.out])]))]), HK2.out.trans (by repeat (first | exact Keep.refl _ | apply Keep.alloc | apply Keep.gro | apply Keep.drew | apply Keep.drewN))⟩
              · rw [hmv] at HMV
                have HMV2 := Lib.hid hmv
                clear hmv
                generalize kindT ⟨cn, ck⟩ = kt at HTK HT5
                cases o2
                · go_upto_region 14 with (go_at_call 107; refine (HMV.out _).mono ?_; rintro e w' ⟨rfl, hk⟩; (first | obtain ⟨p, rfl⟩ := Zone.gro_of_gro _ _ hk | obtain ⟨p, rfl⟩ := Zone.gro_of_below _ hk); clear hk)
                  go_region_with (go_at_call 108; refine (HTK.out _).mono ?_; rintro e w' ⟨rfl, hk⟩; (first | obtain ⟨p, rfl⟩ := Zone.gro_of_gro _ _ hk | obtain ⟨p, rfl⟩ := Zone.gro_of_below _ hk); clear hk)
                  all_goals
                    go_wp2
                    go_roundw
                    case rel => exact ⟨j + 1, _, by omega, by go_num, rfl, (by show _ = _; rw [HT5.out, ← Bool.or_assoc, ← HO2.out]; simp), (by show _ = _; rw [HT3.out, HN2.out]; simp [noMay, HMV2.out]), HK2.out.trans (by repeat (first | exact Keep.refl _ | apply Keep.alloc | apply Keep.gro | apply Keep.drew | apply Keep.drewN))⟩
                    case measure => simp [intOf]; omega
                · go_upto_region 14 with (go_at_call 107; refine (HMV.out _).mono ?_; rintro e w' ⟨rfl, hk⟩; (first | obtain ⟨p, rfl⟩ := Zone.gro_of_gro _ _ hk | obtain ⟨p, rfl⟩ := Zone.gro_of_below _ hk); clear hk)
                  go_region
                  all_goals
                    go_wp2
                    go_roundw
                    case rel => exact ⟨j + 1, _, by omega, by go_num, rfl, (by show _ = _; rw [HT5.out, ← Bool.or_assoc, ← HO2.out]; simp), (by show _ = _; rw [HT3.out, HN2.out]; simp [noMay, HMV2.out]), HK2.out.trans (by repeat (first | exact Keep.refl _ | apply Keep.alloc | apply Keep.gro | apply Keep.drew | apply Keep.drewN))⟩
                    case measure => simp [intOf]; omega
            · have hjl : j = vs.length := by omega
              subst hjl
              rw [List.take_length] at HN2
              go_wp2
              go_roundw
              case rel => exact ⟨k + 1, o2, by omega, by go_num, rfl, (by show _ = _; rw [HT.out, HO2.out, HOB.out]; rfl), (by show _ = _; rw [HT2.out, HBD.out]; simp [badRow, HN2.out, HLN.out]), HK2.out⟩
              case measure => simp [intOf]; omega
        · have hd : ((vs.length : Int) != (cs.length : Int)) = true := by simp; omega
          go_wp2
          go_ret
          exact ⟨ret_int (by rw [HE.out, if_pos (HBR.out (by simp [badRow, hln]))]), HK.out⟩
      · have hkl : k = rows.length := by omega
        subst hkl
        rw [List.take_length] at HOB HBD
        by_cases hl16 : 16777216 < rows.length
        · have hd : decide ((16777216 : Int) < (rows.length : Int)) = true := by simp; omega
          have hl16' : (16777216 : Int) < (rows.length : Int) := by omega
          go_wp2
          go_ret
          exact ⟨ret_int (by rw [HE.out, HBD.out, if_neg (by decide), if_pos hl16]), HK.out⟩
        · have hd : decide ((16777216 : Int) < (rows.length : Int)) = false := by simp; omega
          cases ob
          · go_wp2
            go_ret
            exact ⟨ret_int (by rw [HE.out, HBD.out, if_neg (by decide), if_neg hl16, ← HOB.out, if_neg (by decide)]), HK.out⟩
          · go_wp2
            go_ret
            exact ⟨ret_int (by rw [HE.out, HBD.out, if_neg (by decide), if_neg hl16, ← HOB.out, if_pos rfl]), HK.out⟩
end Go.Proofs.YtmcaednlilhnoaaGreatDoor
