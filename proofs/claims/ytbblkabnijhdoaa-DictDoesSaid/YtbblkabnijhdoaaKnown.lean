
/- The contract of the small sample that each law ends with: it is true. -/
import Derived.WalkKit
import Derived.Lib.Hide
import Derived.WalkSpells
import Derived.WalkLawsBesides
import Derived.BigQuiet
import Derived.Shelf.Abstract
import Derived.Test.YtbblkabnijhdoaaDictI
import Derived.Test.YtbblkabnijhdoaaLawI
namespace Go.Proofs.Ytbblkabnijhdoaa
open Go.RowKit Go.Zone Go.Shelf
attribute [local go_sem] Zone.zone Zone.stepZ Zone.fill Zone.lookFs Zone.goes Zone.goesUpon Zone.dropFs Zone.cell_gro Zone.frozen_gro Zone.size_gro Zone.lt_add Zone.drew_gro Zone.tape_gro Zone.keep_refl
def tA : Val := ⟨2, 0, ⟨#[97]⟩⟩
def tB : Val := ⟨2, 0, ⟨#[98]⟩⟩
def tC : Val := ⟨2, 0, ⟨#[99]⟩⟩
theorem ab_lt : LtV tA tB := (cmpV_lt _ _).1 (by simp only [cmpV, orL, cmpI, cmpS, tA, tB, Lib.toList_data]; decide)
theorem ab_sorted : [tA, tB].Pairwise LtV := by
  rw [List.pairwise_cons]
  exact ⟨fun x hx => by rw [List.mem_singleton] at hx; subst hx; exact ab_lt, List.pairwise_singleton _ _⟩
theorem own_bab : dOwn [tB, tA, tB] = [tA, tB] :=
  sorted_unique _ _ (dOwn_sorted _).1 ab_sorted fun x => by rw [(dOwn_sorted _).2 x]; simp; exact .inr
theorem may_text (x : Val) (hk : x.k = 2) (hn : x.n = 0) (hs : x.s.size = 1) : mayV x = true := by
  simp [mayV, hk, hn, hs]
theorem err_bab : dErr 2 [tB, tA, tB] = 0 := by
  have h1 := may_text tA rfl rfl rfl
  have h2 := may_text tB rfl rfl rfl
  have h3 : [tA, tB].any (fun x => x.k != 2) = false := rfl
  simp [dErr, badKind, own_bab, noMay, h1, h2, h3]
theorem find_ab : findV 2 [tA, tB] tB = (1, true) := by
  simp only [findV, hits, lower, cmpV, orL, cmpI, cmpS, tA, tB, Lib.toList_data]; decide
theorem ival_ab : dIval 2 [tA, tB] 6 tC = (2, 2, 0) := by
  simp only [dIval, badCmp, mayV, hits, lower, cmpV, orL, cmpI, cmpS, tA, tB, tC, Lib.toList_data]; decide
theorem sl_bab {w : World} {g : Nat} (a0 : w.cell? ⟨g, 0, none⟩ = some (.int .u8 2)) (a1 : w.cell? ⟨g, 1, none⟩ = some (.int .i64 0)) (a2 : w.cell? ⟨g, 2, none⟩ = some (.string ⟨#[98]⟩))
    (b0 : w.cell? ⟨g, 3, none⟩ = some (.int .u8 2)) (b1 : w.cell? ⟨g, 4, none⟩ = some (.int .i64 0)) (b2 : w.cell? ⟨g, 5, none⟩ = some (.string ⟨#[97]⟩))
    (c0 : w.cell? ⟨g, 6, none⟩ = some (.int .u8 2)) (c1 : w.cell? ⟨g, 7, none⟩ = some (.int .i64 0)) (c2 : w.cell? ⟨g, 8, none⟩ = some (.string ⟨#[98]⟩)) : Sl w 3 Val.cells (some ⟨g, 0, none⟩) 3 [tB, tA, tB] :=
  ⟨by simp, by simp, by simp, fun i hi => ⟨g, 0, rfl, fun j u hu => by
    match i, hi with
    | 0, _ => match j, hu with
      | 0, hu => cases hu; exact a0
      | 1, hu => cases hu; exact a1
      | 2, hu => cases hu; exact a2
    | 1, _ => match j, hu with
      | 0, hu => cases hu; exact b0
      | 1, hu => cases hu; exact b1
      | 2, hu => cases hu; exact b2
    | 2, _ => match j, hu with
      | 0, hu => cases hu; exact c0
      | 1, hu => cases hu; exact c1
      | 2, hu => cases hu; exact c2⟩⟩

set_option maxRecDepth 100000 in
set_option maxHeartbeats 1000000 in
theorem known_any (w : World) : Calls Try.prog 10 #[] w fun e w' => e = .returned (.bool true) ∧ Keep w w' := by
  go_enter Try.func10, Try.ntmps10
  go_wp2_with (go_at_call 11; refine Zone.hold ?_)
  refine Zone.unhold ?_
  refine (of_any 2 (some ⟨w.heap.size, 0, none⟩) 3 [tB, tA, tB] _ (sl_bab (by simp [go_sem]) (by simp [go_sem]) (by simp [go_sem]) (by simp [go_sem]) (by simp [go_sem]) (by simp [go_sem]) (by simp [go_sem]) (by simp [go_sem]) (by simp [go_sem])) (by simp)).mono ?_
  rw [err_bab, own_bab]
  rintro e w1 ⟨v, rfl, hres, hk1⟩
  rcases hres with ⟨h, _⟩ | ⟨_, b, A, c, rfl, hD⟩
  · exact absurd rfl h
  have hk := (Keep.alloc (Keep.refl w) _).trans hk1
  have HK := Lib.hid hk
  have hd := fun W (hW : Keep w1 W) => hD.keep hW
  have HD := Lib.hid hd
  have hlen := fun W (hW : Keep w1 W) => len_at W (hD.keep hW)
  rw [if_neg (by decide : ¬ (2 : Int) = 0)] at hlen
  have HL := Lib.hid hlen
  have hfind := fun W (hW : Keep w1 W) => find_at tB W (hD.keep hW) ab_sorted
  rw [find_ab] at hfind
  have HF := Lib.hid hfind
  have hival := fun W (hW : Keep w1 W) => interval_at 6 tC W (hD.keep hW) ab_sorted
  rw [ival_ab] at hival
  have HI := Lib.hid hival
  have hb := hD.lt
  clear hk hk1 hd hD hlen hfind hival
  go_wp2_with (first | (go_at_call 16; refine (HL.out _ (Keep.refl _)).mono ?_; rintro e w' ⟨rfl, rfl⟩) | (go_at_call 15; refine (HF.out _ (by repeat (first | exact Keep.refl _ | apply Keep.alloc | apply Keep.gro | apply Keep.drew | apply Keep.drewN))).mono ?_; rintro e w' ⟨rfl, hk⟩; (first | obtain ⟨p, rfl⟩ := Zone.gro_of_gro _ _ hk | obtain ⟨p, rfl⟩ := Zone.gro_of_below _ hk); clear hk) | (go_at_call 13; refine (HI.out _ (by repeat (first | exact Keep.refl _ | apply Keep.alloc | apply Keep.gro | apply Keep.drew | apply Keep.drewN))).mono ?_; rintro e w' ⟨rfl, hk⟩; (first | obtain ⟨p, rfl⟩ := Zone.gro_of_gro _ _ hk | obtain ⟨p, rfl⟩ := Zone.gro_of_below _ hk); clear hk))
  go_ret
  exact ⟨rfl, by repeat (first | exact HK.out | apply Keep.gro)⟩
end Go.Proofs.Ytbblkabnijhdoaa
