
/- The law's sample answers true. -/
import Derived.WalkKit
import Derived.Lib.Hide
import Derived.WalkSpells
import Derived.WalkLawsBesides
import Derived.BigQuiet
import Derived.Shelf.Abstract
import Derived.Test.YtcffcblfmlclnaaGreatDoorBp
import Derived.Test.YtcffcblfmlclnaaGreatDoorBg2
namespace Go.Proofs.YtcffcblfmlclnaaGreatDoor
open Go.RowKit Go.Zone Go.Shelf
attribute [local go_sem] Zone.zone Zone.stepZ Zone.fill Zone.lookFs Zone.goes Zone.goesUpon Zone.dropFs Zone.cell_gro Zone.frozen_gro Zone.size_gro Zone.lt_add Zone.drew_gro Zone.tape_gro Zone.keep_refl
attribute [local go_sem] Zone.lt_add2 Zone.lt_add3 Zone.lt_add4 Zone.lt_add5 Zone.lt_add6 Zone.lt_add7 Zone.lt_add8 Zone.lt_add9 Zone.lt_add10 Zone.lt_add11 Zone.lt_add12
theorem name_a : NameP ⟨#[97]⟩ := ⟨by decide, by decide, by decide⟩
theorem fits_zero : Fits [⟨⟨#[97]⟩, 1⟩] cfg0 where
  may := ⟨fun i h => by
    match i, h with
    | 0, _ => exact name_a, fun i h => by
    match i, h with
    | 0, _ => exact (by decide : (1 : Int) ≤ 1 ∧ (1 : Int) ≤ 3), fun i k h hk => by simp at h; omega, by simp, by simp⟩
  sort := .inl rfl
  inv := ⟨.inl rfl, fun i h => by simp [cfg0] at h⟩
  rng := ⟨.inl rfl, fun i h => by simp [cfg0] at h⟩
  split := fun i h => absurd h (Nat.not_lt_zero _)
  one := fun i k h => absurd h (Nat.not_lt_zero _)
  few := by decide
  lo := by decide
  hi := by decide
set_option maxRecDepth 100000 in
set_option maxHeartbeats 4000000 in
theorem known22_any (w : World) : Calls Tryz.prog 5 #[] w fun e w' => e = .returned (.bool true) ∧ Keep w w' := by
  go_enter Tryz.func5, Tryz.ntmps5
  go_wp2_with (go_at_call 8; refine Zone.hold ?_)
  refine Zone.unhold ?_
  have hsl : Sl (w.alloc (.cells #[.string ⟨#[97]⟩, .int .u8 1] 32)) 2 Col.cells (some ⟨w.heap.size, 0, none⟩) 1 [⟨⟨#[97]⟩, 1⟩] := sl_one _ (by omega) (by omega) (fun j u hu => by
    match j, hu with
    | 0, hu => cases hu; simp [go_sem]
    | 1, hu => cases hu; simp [go_sem])
  refine (build_zero ⟨#[97]⟩ (some ⟨w.heap.size, 0, none⟩) none 1 0 _ hsl fits_zero).mono ?_
  rintro e w1 ⟨v, S, rfl, hnb, hsp, hov, hk⟩
  have hlen : (imageB S).length ≤ 140737488355328 := by
    have := secs_len S hsp.at_
    have h4 : S.length = 4 := by simpa [zeroNB] using congrArg List.length hnb
    rw [h4] at this
    simp only [imageB, List.length_append, le_len, List.length_cons, List.length_nil]
    omega
  obtain ⟨A1, c1, rfl, hs1⟩ := hov.sl b8_len hlen
  have HS1 := Lib.hid hs1
  have HNB := Lib.hid hnb
  have HSP := Lib.hid hsp
  have HK1 := Lib.hid (show Keep w w1 from Keep.trans (Keep.alloc (Keep.refl _) _) hk)
  clear hnb hsp hov hk hs1 hsl hlen
  go_wp2_with (go_at_call 9; refine Zone.hold ?_)
  refine Zone.unhold ?_
  refine (rread_any A1 c1 S (imageB S) _ rfl HS1.out HSP.out).mono ?_
  rintro e w2 ⟨A2, c2, L, rfl, hsl2, hsa2, hnb2, hk2⟩
  rw [HNB.out] at hnb2
  have hl : L.length = 4 := by simpa [zeroNB] using congrArg List.length hnb2
  match L, hl with
  | [a, b, c, d], _ =>
    obtain ⟨na, Aa, ca, ba⟩ := a
    obtain ⟨nb, Ab, cb, bb⟩ := b
    obtain ⟨nc, Ac, cc, bc⟩ := c
    obtain ⟨nd, Ad, cd, bd⟩ := d
    simp only [List.map_cons, List.map_nil, nbS, zeroNB, List.cons.injEq, Prod.mk.injEq, and_true] at hnb2
    obtain ⟨⟨rfl, rfl⟩, ⟨rfl, rfl⟩, ⟨rfl, rfl⟩, rfl, rfl⟩ := hnb2
    have hb := hsa2 ⟨⟨#[114, 111, 119, 115]⟩, Ab, cb, le 0 4⟩ (by simp)
    have hcv : (convert 33 9 (.slice Ab (le 0 4).length cb)).run Tryz.prog w2 = .ok (.string ⟨#[0, 0, 0, 0]⟩) w2 := strB hb
    obtain ⟨bL, off, hA, hbL, c0, c1'⟩ := sl_sec hsl2 0 (by simp)
    subst hA
    obtain ⟨b1, o1, hA1, _, c2', c3⟩ := sl_sec hsl2 1 (by simp)
    injection hA1 with hA1; injection hA1 with e1 e2; subst e1; subst e2
    obtain ⟨b1, o1, hA1, _, c4, c5⟩ := sl_sec hsl2 2 (by simp)
    injection hA1 with hA1; injection hA1 with e1 e2; subst e1; subst e2
    obtain ⟨b1, o1, hA1, _, c6, c7⟩ := sl_sec hsl2 3 (by simp)
    injection hA1 with hA1; injection hA1 with e1 e2; subst e1; subst e2
    simp only [List.getElem_cons_zero, List.getElem_cons_succ, Nat.zero_mul, Nat.add_zero, Nat.one_mul] at c0 c2' c3 c4 c6
    have HK2 := Lib.hid (HK1.out.trans hk2)
    clear hk2 hb hsa2 c1' c5 c7 hsl2
    go_wp2
    go_ret
    exact ⟨rfl, HK2.out⟩
end Go.Proofs.YtcffcblfmlclnaaGreatDoor
