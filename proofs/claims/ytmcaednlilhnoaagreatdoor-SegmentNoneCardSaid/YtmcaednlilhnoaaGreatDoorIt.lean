
/- Numerals of one digit; plain facts on a dictionary of one's own. -/
import Derived.WalkKit
import Derived.Lib.Hide
import Derived.WalkSpells
import Derived.WalkLawsBesides
import Derived.BigQuiet
import Derived.Shelf.Abstract
import Derived.Test.YtmcaednlilhnoaaGreatDoorJg
import Derived.Test.YtmcaednlilhnoaaGreatDoorFo
namespace Go.Proofs.YtmcaednlilhnoaaGreatDoor
open Go.RowKit Go.Zone Go.Shelf
attribute [local go_sem] Zone.zone Zone.stepZ Zone.fill Zone.lookFs Zone.goes Zone.goesUpon Zone.dropFs Zone.cell_gro Zone.frozen_gro Zone.size_gro Zone.lt_add Zone.drew_gro Zone.tape_gro Zone.keep_refl
attribute [local go_sem] Zone.lt_add2 Zone.lt_add3 Zone.lt_add4 Zone.lt_add5 Zone.lt_add6 Zone.lt_add7 Zone.lt_add8 Zone.lt_add9 Zone.lt_add10 Zone.lt_add11 Zone.lt_add12
theorem small_0 (w : World) : Calls Tryz.prog 217 #[.int .i64 0] w fun e w' => e = .returned (.string ⟨#[48]⟩) ∧ Keep w w' := by
  go_enter Tryz.func217, Tryz.ntmps217
  go_wp2
  go_ret
  exact ⟨rfl, (by repeat (first | exact Keep.refl _ | apply Keep.alloc | apply Keep.gro | apply Keep.drew | apply Keep.drewN))⟩
theorem small_1 (w : World) : Calls Tryz.prog 217 #[.int .i64 1] w fun e w' => e = .returned (.string ⟨#[49]⟩) ∧ Keep w w' := by
  go_enter Tryz.func217, Tryz.ntmps217
  go_wp2
  go_ret
  exact ⟨rfl, (by repeat (first | exact Keep.refl _ | apply Keep.alloc | apply Keep.gro | apply Keep.drew | apply Keep.drewN))⟩
theorem small_2 (w : World) : Calls Tryz.prog 217 #[.int .i64 2] w fun e w' => e = .returned (.string ⟨#[50]⟩) ∧ Keep w w' := by
  go_enter Tryz.func217, Tryz.ntmps217
  go_wp2
  go_ret
  exact ⟨rfl, (by repeat (first | exact Keep.refl _ | apply Keep.alloc | apply Keep.gro | apply Keep.drew | apply Keep.drewN))⟩
theorem small_3 (w : World) : Calls Tryz.prog 217 #[.int .i64 3] w fun e w' => e = .returned (.string ⟨#[51]⟩) ∧ Keep w w' := by
  go_enter Tryz.func217, Tryz.ntmps217
  go_wp2
  go_ret
  exact ⟨rfl, (by repeat (first | exact Keep.refl _ | apply Keep.alloc | apply Keep.gro | apply Keep.drew | apply Keep.drewN))⟩
theorem small_4 (w : World) : Calls Tryz.prog 217 #[.int .i64 4] w fun e w' => e = .returned (.string ⟨#[52]⟩) ∧ Keep w w' := by
  go_enter Tryz.func217, Tryz.ntmps217
  go_wp2
  go_ret
  exact ⟨rfl, (by repeat (first | exact Keep.refl _ | apply Keep.alloc | apply Keep.gro | apply Keep.drew | apply Keep.drewN))⟩
theorem small_5 (w : World) : Calls Tryz.prog 217 #[.int .i64 5] w fun e w' => e = .returned (.string ⟨#[53]⟩) ∧ Keep w w' := by
  go_enter Tryz.func217, Tryz.ntmps217
  go_wp2
  go_ret
  exact ⟨rfl, (by repeat (first | exact Keep.refl _ | apply Keep.alloc | apply Keep.gro | apply Keep.drew | apply Keep.drewN))⟩
theorem small_6 (w : World) : Calls Tryz.prog 217 #[.int .i64 6] w fun e w' => e = .returned (.string ⟨#[54]⟩) ∧ Keep w w' := by
  go_enter Tryz.func217, Tryz.ntmps217
  go_wp2
  go_ret
  exact ⟨rfl, (by repeat (first | exact Keep.refl _ | apply Keep.alloc | apply Keep.gro | apply Keep.drew | apply Keep.drewN))⟩
theorem small_7 (w : World) : Calls Tryz.prog 217 #[.int .i64 7] w fun e w' => e = .returned (.string ⟨#[55]⟩) ∧ Keep w w' := by
  go_enter Tryz.func217, Tryz.ntmps217
  go_wp2
  go_ret
  exact ⟨rfl, (by repeat (first | exact Keep.refl _ | apply Keep.alloc | apply Keep.gro | apply Keep.drew | apply Keep.drewN))⟩
theorem small_8 (w : World) : Calls Tryz.prog 217 #[.int .i64 8] w fun e w' => e = .returned (.string ⟨#[56]⟩) ∧ Keep w w' := by
  go_enter Tryz.func217, Tryz.ntmps217
  go_wp2
  go_ret
  exact ⟨rfl, (by repeat (first | exact Keep.refl _ | apply Keep.alloc | apply Keep.gro | apply Keep.drew | apply Keep.drewN))⟩
theorem small_9 (w : World) : Calls Tryz.prog 217 #[.int .i64 9] w fun e w' => e = .returned (.string ⟨#[57]⟩) ∧ Keep w w' := by
  go_enter Tryz.func217, Tryz.ntmps217
  go_wp2
  go_ret
  exact ⟨rfl, (by repeat (first | exact Keep.refl _ | apply Keep.alloc | apply Keep.gro | apply Keep.drew | apply Keep.drewN))⟩
def digS (p : Nat) : ByteArray := ⟨#[UInt8.ofNat (48 + p)]⟩
theorem small_dig : ∀ (p : Nat), p < 10 → ∀ w, Calls Tryz.prog 217 #[.int .i64 (p : Int)] w fun e w' => e = .returned (.string (digS p)) ∧ Keep w w'
  | 0, _, w => small_0 w
  | 1, _, w => small_1 w
  | 2, _, w => small_2 w
  | 3, _, w => small_3 w
  | 4, _, w => small_4 w
  | 5, _, w => small_5 w
  | 6, _, w => small_6 w
  | 7, _, w => small_7 w
  | 8, _, w => small_8 w
  | 9, _, w => small_9 w
  | p + 10, h, _ => absurd h (by omega)
theorem fmt_dig (p : Nat) (hp : p < 10) (w : World) : Calls Tryz.prog 176 #[.int .i64 p, .int .i64 10] w fun e w' => e = .returned (.string (digS p)) ∧ Keep w w' := by
  have H := Lib.hid (small_dig p hp)
  have h0 : (0 : Int) ≤ (p : Int) := by omega
  have h1 : (p : Int) < 100 := by omega
  generalize digS p = s at H
  go_enter Tryz.func176, Tryz.ntmps176
  go_wp2_with (go_at_call 217; refine (H.out _).mono ?_; rintro e w' ⟨rfl, hk⟩; (first | obtain ⟨p, rfl⟩ := Zone.gro_of_gro _ _ hk | obtain ⟨p, rfl⟩ := Zone.gro_of_below _ hk); clear hk)
  go_ret
  exact ⟨rfl, (by repeat (first | exact Keep.refl _ | apply Keep.alloc | apply Keep.gro | apply Keep.drew | apply Keep.drewN))⟩
theorem itoa1_dig (p : Nat) (hp : p < 10) (w : World) : Calls Tryz.prog 115 #[.int .i64 p] w fun e w' => e = .returned (.string (digS p)) ∧ Keep w w' := by
  have H := Lib.hid (fmt_dig p hp)
  generalize digS p = s at H
  go_enter Tryz.func115, Tryz.ntmps115
  go_wp2_with (go_at_call 176; refine (H.out _).mono ?_; rintro e w' ⟨rfl, hk⟩; (first | obtain ⟨p, rfl⟩ := Zone.gro_of_gro _ _ hk | obtain ⟨p, rfl⟩ := Zone.gro_of_below _ hk); clear hk)
  go_ret
  exact ⟨rfl, (by repeat (first | exact Keep.refl _ | apply Keep.alloc | apply Keep.gro | apply Keep.drew | apply Keep.drewN))⟩
theorem itoa_dig (p : Nat) (hp : p < 10) (w : World) : Calls Tryz.prog 64 #[.int .i64 p] w fun e w' => e = .returned (.string (digS p)) ∧ Keep w w' := by
  have H := Lib.hid (itoa1_dig p hp)
  generalize digS p = s at H
  go_enter Tryz.func64, Tryz.ntmps64
  go_wp2_with (go_at_call 115; refine (H.out _).mono ?_; rintro e w' ⟨rfl, hk⟩; (first | obtain ⟨p, rfl⟩ := Zone.gro_of_gro _ _ hk | obtain ⟨p, rfl⟩ := Zone.gro_of_below _ hk); clear hk)
  go_ret
  exact ⟨rfl, (by repeat (first | exact Keep.refl _ | apply Keep.alloc | apply Keep.gro | apply Keep.drew | apply Keep.drewN))⟩
theorem may_size2 {x : Val} (h : mayV x = true) : x.s.size ≤ 65535 := by
  unfold mayV at h
  split at h
  · have h0 : x.s.toList.length = 0 := by rw [List.isEmpty_iff.1 h]; rfl
    rw [Lib.toList_data] at h0
    have : x.s.size = 0 := h0
    omega
  · split at h
    · simp only [Bool.and_eq_true, decide_eq_true_eq] at h
      omega
    · cases h
theorem err_small {kind : Int} {xs : List Val} (h : dErr kind xs = 0) : ∀ x ∈ dOwn xs, x.s.size ≤ 65535 := fun x hx => by
  have hm := ((dOwn_sorted xs).2 x).1 hx
  unfold dErr at h
  split at h
  · cases h
  · split at h
    · cases h
    · rename_i h2
      refine may_size2 ?_
      have : xs.any noMay = false := by simpa using h2
      have := List.any_eq_false.1 this x hm
      simpa [noMay] using this
/-- a value's place in the dictionary of its own -/
theorem own_place {xs : List Val} {v : Val} (hv : v ∈ xs) : hits (dOwn xs) v = true ∧ lower (dOwn xs) v < (dOwn xs).length := by
  have hs := dOwn_sorted xs
  obtain ⟨i, hi, he⟩ := List.getElem_of_mem ((hs.2 v).2 hv)
  have := (at_hit hs.1 i hi (v := v)).1 he
  exact ⟨this.1, by rw [← this.2]; exact hi⟩
def idsOf (xs : List Val) : List Nat := xs.map (lower (dOwn xs))
theorem ids_lt (xs : List Val) : ∀ x ∈ idsOf xs, x < (dOwn xs).length := fun x hx => by
  obtain ⟨v, hv, rfl⟩ := List.mem_map.1 hx
  exact (own_place hv).2
theorem own_mayF (xs : List Val) (h : xs.length ≤ 16777216) : MayF (dOwn xs).length (idsOf xs).length := by
  have h1 := dOwn_len xs
  rcases Nat.eq_zero_or_pos (dOwn xs).length with h0 | h0
  · refine .inr ⟨h0, ?_⟩
    rw [idsOf, List.length_map]
    rcases xs with _ | ⟨x, r⟩
    · rfl
    · have := (own_place (xs := x :: r) (v := x) (by simp)).2
      omega
  · exact .inl ⟨h0, by omega⟩
end Go.Proofs.YtmcaednlilhnoaaGreatDoor
