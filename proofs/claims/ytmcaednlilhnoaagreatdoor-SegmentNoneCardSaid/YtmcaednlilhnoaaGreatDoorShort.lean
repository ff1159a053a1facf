
/- Contract of dict.short: it answers. -/
import Derived.WalkKit
import Derived.Lib.Hide
import Derived.WalkSpells
import Derived.WalkLawsBesides
import Derived.BigQuiet
import Derived.Shelf.Abstract
import Derived.Test.YtmcaednlilhnoaaGreatDoorJk
namespace Go.Proofs.YtmcaednlilhnoaaGreatDoor
open Go.RowKit Go.Zone Go.Shelf
attribute [local go_sem] Zone.zone Zone.stepZ Zone.fill Zone.lookFs Zone.goes Zone.goesUpon Zone.dropFs Zone.cell_gro Zone.frozen_gro Zone.size_gro Zone.lt_add Zone.drew_gro Zone.tape_gro Zone.keep_refl
set_option maxRecDepth 100000 in
set_option maxHeartbeats 1000000 in
theorem short_any (A : Option Addr) (c : Nat) (xs : List UInt8) (w : World) (h : SlB w A c xs) :
    Calls Tryz.prog 159 #[.slice A xs.length c] w fun e w' => Hid (∃ b, e = .returned (.bool b)) ∧ w = w' := by
  have HS := Lib.hid h
  have hl := h.len
  clear h
  go_enter Tryz.func159, Tryz.ntmps159
  go_wp2
  go_loop [7, 3, 4] (fun vi _ _ => ∃ (k : Nat), k ≤ xs.length ∧ vi = .int .i64 k) (fun vi _ _ => xs.length - (intOf vi).toNat)
  case atStart => exact ⟨0, by omega, rfl⟩
  case round =>
    obtain ⟨k, hk, rfl⟩ := hrel
    by_cases hlt : k < xs.length
    · obtain ⟨b, off, rfl, hb, hc⟩ := sl_byte HS.out k hlt
      generalize xs[k].toNat = x at *
      by_cases h1 : k = 9 ∧ 1 < x
      · obtain ⟨rfl, hx⟩ := h1
        go_wp2
        go_ret
        first | exact ⟨Or.inl rfl, rfl⟩ | exact ⟨Or.inr rfl, rfl⟩
      · by_cases h2 : 0 < k ∧ x = 0
        · obtain ⟨hk0, rfl⟩ := h2
          go_wp2
          all_goals go_ret
          all_goals first | exact ⟨Or.inl rfl, rfl⟩ | exact ⟨Or.inr rfl, rfl⟩
        · have hcase : k = 0 ∨ (0 < k ∧ k ≠ 9 ∧ x ≠ 0) ∨ (k = 9 ∧ x = 1) := by omega
          rcases hcase with rfl | ⟨g1, g2, g3⟩ | ⟨rfl, rfl⟩
          · simp only [Nat.add_zero] at hc
            by_cases h3 : x < 128
            · go_wp2
              go_ret
              first | exact ⟨Or.inl rfl, rfl⟩ | exact ⟨Or.inr rfl, rfl⟩
            · go_wp2
              exact ⟨⟨1, by omega, rfl⟩, by simp [intOf]; omega⟩
          · by_cases h3 : x < 128
            · go_wp2
              go_ret
              first | exact ⟨Or.inl rfl, rfl⟩ | exact ⟨Or.inr rfl, rfl⟩
            · go_wp2
              exact ⟨⟨k + 1, by omega, by go_num⟩, by simp [intOf]; omega⟩
          · go_wp2
            go_ret
            first | exact ⟨Or.inl rfl, rfl⟩ | exact ⟨Or.inr rfl, rfl⟩
    · go_wp2
      go_ret
      first | exact ⟨Or.inl rfl, rfl⟩ | exact ⟨Or.inr rfl, rfl⟩
end Go.Proofs.YtmcaednlilhnoaaGreatDoor
