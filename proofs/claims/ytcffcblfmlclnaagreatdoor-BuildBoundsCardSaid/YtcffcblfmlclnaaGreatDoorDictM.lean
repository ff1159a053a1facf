
/- Contracts of the dictionary's methods: none, Len, Kind, Value, Find, Interval. -/
import Derived.WalkKit
import Derived.Lib.Hide
import Derived.WalkSpells
import Derived.WalkLawsBesides
import Derived.BigQuiet
import Derived.Shelf.Abstract
import Derived.Test.YtcffcblfmlclnaaGreatDoorDict
import Derived.Test.YtcffcblfmlclnaaGreatDoorSearch
import Derived.Test.YtcffcblfmlclnaaGreatDoorIval
namespace Go.Proofs.YtcffcblfmlclnaaGreatDoor
open Go.RowKit Go.Zone Go.Shelf
attribute [local go_sem] Zone.zone Zone.stepZ Zone.fill Zone.lookFs Zone.goes Zone.goesUpon Zone.dropFs Zone.cell_gro Zone.frozen_gro Zone.size_gro Zone.lt_add Zone.drew_gro Zone.tape_gro Zone.keep_refl
section
variable {b : Nat} {kind : Int} {A : Option Addr} {c : Nat} {xs : List Val}
theorem none_nil (w : World) : Calls Tryz.prog 87 #[.pointer none] w fun e w' => e = .returned (.bool true) ∧ w = w' := by
  go_enter Tryz.func87, Tryz.ntmps87
  go_wp2
  go_ret
  exact ⟨rfl, rfl⟩
theorem none_at (w : World) (h : DictAt w b kind A c xs) : Calls Tryz.prog 87 #[.pointer (some ⟨b, 0, none⟩)] w fun e w' => e = .returned (.bool (kind == 0)) ∧ w = w' := by
  have h0 := h.k
  clear h
  go_enter Tryz.func87, Tryz.ntmps87
  go_wp2
  go_ret
  exact ⟨rfl, rfl⟩
theorem len_nil (w : World) : Calls Tryz.prog 47 #[.pointer none] w fun e w' => e = .returned (.int .i64 0) ∧ w = w' := by
  go_enter Tryz.func47, Tryz.ntmps47
  go_wp2_with (go_at_call 87; refine (none_nil _).mono ?_; rintro e w' ⟨rfl, rfl⟩)
  go_ret
  exact ⟨rfl, rfl⟩
theorem len_at (w : World) (h : DictAt w b kind A c xs) : Calls Tryz.prog 47 #[.pointer (some ⟨b, 0, none⟩)] w fun e w' => e = .returned (.int .i64 (if kind = 0 then 0 else xs.length)) ∧ w = w' := by
  have h1 := h.l
  have hn := none_at w h
  clear h
  by_cases hk : kind = 0
  · rw [if_pos hk]
    rw [show (kind == 0) = true by simp [hk]] at hn
    have HN := Lib.hid hn
    clear hn hk
    go_enter Tryz.func47, Tryz.ntmps47
    go_wp2_with (go_at_call 87; refine (HN.out).mono ?_; rintro e w' ⟨rfl, rfl⟩)
    go_ret
    exact ⟨rfl, rfl⟩
  · rw [if_neg hk]
    rw [show (kind == 0) = false by simp [hk]] at hn
    have HN := Lib.hid hn
    clear hn hk
    go_enter Tryz.func47, Tryz.ntmps47
    go_wp2_with (go_at_call 87; refine (HN.out).mono ?_; rintro e w' ⟨rfl, rfl⟩)
    go_ret
    exact ⟨rfl, rfl⟩
def zeroVal : Val := ⟨0, 0, ⟨#[]⟩⟩
theorem mono_of (hs : xs.Pairwise LtV) (v : Val) : ∀ i j, (hi : i < xs.length) → (hj : j < xs.length) → i ≤ j → cmpV xs[j] v < 0 → cmpV xs[i] v < 0 := fun i j hi hj hij h => by
  rw [cmpV_lt] at *
  rcases Nat.lt_or_ge i j with h1 | h1
  · exact (List.pairwise_iff_getElem.1 hs i j hi hj h1).trans h
  · have : i = j := by omega
    subst this; exact h
def findV (kind : Int) (xs : List Val) (v : Val) : Int × Bool := if kind = 0 then (0, false) else if hits xs v then (lower xs v, true) else (0, false)
theorem ret_ib {a a' : Int} {x x' : Bool} (h : (a, x) = (a', x')) : Ending.returned (.tuple #[.int .i64 a, .bool x]) = .returned (.tuple #[.int .i64 a', .bool x']) := by
  simp only [Prod.mk.injEq] at h
  obtain ⟨rfl, rfl⟩ := h
  rfl
theorem find_nil (v : Val) (w : World) : Calls Tryz.prog 46 #[.pointer none, v.v] w fun e w' => e = .returned (.tuple #[.int .i64 0, .bool false]) ∧ Keep w w' := by
  obtain ⟨k, n, s⟩ := v
  go_enter Tryz.func46, Tryz.ntmps46
  go_wp2_with (go_at_call 87; refine (none_nil _).mono ?_; rintro e w' ⟨rfl, rfl⟩)
  go_ret2
  exact ⟨rfl, (by repeat (first | exact Keep.refl _ | apply Keep.alloc | apply Keep.gro | apply Keep.drew | apply Keep.drewN))⟩
set_option maxHeartbeats 1000000 in
theorem find_at (v : Val) (w : World) (h : DictAt w b kind A c xs) (hs : xs.Pairwise LtV) : Calls Tryz.prog 46 #[.pointer (some ⟨b, 0, none⟩), v.v] w fun e w' => e = .returned (.tuple #[.int .i64 (findV kind xs v).1, .bool (findV kind xs v).2]) ∧ Keep w w' := by
  have hse := fun W (hW : Keep w W) => search_any A c xs v W (h.sl.keep hW) (mono_of hs v)
  generalize hR : findV kind xs v = R
  have h1 := h.l
  have hb := h.lt
  by_cases hk : kind = 0
  · have hr : R = (0, false) := by rw [← hR]; simp [findV, hk]
    have HR := Lib.hid hr
    subst hk
    have HN := Lib.hid (fun W (hW : Keep w W) => none_at W (h.keep hW))
    obtain ⟨k, n, s⟩ := v
    clear h hr hR h1 hse
    go_enter Tryz.func46, Tryz.ntmps46
    go_wp2_with (go_at_call 87; refine (HN.out _ (by repeat (first | exact Keep.refl _ | apply Keep.alloc | apply Keep.gro | apply Keep.drew | apply Keep.drewN))).mono ?_; rintro e w' ⟨rfl, rfl⟩)
    go_ret2
    exact ⟨ret_ib HR.out.symm, (by repeat (first | exact Keep.refl _ | apply Keep.alloc | apply Keep.gro | apply Keep.drew | apply Keep.drewN))⟩
  · have hr : R = if hits xs v then ((lower xs v : Int), true) else (0, false) := by rw [← hR]; simp [findV, hk]
    have HR := Lib.hid hr
    have HN := Lib.hid (fun W (hW : Keep w W) => by have := none_at W (h.keep hW); rw [show (kind == 0) = false by simp [hk]] at this; exact this)
    generalize hits xs v = q at hse HR
    generalize lower xs v = l at hse HR
    obtain ⟨k, n, s⟩ := v
    have HS := Lib.hid hse
    clear h hr hR hse
    cases q
    all_goals
      go_enter Tryz.func46, Tryz.ntmps46
      go_wp2_with (go_at_call 87; refine (HN.out _ (by repeat (first | exact Keep.refl _ | apply Keep.alloc | apply Keep.gro | apply Keep.drew | apply Keep.drewN))).mono ?_; rintro e w' ⟨rfl, rfl⟩)
      first | refine Zone.wp_region_all_gro (by kernel_rfl) (by kernel_rfl) ?_ | refine Zone.wp_region_all (by kernel_rfl) (by kernel_rfl) ?_
      repeat
        refine Zone.wpZ_step (fun K hK => ?_)
        go_simp
        first
        | (refine hK _ _ ?_; clear hK K)
        | (apply Exists.intro
           refine ⟨fun p => ?_, hK _ _ ?_⟩
           ((go_at_call 88; exact Zone.zc (HS.out _ (by repeat (first | exact Keep.refl _ | apply Keep.alloc | apply Keep.gro | apply Keep.drew | apply Keep.drewN)))))
           clear hK K)
      refine Zone.wpZ_nil ?_
      intro p
      simp only [Zone.fill]
      go_wp2
      go_ret2
      exact ⟨ret_ib HR.out.symm, (by repeat (first | exact Keep.refl _ | apply Keep.alloc | apply Keep.gro | apply Keep.drew | apply Keep.drewN))⟩

def dIval (kind : Int) (xs : List Val) (cmp : Int) (v : Val) : Int × Int × Int :=
  if kind = 0 then (0, 0, 1) else if badCmp v cmp then (0, 0, 2) else if v.k != kind then (0, 0, 9) else
  if cmp == 1 then (lower xs v, if hits xs v then (lower xs v : Int) + 1 else lower xs v, 0)
  else if cmp == 3 then (0, lower xs v, 0)
  else if cmp == 4 then (0, if hits xs v then (lower xs v : Int) + 1 else lower xs v, 0)
  else if cmp == 5 then (if hits xs v then (lower xs v : Int) + 1 else lower xs v, xs.length, 0)
  else (lower xs v, xs.length, 0)
end
end Go.Proofs.YtcffcblfmlclnaaGreatDoor
