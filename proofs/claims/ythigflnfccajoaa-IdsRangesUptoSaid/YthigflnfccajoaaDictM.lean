
/- Contracts of the dictionary's methods: none, Len, Kind, Value, Find, Interval. -/
import Derived.WalkKit
import Derived.Lib.Hide
import Derived.WalkSpells
import Derived.WalkLawsBesides
import Derived.BigQuiet
import Derived.Shelf.Abstract
import Derived.Test.YthigflnfccajoaaDict
import Derived.Test.YthigflnfccajoaaSearch
import Derived.Test.YthigflnfccajoaaIval
namespace Go.Proofs.Ythigflnfccajoaa
open Go.RowKit Go.Zone Go.Shelf
attribute [local go_sem] Zone.zone Zone.stepZ Zone.fill Zone.lookFs Zone.goes Zone.goesUpon Zone.dropFs Zone.cell_gro Zone.frozen_gro Zone.size_gro Zone.lt_add Zone.drew_gro Zone.tape_gro Zone.keep_refl
section
variable {b : Nat} {kind : Int} {A : Option Addr} {c : Nat} {xs : List Val}
theorem none_nil (w : World) : Calls Try.prog 49 #[.pointer none] w fun e w' => e = .returned (.bool true) ∧ w = w' := by
  go_enter Try.func49, Try.ntmps49
  go_wp2
  go_ret
  exact ⟨rfl, rfl⟩
theorem none_at (w : World) (h : DictAt w b kind A c xs) : Calls Try.prog 49 #[.pointer (some ⟨b, 0, none⟩)] w fun e w' => e = .returned (.bool (kind == 0)) ∧ w = w' := by
  have h0 := h.k
  clear h
  go_enter Try.func49, Try.ntmps49
  go_wp2
  go_ret
  exact ⟨rfl, rfl⟩
theorem len_nil (w : World) : Calls Try.prog 14 #[.pointer none] w fun e w' => e = .returned (.int .i64 0) ∧ w = w' := by
  go_enter Try.func14, Try.ntmps14
  go_wp2_with (go_at_call 49; refine (none_nil _).mono ?_; rintro e w' ⟨rfl, rfl⟩)
  go_ret
  exact ⟨rfl, rfl⟩
theorem len_at (w : World) (h : DictAt w b kind A c xs) : Calls Try.prog 14 #[.pointer (some ⟨b, 0, none⟩)] w fun e w' => e = .returned (.int .i64 (if kind = 0 then 0 else xs.length)) ∧ w = w' := by
  have h1 := h.l
  have hn := none_at w h
  clear h
  by_cases hk : kind = 0
  · rw [if_pos hk]
    rw [show (kind == 0) = true by simp [hk]] at hn
    have HN := Lib.hid hn
    clear hn hk
    go_enter Try.func14, Try.ntmps14
    go_wp2_with (go_at_call 49; refine (HN.out).mono ?_; rintro e w' ⟨rfl, rfl⟩)
    go_ret
    exact ⟨rfl, rfl⟩
  · rw [if_neg hk]
    rw [show (kind == 0) = false by simp [hk]] at hn
    have HN := Lib.hid hn
    clear hn hk
    go_enter Try.func14, Try.ntmps14
    go_wp2_with (go_at_call 49; refine (HN.out).mono ?_; rintro e w' ⟨rfl, rfl⟩)
    go_ret
    exact ⟨rfl, rfl⟩
theorem kind_nil (w : World) : Calls Try.prog 47 #[.pointer none] w fun e w' => e = .returned (.int .u8 0) ∧ w = w' := by
  go_enter Try.func47, Try.ntmps47
  go_wp2_with (go_at_call 49; refine (none_nil _).mono ?_; rintro e w' ⟨rfl, rfl⟩)
  go_ret
  exact ⟨rfl, rfl⟩
theorem kind_at (w : World) (h : DictAt w b kind A c xs) : Calls Try.prog 47 #[.pointer (some ⟨b, 0, none⟩)] w fun e w' => e = .returned (.int .u8 kind) ∧ w = w' := by
  have h1 := h.k
  have hn := none_at w h
  clear h
  by_cases hk : kind = 0
  · subst hk
    have HN := Lib.hid hn
    clear hn
    go_enter Try.func47, Try.ntmps47
    go_wp2_with (go_at_call 49; refine (HN.out).mono ?_; rintro e w' ⟨rfl, rfl⟩)
    go_ret
    exact ⟨rfl, rfl⟩
  · rw [show (kind == 0) = false by simp [hk]] at hn
    have HN := Lib.hid hn
    clear hn hk
    go_enter Try.func47, Try.ntmps47
    go_wp2_with (go_at_call 49; refine (HN.out).mono ?_; rintro e w' ⟨rfl, rfl⟩)
    go_ret
    exact ⟨rfl, rfl⟩
def zeroVal : Val := ⟨0, 0, ⟨#[]⟩⟩
theorem value_nil (id : Int) (w : World) : Calls Try.prog 13 #[.pointer none, .int .i64 id] w fun e w' => e = .returned (.tuple #[zeroVal.v, .int .i64 1]) ∧ Keep w w' := by
  go_enter Try.func13, Try.ntmps13
  go_wp2_with (go_at_call 49; refine (none_nil _).mono ?_; rintro e w' ⟨rfl, rfl⟩)
  exact bodyPost_ret (v := .tuple #[zeroVal.v, .int .i64 1]) (by simp [results, Try.results13, go_sem, zeroVal]) rfl ⟨rfl, (by repeat (first | exact Keep.refl _ | apply Keep.alloc | apply Keep.gro | apply Keep.drew | apply Keep.drewN))⟩
theorem value_zero (id : Int) (w : World) (h : DictAt w b 0 A c xs) : Calls Try.prog 13 #[.pointer (some ⟨b, 0, none⟩), .int .i64 id] w fun e w' => e = .returned (.tuple #[zeroVal.v, .int .i64 1]) ∧ Keep w w' := by
  have HN := Lib.hid (fun W (hW : Keep w W) => none_at W (h.keep hW))
  clear h
  go_enter Try.func13, Try.ntmps13
  go_wp2_with (go_at_call 49; refine (HN.out _ (by repeat (first | exact Keep.refl _ | apply Keep.alloc | apply Keep.gro | apply Keep.drew | apply Keep.drewN))).mono ?_; rintro e w' ⟨rfl, rfl⟩)
  exact bodyPost_ret (v := .tuple #[zeroVal.v, .int .i64 1]) (by simp [results, Try.results13, go_sem, zeroVal]) rfl ⟨rfl, (by repeat (first | exact Keep.refl _ | apply Keep.alloc | apply Keep.gro | apply Keep.drew | apply Keep.drewN))⟩
set_option maxHeartbeats 1000000 in
theorem value_out (id : Int) (w : World) (h : DictAt w b kind A c xs) (hk : kind ≠ 0) (hi : id < 0 ∨ (xs.length : Int) ≤ id) : Calls Try.prog 13 #[.pointer (some ⟨b, 0, none⟩), .int .i64 id] w fun e w' => e = .returned (.tuple #[zeroVal.v, .int .i64 7]) ∧ Keep w w' := by
  have HN := Lib.hid (fun W (hW : Keep w W) => by have := none_at W (h.keep hW); rw [show (kind == 0) = false by simp [hk]] at this; exact this)
  have h1 := h.l
  have hb := h.lt
  clear h
  by_cases hi0 : id < 0
  · go_enter Try.func13, Try.ntmps13
    go_wp2_with (go_at_call 49; refine (HN.out _ (by repeat (first | exact Keep.refl _ | apply Keep.alloc | apply Keep.gro | apply Keep.drew | apply Keep.drewN))).mono ?_; rintro e w' ⟨rfl, rfl⟩)
    exact bodyPost_ret (v := .tuple #[zeroVal.v, .int .i64 7]) (by simp [results, Try.results13, go_sem, zeroVal]) rfl ⟨rfl, (by repeat (first | exact Keep.refl _ | apply Keep.alloc | apply Keep.gro | apply Keep.drew | apply Keep.drewN))⟩
  · have hi1 : (xs.length : Int) ≤ id := by omega
    clear hi
    go_enter Try.func13, Try.ntmps13
    go_wp2_with (go_at_call 49; refine (HN.out _ (by repeat (first | exact Keep.refl _ | apply Keep.alloc | apply Keep.gro | apply Keep.drew | apply Keep.drewN))).mono ?_; rintro e w' ⟨rfl, rfl⟩)
    exact bodyPost_ret (v := .tuple #[zeroVal.v, .int .i64 7]) (by simp [results, Try.results13, go_sem, zeroVal]) rfl ⟨rfl, (by repeat (first | exact Keep.refl _ | apply Keep.alloc | apply Keep.gro | apply Keep.drew | apply Keep.drewN))⟩
set_option maxHeartbeats 1000000 in
theorem value_at (i : Nat) (w : World) (h : DictAt w b kind A c xs) (hk : kind ≠ 0) (hi : i < xs.length) : Calls Try.prog 13 #[.pointer (some ⟨b, 0, none⟩), .int .i64 i] w fun e w' => e = .returned (.tuple #[xs[i].v, .int .i64 0]) ∧ Keep w w' := by
  have HN := Lib.hid (fun W (hW : Keep w W) => by have := none_at W (h.keep hW); rw [show (kind == 0) = false by simp [hk]] at this; exact this)
  have h1 := h.l
  have hb := h.lt
  obtain ⟨bx, off, rfl, hbx, c0, c1, c2⟩ := sl_val h.sl i hi
  clear h
  go_enter Try.func13, Try.ntmps13
  go_wp2_with (go_at_call 49; refine (HN.out _ (by repeat (first | exact Keep.refl _ | apply Keep.alloc | apply Keep.gro | apply Keep.drew | apply Keep.drewN))).mono ?_; rintro e w' ⟨rfl, rfl⟩)
  exact bodyPost_ret (v := .tuple #[xs[i].v, .int .i64 0]) (by simp [results, Try.results13, go_sem]) rfl ⟨rfl, by repeat (first | exact Keep.refl _ | apply Keep.alloc | (refine Keep.setCell ?_ (by simp) _))⟩

theorem mono_of (hs : xs.Pairwise LtV) (v : Val) : ∀ i j, (hi : i < xs.length) → (hj : j < xs.length) → i ≤ j → cmpV xs[j] v < 0 → cmpV xs[i] v < 0 := fun i j hi hj hij h => by
  rw [cmpV_lt] at *
  rcases Nat.lt_or_ge i j with h1 | h1
  · exact (List.pairwise_iff_getElem.1 hs i j hi hj h1).trans h
  · have : i = j := by omega
    subst this; exact h
def findV (kind : Int) (xs : List Val) (v : Val) : Int × Bool := if kind = 0 then (0, false) else if hits xs v then (lower xs v, true) else (0, false)
theorem ret_ib {a a' : Int} {x x' : Bool} (h : (a, x) = (a', x')) : Ending.returned (.tuple #[.int .i64 a, .bool x]) = .returned (.tuple #[.int .i64 a', .bool x']) := by
  simp only [Prod.mk.injEq] at h
  obtain ⟨rfl, rfl⟩ := h
  rfl
def dIval (kind : Int) (xs : List Val) (cmp : Int) (v : Val) : Int × Int × Int :=
  if kind = 0 then (0, 0, 1) else if badCmp v cmp then (0, 0, 2) else if v.k != kind then (0, 0, 9) else
  if cmp == 1 then (lower xs v, if hits xs v then (lower xs v : Int) + 1 else lower xs v, 0)
  else if cmp == 3 then (0, lower xs v, 0)
  else if cmp == 4 then (0, if hits xs v then (lower xs v : Int) + 1 else lower xs v, 0)
  else if cmp == 5 then (if hits xs v then (lower xs v : Int) + 1 else lower xs v, xs.length, 0)
  else (lower xs v, xs.length, 0)
end
end Go.Proofs.Ythigflnfccajoaa
