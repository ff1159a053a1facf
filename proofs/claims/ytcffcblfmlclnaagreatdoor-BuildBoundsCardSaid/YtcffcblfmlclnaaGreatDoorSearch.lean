
/- Contract of slices.BinarySearchFunc at values and their comparison. -/
import Derived.WalkKit
import Derived.Lib.Hide
import Derived.WalkSpells
import Derived.WalkLawsBesides
import Derived.BigQuiet
import Derived.Shelf.Abstract
import Derived.Test.YtcffcblfmlclnaaGreatDoorOf
namespace Go.Proofs.YtcffcblfmlclnaaGreatDoor
open Go.RowKit Go.Zone Go.Shelf
attribute [local go_sem] Zone.zone Zone.stepZ Zone.fill Zone.lookFs Zone.goes Zone.goesUpon Zone.dropFs Zone.cell_gro Zone.frozen_gro Zone.size_gro Zone.lt_add Zone.drew_gro Zone.tape_gro Zone.keep_refl
def lower (xs : List Val) (v : Val) : Nat := (xs.takeWhile fun x => decide (cmpV x v < 0)).length
theorem lower_eq : ∀ (xs : List Val) (v : Val) (n : Nat), n ≤ xs.length → (∀ j, (h : j < xs.length) → j < n → cmpV xs[j] v < 0) → ((h : n < xs.length) → 0 ≤ cmpV xs[n] v) → lower xs v = n
  | [], _, n, hn, _, _ => by have : n = 0 := by simpa using hn
                             subst this; rfl
  | x :: r, v, 0, _, _, h => by
    have := h (by simp)
    simp only [List.getElem_cons_zero] at this
    simp [lower, this]
  | x :: r, v, n + 1, hn, h1, h2 => by
    have h0 := h1 0 (by simp) (by omega)
    simp only [List.getElem_cons_zero] at h0
    have ih := lower_eq r v n (by simpa using hn) (fun j hj hjn => by have := h1 (j + 1) (by simpa using hj) (by omega); simpa using this) (fun h => by have := h2 (by simpa using h); simpa using this)
    unfold lower at ih ⊢
    simp [h0, ih]
theorem lower_le (xs : List Val) (v : Val) : lower xs v ≤ xs.length := (List.takeWhile_sublist _).length_le
def hits (xs : List Val) (v : Val) : Bool := match xs[lower xs v]? with | some x => cmpV x v == 0 | none => false

set_option maxRecDepth 100000 in
set_option maxHeartbeats 2000000 in
theorem search_any (A : Option Addr) (c : Nat) (xs : List Val) (v : Val) (w : World) (h : Sl w 3 Val.cells A c xs) (hm : ∀ i j, (hi : i < xs.length) → (hj : j < xs.length) → i ≤ j → cmpV xs[j] v < 0 → cmpV xs[i] v < 0) :
    Calls Tryz.prog 88 #[.slice A xs.length c, v.v, .func (.func 37) #[] #[]] w fun e w' => e = .returned (.tuple #[.int .i64 (lower xs v), .bool (hits xs v)]) ∧ Keep w w' := by
  have HM := Lib.hid hm; clear hm
  have hlen := h.len
  have hcall := fun (x : Val) W => compare_any x v W
  have HL := Lib.hid (lower_eq xs v)
  obtain ⟨k0, n0, s0⟩ := v
  have HC := Lib.hid hcall; clear hcall
  go_enter Tryz.func88, Tryz.ntmps88
  go_wp2
  go_loopw [9, 10] (fun vi vj wr => ∃ (i j : Nat), i ≤ j ∧ j ≤ xs.length ∧ vi = .int .i64 i ∧ vj = .int .i64 j ∧ Hid (Keep w wr) ∧ Hid (∀ a, (h : a < xs.length) → a < i → cmpV xs[a] ⟨k0, n0, s0⟩ < 0) ∧ Hid (∀ a, (h : a < xs.length) → j ≤ a → 0 ≤ cmpV xs[a] ⟨k0, n0, s0⟩) ∧
     w.heap.size < wr.heap.size ∧ wr.cell? ⟨w.heap.size, 0, none⟩ = some (.int .u8 k0) ∧ wr.cell? ⟨w.heap.size, 1, none⟩ = some (.int .i64 n0) ∧ wr.cell? ⟨w.heap.size, 2, none⟩ = some (.string s0)) (fun vi vj _ => (intOf vj).toNat - (intOf vi).toNat)
  case atStart => exact ⟨0, xs.length, Nat.zero_le _, Nat.le_refl _, rfl, rfl, (by repeat (first | exact Keep.refl _ | apply Keep.alloc | apply Keep.gro | apply Keep.drew | apply Keep.drewN)), fun a _ ha => absurd ha (Nat.not_lt_zero _), fun a h1 h2 => absurd h1 (by omega), by simp, by simp [go_sem], by simp [go_sem], by simp [go_sem]⟩
  case round =>
    obtain ⟨i, j, hij, hj, rfl, rfl, HK, HA, HB, hz, b0, b1, b2⟩ := hrel
    by_cases hlt : i < j
    · go_wp2
      obtain ⟨m, hme⟩ : ∃ m : Nat, ((i : Int) + (j : Int)) / 2 = m := ⟨(i + j) / 2, by omega⟩
      simp only [hme]
      have hm1 : i ≤ m := by omega
      have hm2 : m < j := by omega
      clear hme
      have hml : m < xs.length := by omega
      obtain ⟨bx, off, rfl, hbx, c0, c1, c2⟩ := sl_val (h.keep HK.out) m hml
      have hcm := fun W => HC.out xs[m] W
      have HMono := Lib.hid (fun a (ha : a < xs.length) (hm : a ≤ m) => HM.out a m ha hml hm)
      have HMono2 := Lib.hid (fun a (ha : a < xs.length) (hm : m ≤ a) => HM.out m a hml ha hm)
      generalize hq : cmpV xs[m] ⟨k0, n0, s0⟩ = q at hcm HMono HMono2
      have HQ := Lib.hid hq; clear hq
      have HCM := Lib.hid hcm; clear hcm
      by_cases hq0 : q < 0
      · first | refine Zone.wp_region_all_gro (by kernel_rfl) (by kernel_rfl) ?_ | refine Zone.wp_region_all (by kernel_rfl) (by kernel_rfl) ?_
        repeat
          refine Zone.wpZ_step (fun K hK => ?_)
          go_simp
          first
          | (refine hK _ _ ?_; clear hK K)
          | (apply Exists.intro
             refine ⟨fun p => ?_, hK _ _ ?_⟩
             ((go_at_call 37; exact Zone.zc (HCM.out _)))
             clear hK K)
        refine Zone.wpZ_nil ?_
        intro p
        simp only [Zone.fill]
        go_wp2
        go_roundw
        case rel => exact ⟨m + 1, j, by omega, hj, by go_num, rfl, HK.out.gro _, fun a ha hai => HMono.out a ha (by omega) hq0, HB.out, by simp [size_gro]; omega, by simp [cell_gro, hz, b0], by simp [cell_gro, hz, b1], by simp [cell_gro, hz, b2]⟩
        case measure => simp [intOf]; omega
      · first | refine Zone.wp_region_all_gro (by kernel_rfl) (by kernel_rfl) ?_ | refine Zone.wp_region_all (by kernel_rfl) (by kernel_rfl) ?_
        repeat
          refine Zone.wpZ_step (fun K hK => ?_)
          go_simp
          first
          | (refine hK _ _ ?_; clear hK K)
          | (apply Exists.intro
             refine ⟨fun p => ?_, hK _ _ ?_⟩
             ((go_at_call 37; exact Zone.zc (HCM.out _)))
             clear hK K)
        refine Zone.wpZ_nil ?_
        intro p
        simp only [Zone.fill]
        go_wp2
        go_roundw
        case rel => exact ⟨i, m, hm1, by omega, rfl, rfl, HK.out.gro _, HA.out, fun a ha hai => by
          have := HMono2.out a ha hai
          rcases Int.lt_or_le (cmpV xs[a] ⟨k0, n0, s0⟩) 0 with h0 | h0
          · exact absurd (this h0) hq0
          · exact h0, by simp [size_gro]; omega, by simp [cell_gro, hz, b0], by simp [cell_gro, hz, b1], by simp [cell_gro, hz, b2]⟩
        case measure => simp [intOf]; omega
    · have hlow := HL.out i (by omega) HA.out (fun hi => HB.out i hi (by omega))
      have HH : Hid (hits xs ⟨k0, n0, s0⟩ = match xs[i]? with | some x => cmpV x ⟨k0, n0, s0⟩ == 0 | none => false) := by
        show _ = _
        unfold hits
        rw [hlow]
      have HLW := Lib.hid hlow; clear hlow
      clear HL HM
      by_cases hil : i < xs.length
      · obtain ⟨bx, off, rfl, hbx, c0, c1, c2⟩ := sl_val (h.keep HK.out) i hil
        have hcm := fun W => HC.out xs[i] W
        have HH2 : Hid (hits xs ⟨k0, n0, s0⟩ = (cmpV xs[i] ⟨k0, n0, s0⟩ == 0)) := by
          show _ = _
          rw [HH.out, List.getElem?_eq_getElem hil]
        clear HH
        generalize cmpV xs[i] ⟨k0, n0, s0⟩ = q at hcm HH2
        have HCM := Lib.hid hcm; clear hcm
        go_wp2
        first | refine Zone.wp_region_all_gro (by kernel_rfl) (by kernel_rfl) ?_ | refine Zone.wp_region_all (by kernel_rfl) (by kernel_rfl) ?_
        repeat
          refine Zone.wpZ_step (fun K hK => ?_)
          go_simp
          first
          | (refine hK _ _ ?_; clear hK K)
          | (apply Exists.intro
             refine ⟨fun p => ?_, hK _ _ ?_⟩
             ((go_at_call 37; exact Zone.zc (HCM.out _)))
             clear hK K)
        refine Zone.wpZ_nil ?_
        intro p
        simp only [Zone.fill]
        go_wp2
        go_ret2
        exact ⟨by rw [HLW.out, HH2.out]; rfl, HK.out.gro _⟩
      · have HH2 : Hid (hits xs ⟨k0, n0, s0⟩ = false) := by
          show _ = _
          rw [HH.out, List.getElem?_eq_none (by omega)]
        go_wp2
        first | refine Zone.wp_region_all_gro (by kernel_rfl) (by kernel_rfl) ?_ | refine Zone.wp_region_all (by kernel_rfl) (by kernel_rfl) ?_
        repeat
          refine Zone.wpZ_step (fun K hK => ?_)
          go_simp
          first
          | (refine hK _ _ ?_; clear hK K)
          | (apply Exists.intro
             refine ⟨fun p => ?_, hK _ _ ?_⟩
             ((go_at_call 37; exact Zone.zc (HC.out _ _)))
             clear hK K)
        refine Zone.wpZ_nil ?_
        intro p
        simp only [Zone.fill]
        go_wp2
        go_ret2
        exact ⟨by rw [HLW.out, HH2.out]; rfl, HK.out.gro _⟩
end Go.Proofs.YtcffcblfmlclnaaGreatDoor
