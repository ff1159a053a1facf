
/- Contracts of the Reader's Uint, values.number, values.Read, dict.short. -/
import Derived.WalkKit
import Derived.Lib.Hide
import Derived.WalkSpells
import Derived.WalkLawsBesides
import Derived.BigQuiet
import Derived.Shelf.Abstract
import Derived.Test.YtmcaednlilhnoaaGreatDoorJk
import Derived.Test.YtmcaednlilhnoaaGreatDoorJc
namespace Go.Proofs.YtmcaednlilhnoaaGreatDoor
open Go.RowKit Go.Zone Go.Shelf
attribute [local go_sem] Zone.zone Zone.stepZ Zone.fill Zone.lookFs Zone.goes Zone.goesUpon Zone.dropFs Zone.cell_gro Zone.frozen_gro Zone.size_gro Zone.lt_add Zone.drew_gro Zone.tape_gro Zone.keep_refl
section
variable {w w' : World} {R c at_ : Nat} {A : Option Addr} {bs : List UInt8} {bad : Bool}
theorem u8_ok (w : World) (hlt : at_ < bs.length) (h : Rd w R A c bs at_ false) : Calls Tryz.prog 157 #[.pointer (some ⟨R, 0, none⟩)] w fun e w' => e = .returned (.int .u8 (bs[at_].toNat : Int)) ∧ Rd w' R A c bs (at_ + 1) false ∧ w.grownBy w' (some R) := by
  have hs : someR bs at_ false 1 = ([bs[at_]], at_ + 1, false) := by
    simp only [someR, Bool.false_eq_true, if_false, if_pos (show at_ + 1 ≤ bs.length from hlt)]
    rw [List.drop_eq_getElem_cons hlt]; rfl
  have := u8_any w h
  rw [hs] at this
  refine this.mono ?_
  rintro e w' ⟨rfl, hr⟩
  refine ⟨?_, hr⟩
  have hb : bs[at_].toNat < 256 := UInt8.toNat_lt _
  simp [unle]; omega
theorem u8_end (w : World) (hlt : bs.length ≤ at_) (h : Rd w R A c bs at_ false) : Calls Tryz.prog 157 #[.pointer (some ⟨R, 0, none⟩)] w fun e w' => e = .returned (.int .u8 0) ∧ Rd w' R A c bs at_ true ∧ w.grownBy w' (some R) := by
  have hs : someR bs at_ false 1 = ([], at_, true) := by
    simp only [someR, Bool.false_eq_true, if_false, if_neg (show ¬ at_ + 1 ≤ bs.length by omega)]
  have := u8_any w h
  rw [hs] at this
  refine this.mono ?_
  rintro e w' ⟨rfl, hr⟩
  exact ⟨rfl, hr⟩
theorem and_127 (n : Nat) (h : n < 256) : bits .and .u8 (n : Int) 127 = ((n % 128 : Nat) : Int) := by
  have h0 : ∀ k : Fin 256, bits .and .u8 ((k.val : Nat) : Int) 127 = ((k.val % 128 : Nat) : Int) := by decide +kernel
  exact h0 ⟨n, h⟩
theorem step_u (n x k : Nat) (hn : n < 128 ^ k) (hx : x < 256) (h9 : k ≤ 8 ∨ k = 9 ∧ x ≤ 1) : bits .or .u64 (n : Int) (IntKind.u64.wrap (IntKind.u64.wrap (bits .and .u8 (x : Int) 127) * 2 ^ (7 * k))) = ((n + x % 128 * 128 ^ k : Nat) : Int) := by
  have e : 128 ^ k = 2 ^ (7 * k) := by rw [Nat.pow_mul]
  rw [e] at hn ⊢
  rw [and_127 x hx]
  refine or_shl n (x % 128) (7 * k) hn ?_ (by omega)
  rcases h9 with h | ⟨rfl, h⟩
  · have h1 : 2 ^ (7 * k) ≤ 2 ^ 56 := Nat.pow_le_pow_right (by omega) (by omega)
    have h2 : x % 128 * 2 ^ (7 * k) ≤ 127 * 2 ^ 56 := Nat.mul_le_mul (by omega) h1
    omega
  · have h2 : x % 128 * 2 ^ (7 * 9) ≤ 1 * 2 ^ (7 * 9) := Nat.mul_le_mul (by omega) (Nat.le_refl _)
    omega
theorem step_u_lt (n x k : Nat) (hn : n < 128 ^ k) : n + x % 128 * 128 ^ k < 128 ^ (k + 1) := by
  have h2 : x % 128 * 128 ^ k ≤ 127 * 128 ^ k := Nat.mul_le_mul_right _ (by omega)
  rw [Nat.pow_succ]
  omega
theorem Rd.fail {w : World} {R c a at_ : Nat} {A : Option Addr} {bs : List UInt8} {bad : Bool} (h : Rd w R A c bs a bad) (hl : at_ ≤ bs.length) : Rd ((w.setCell ⟨R, 2, none⟩ (.bool true)).setCell ⟨R, 1, none⟩ (.int .i64 at_)) R A c bs at_ true := (h.set2 true).set1 at_ hl
/-- a short number read: the number and the place behind it -/
def uGo (bs : List UInt8) : Nat → Nat → Nat → Nat → Option (Nat × Nat)
  | 0, _, _, _ => none
  | f + 1, i, a, n => match bs[a]? with
    | none => none
    | some x => if (i = 9 ∧ 1 < x.toNat) ∨ (0 < i ∧ x.toNat = 0) then none else if x.toNat < 128 then some (n + x.toNat % 128 * 128 ^ i, a + 1) else uGo bs f (i + 1) (a + 1) (n + x.toNat % 128 * 128 ^ i)
def uintR (bs : List UInt8) (a : Nat) (bad : Bool) : Nat × Nat × Bool := if bad then (0, a, true) else match uGo bs 10 0 a 0 with | some (n, a') => (n, a', false) | none => (0, a, true)
set_option maxRecDepth 100000 in
set_option maxHeartbeats 2000000 in
theorem uint_any (w : World) (h : Rd w R A c bs at_ bad) : Calls Tryz.prog 252 #[.pointer (some ⟨R, 0, none⟩)] w fun e w' => e = .returned (.int .u64 ((uintR bs at_ bad).1 : Int)) ∧
    Rd w' R A c bs (uintR bs at_ bad).2.1 (uintR bs at_ bad).2.2 ∧ w.grownBy w' (some R) := by
  have HB := Lib.hid (bad_any w h)
  have H := Lib.hid h
  have h1 := h.p
  have hR := h.lt
  have hle := h.le
  by_cases hbad : bad = true
  · subst hbad
    have hr : uintR bs at_ true = (0, at_, true) := rfl
    rw [hr]
    clear h hr
    go_enter Tryz.func252, Tryz.ntmps252
    go_wp2_with (go_at_call 150; refine (HB.out).mono ?_; rintro e w' ⟨rfl, rfl⟩)
    go_ret
    exact ⟨rfl, H.out, grownBy_keep (Keep.refl _)⟩
  have hbf : bad = false := by simpa using hbad
  subst hbf
  clear h hbad
  have hlen := H.out.sl.len
  obtain ⟨res, hres⟩ : ∃ r, uGo bs 10 0 at_ 0 = r := ⟨_, rfl⟩
  have HRES := Lib.hid hres
  clear hres
  go_enter Tryz.func252, Tryz.ntmps252
  go_wp2_with (go_at_call 150; refine (HB.out).mono ?_; rintro e w' ⟨rfl, rfl⟩)
  go_loopw [6, 4, 7] (fun vi vn _ wr => ∃ (k n a : Nat), k ≤ 10 ∧ vi = .int .i64 k ∧ vn = .int .u64 n ∧ Hid (uGo bs (10 - k) k a n = res) ∧ Hid (n < 128 ^ k) ∧ Hid (Rd wr R A c bs a false) ∧ Hid (w.grownBy wr (some R))) (fun vi _ _ _ => 10 - (intOf vi).toNat)
  case atStart => exact ⟨0, 0, at_, by omega, rfl, rfl, HRES.out, (by show _ < _; simp), H.out, grownBy_keep (Keep.refl _)⟩
  case round =>
    obtain ⟨k, n, a, hk, rfl, rfl, HU, HN, HRD, HG⟩ := hrel
    by_cases hlt : k < 10
    · by_cases hal : a < bs.length
      · have hu := u8_ok wr hal HRD.out
        go_wp2_with (go_at_call 157; refine Zone.hold ?_)
        refine Zone.unhold ?_
        refine hu.mono ?_
        rintro e w2 ⟨rfl, hrd, hg⟩
        have hp := hrd.p
        have hd := hrd.d
        have hf1 := hrd.f1
        have hf2 := hrd.f2
        have hr2 := hrd.lt
        have HRD2 := Lib.hid hrd
        have HG2 := Lib.hid (grownBy_trans HG.out hg)
        have hget : bs[a]? = some bs[a] := List.getElem?_eq_getElem hal
        have HSTEP := Lib.hid (show (if (k = 9 ∧ 1 < bs[a].toNat) ∨ (0 < k ∧ bs[a].toNat = 0) then none else if bs[a].toNat < 128 then some (n + bs[a].toNat % 128 * 128 ^ k, a + 1) else uGo bs (10 - (k + 1)) (k + 1) (a + 1) (n + bs[a].toNat % 128 * 128 ^ k)) = res by
          have := HU.out
          rw [show 10 - k = (10 - (k + 1)) + 1 by omega, uGo, hget] at this
          exact this)
        have hx : bs[a].toNat < 256 := UInt8.toNat_lt _
        clear hrd hg hu hget HU
        generalize bs[a].toNat = x at *
        have HSU := Lib.hid (fun h9 => step_u n x k HN.out hx h9)
        have HSL := Lib.hid (step_u_lt n x k HN.out)
        by_cases hfail : (k = 9 ∧ 1 < x) ∨ (0 < k ∧ x = 0)
        · have HR := Lib.hid (show res = none by rw [← HSTEP.out, if_pos hfail])
          have HV := Lib.hid (show uintR bs at_ false = (0, at_, true) by simp only [uintR, HRES.out, HR.out]; rfl)
          rcases hfail with ⟨hk9, hx1⟩ | ⟨hk0, hx0⟩
          · subst hk9
            clear HSTEP HSU HSL
            go_wp2
            go_ret
            rw [HV.out]
            exact ⟨rfl, HRD2.out.fail hle, grownBy_trans (grownBy_trans HG2.out (grownBy_set _ _ _)) (grownBy_set _ _ _)⟩
          · subst hx0
            clear HSTEP HSU HSL
            go_wp2
            all_goals go_ret
            all_goals rw [HV.out]
            all_goals exact ⟨rfl, HRD2.out.fail hle, grownBy_trans (grownBy_trans HG2.out (grownBy_set _ _ _)) (grownBy_set _ _ _)⟩
        · have h9 : k ≤ 8 ∨ k = 9 ∧ x ≤ 1 := by omega
          have hsu := HSU.out h9
          rw [if_neg hfail] at HSTEP
          by_cases hsm : x < 128
          · rw [if_pos hsm] at HSTEP
            have HV := Lib.hid (show uintR bs at_ false = (n + x % 128 * 128 ^ k, a + 1, false) by simp only [uintR, HRES.out, ← HSTEP.out]; rfl)
            have HS2 := Lib.hid hsu
            clear HSTEP HSU HSL hsu h9
            have hcase : k = 0 ∨ (0 < k ∧ k ≠ 9 ∧ x ≠ 0) ∨ (k = 9 ∧ x = 1) := by omega
            rcases hcase with hc | ⟨hc1, hc2, hc3⟩ | ⟨hc1, hc2⟩
            · subst hc
              go_wp2
              go_ret
              rw [HV.out]
              exact ⟨by have := HS2.out; simp at this ⊢; rw [this], HRD2.out, HG2.out⟩
            · go_wp2
              go_ret
              rw [HV.out]
              exact ⟨by rw [← HS2.out]; rfl, HRD2.out, HG2.out⟩
            · subst hc1
              subst hc2
              go_wp2
              go_ret
              rw [HV.out]
              exact ⟨by have := HS2.out; simp at this ⊢; rw [this], HRD2.out, HG2.out⟩
          · rw [if_neg hsm] at HSTEP
            have HS2 := Lib.hid hsu
            clear HSU hsu
            have hcase : k = 0 ∨ (0 < k ∧ k ≠ 9 ∧ x ≠ 0) := by omega
            rcases hcase with hc | ⟨hc1, hc2, hc3⟩
            · subst hc
              go_wp2
              go_roundw
              case rel => exact ⟨1, n + x % 128 * 128 ^ 0, a + 1, by omega, rfl, (by have := HS2.out; simp at this ⊢; rw [this]), HSTEP.out, HSL.out, HRD2.out, HG2.out⟩
              case measure => simp [intOf]
            · go_wp2
              go_roundw
              case rel => exact ⟨k + 1, n + x % 128 * 128 ^ k, a + 1, by omega, by go_num, (by rw [← HS2.out]), HSTEP.out, HSL.out, HRD2.out, HG2.out⟩
              case measure => simp [intOf]; omega
      · have hu := u8_end wr (by omega) HRD.out
        have hUn : res = none := by
          have := HU.out
          rw [show 10 - k = (10 - (k + 1)) + 1 by omega, uGo, List.getElem?_eq_none (by omega)] at this
          exact this.symm
        have HV := Lib.hid (show uintR bs at_ false = (0, at_, true) by simp only [uintR, HRES.out, hUn]; rfl)
        clear hUn
        go_wp2_with (go_at_call 157; refine Zone.hold ?_)
        refine Zone.unhold ?_
        refine hu.mono ?_
        rintro e w2 ⟨rfl, hrd, hg⟩
        have hp := hrd.p
        have hd := hrd.d
        have hf1 := hrd.f1
        have hf2 := hrd.f2
        have hr2 := hrd.lt
        have HRD2 := Lib.hid hrd
        have HG2 := Lib.hid (grownBy_trans HG.out hg)
        clear hrd hg hu HU
        go_wp2
        go_ret
        rw [HV.out]
        exact ⟨rfl, HRD2.out.fail hle, grownBy_trans (grownBy_trans HG2.out (grownBy_set _ _ _)) (grownBy_set _ _ _)⟩
    · have hk10 : k = 10 := by omega
      subst hk10
      have HV := Lib.hid (show uintR bs at_ false = (0, at_, true) by simp only [uintR, HRES.out, ← HU.out]; rfl)
      have hp := HRD.out.p
      have hd := HRD.out.d
      have hf1 := HRD.out.f1
      have hf2 := HRD.out.f2
      have hr2 := HRD.out.lt
      go_wp2
      go_ret
      rw [HV.out]
      exact ⟨rfl, HRD.out.fail hle, grownBy_trans (grownBy_trans HG.out (grownBy_set _ _ _)) (grownBy_set _ _ _)⟩
end
end Go.Proofs.YtmcaednlilhnoaaGreatDoor
