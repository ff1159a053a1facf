
/- The document's frames. -/
import Derived.WalkKit
import Derived.Lib.Hide
import Derived.WalkSpells
import Derived.WalkLawsBesides
import Derived.BigQuiet
import Derived.Shelf.Abstract
import Derived.Test.YtcffcblfmlclnaaGreatDoorBf
namespace Go.Proofs.YtcffcblfmlclnaaGreatDoor
open Go.RowKit Go.Zone Go.Shelf
attribute [local go_sem] Zone.zone Zone.stepZ Zone.fill Zone.lookFs Zone.goes Zone.goesUpon Zone.dropFs Zone.cell_gro Zone.frozen_gro Zone.size_gro Zone.lt_add Zone.drew_gro Zone.tape_gro Zone.keep_refl
attribute [local go_sem] Zone.lt_add2 Zone.lt_add3 Zone.lt_add4 Zone.lt_add5 Zone.lt_add6 Zone.lt_add7 Zone.lt_add8 Zone.lt_add9 Zone.lt_add10 Zone.lt_add11 Zone.lt_add12
set_option maxRecDepth 100000 in
set_option maxHeartbeats 1000000 in
theorem rsum_any (A : Option Addr) (c : Nat) (bs : List UInt8) (w : World) (h : SlB w A c bs) : Calls Tryz.prog 114 #[.slice A bs.length c] w fun e w' => e = .returned (.int .u32 (crcB bs : Int)) ∧ Keep w w' := by
  have H := Lib.hid h
  have hl := h.len
  clear h
  go_enter Tryz.func114, Tryz.ntmps114
  go_wp2
  go_loop [3, 4, 5] (fun x j _ => ∃ k : Nat, k ≤ bs.length ∧ j = .int .i64 k ∧ x = .int .u32 (sumC 4294967295 (bs.take k) : Nat)) (fun _ j _ => bs.length - (intOf j).toNat)
  case atStart => exact ⟨0, Nat.zero_le _, rfl, rfl⟩
  case round =>
    obtain ⟨k, hk, rfl, rfl⟩ := hrel
    by_cases hlt : k < bs.length
    · obtain ⟨b, off, rfl, hb, h0⟩ := sl_b8 H.out k hlt
      have hx := sumC_lt (bs.take k) (show 4294967295 < 4294967296 by decide)
      have hbl : bs[k].toNat < 256 := bs[k].toNat_lt
      have HS := Lib.hid ((sumC_succ 4294967295 bs k hlt).trans (byteC_steps _ _))
      have hxx := u32_xor_nat (sumC 4294967295 (bs.take k)) bs[k].toNat hx (by omega)
      have hxl : sumC 4294967295 (bs.take k) ^^^ bs[k].toNat < 4294967296 := Nat.xor_lt_two_pow (n := 32) hx (show bs[k].toNat < 2 ^ 32 by omega)
      generalize sumC 4294967295 (bs.take k) = x at hx HS hxx hxl ⊢
      generalize x ^^^ bs[k].toNat = y at HS hxx hxl
      go_wp2
      go_loop [3, 5] (fun x j => ∃ m : Nat, m ≤ 8 ∧ j = .int .i64 m ∧ x = .int .u32 (stepsC m y : Nat)) (fun _ j => 8 - (intOf j).toNat)
      case atStart => exact ⟨0, Nat.zero_le _, rfl, rfl⟩
      case round =>
        obtain ⟨m, hm, rfl, rfl⟩ := hrel
        have hz := stepsC_lt hxl m
        by_cases hm8 : m < 8
        · have HS2 := Lib.hid (show stepsC (m + 1) y = stepC (stepsC m y) from rfl)
          generalize stepsC m y = z at hz HS2 ⊢
          have h2 := u32_xor_nat (z / 2) 3988292384 (by omega) (by decide)
          rw [show ((z / 2 : Nat) : Int) = (z : Int) / 2 by omega, show ((3988292384 : Nat) : Int) = 3988292384 from rfl] at h2
          cases e : ((z : Int) % 2 == 1)
          · have E := Lib.hid e
            go_wp2
            go_round
            case rel => exact ⟨m + 1, by omega, by go_num, by
              rw [HS2.out]
              have := E.out
              simp only [beq_eq_false_iff_ne, ne_eq] at this
              unfold stepC
              rw [if_neg (by omega)]
              exact congrArg (Value.int .u32) (by omega)⟩
            case measure => simp [intOf]; omega
          · have E := Lib.hid e
            go_wp2
            go_round
            case rel => exact ⟨m + 1, by omega, by go_num, by
              rw [HS2.out]
              have := E.out
              simp only [beq_iff_eq] at this
              unfold stepC
              rw [if_pos (by omega)]⟩
            case measure => simp [intOf]; omega
        · have hm' : m = 8 := by omega
          subst hm'
          rw [← HS.out]
          go_wp2
          go_round
          case rel => exact ⟨k + 1, by omega, by go_num, rfl⟩
          case measure => simp [intOf]; omega
    · have hk' : k = bs.length := by omega
      subst hk'
      rw [List.take_length]
      have hx := sumC_lt bs (show 4294967295 < 4294967296 by decide)
      obtain ⟨x, hxe⟩ : ∃ x, x = sumC 4294967295 bs := ⟨_, rfl⟩
      rw [← hxe] at hx ⊢
      have HE := Lib.hid hxe
      clear hxe
      go_wp2
      go_ret
      exact ⟨by
        unfold crcB
        rw [← HE.out]
        exact ret_int (by omega), (by repeat (first | exact Keep.refl _ | apply Keep.alloc | apply Keep.gro | apply Keep.drew | apply Keep.drewN))⟩
set_option maxRecDepth 100000 in
set_option maxHeartbeats 1000000 in
theorem rframe_any (A : Option Addr) (c : Nat) (bs : List UInt8) (w : World) (h : SlB w A c bs) (hl : bs.length ≤ 1073741824) :
    Calls Tryz.prog 64 #[.slice A bs.length c] w fun e w' => ∃ v, e = .returned v ∧ OwnB w' w.heap.size v (frameB bs) ∧ Keep w w' := by
  have H := Lib.hid h
  clear h
  go_enter Tryz.func64, Tryz.ntmps64
  go_wp2_with (go_at_call 113; refine Zone.hold ?_)
  refine Zone.unhold ?_
  refine (lit_any bs.length 4 (by omega) (by decide) _).mono ?_
  rintro e w1 ⟨v1, rfl, hown1, hk1⟩
  have HO1 := Lib.hid hown1
  have HK1 := Lib.hid hk1
  clear hown1 hk1
  go_wp2_with (at_builtin; refine Zone.hold ?_)
  refine Zone.unhold ?_
  refine wpList_app elt_u8 b8_len b8_one rfl (.tmp 7) (.tmp 8) rfl (ys := bs) HO1.out rfl rfl (H.out.keep HK1.out) (by simp [le_len]; omega) HK1.out.size ?_
  intro v2 w2 hown2 hg2 _
  have ⟨a1, a2, _⟩ := HO1.out.after (w := w) hg2 HK1.out (Nat.le_refl _)
  have HO2 := Lib.hid hown2
  have HA1 := Lib.hid a1
  clear hown2 hg2 a1 a2 HO1
  go_wp2_with (go_at_call 114; refine Zone.hold ?_)
  refine Zone.unhold ?_
  refine (rsum_any A c bs _ (H.out.keep HA1.out)).mono ?_
  rintro e w3 ⟨rfl, hk3⟩
  have HO3 := Lib.hid (HO2.out.keep hk3)
  have HK3 := Lib.hid (HA1.out.trans hk3)
  clear hk3 HO2 HA1
  have hlt : crcB bs < 4294967296 := by unfold crcB; omega
  go_wp2_with (go_at_call 113; refine Zone.hold ?_)
  refine Zone.unhold ?_
  refine (lit_any (crcB bs) 4 (by omega) (by decide) _).mono ?_
  rintro e w4 ⟨v4, rfl, hown4, hk4⟩
  obtain ⟨L, A4, c4, rfl, HS4, _, HL⟩ := ownB_open hown4 (by simp [le_len])
  have HO4 := Lib.hid (HO3.out.keep hk4)
  have HK4 := Lib.hid (HK3.out.trans hk4)
  have HL4 := Lib.hid (show L.length = 4 by rw [HL.out, le_len])
  clear hown4 hk4 HO3 HK3
  go_wp2_with (at_builtin; refine Zone.hold ?_)
  refine Zone.unhold ?_
  refine wpList_app elt_u8 b8_len b8_one rfl (.tmp 10) (.tmp 14) rfl (ys := L) HO4.out rfl rfl HS4.out (by have := HL4.out; simp [le_len]; omega) HK4.out.size ?_
  intro v5 w5 hown5 hg5 _
  have ⟨b1, b2, _⟩ := HO4.out.after (w := w) hg5 HK4.out (Nat.le_refl _)
  have HO5 := Lib.hid hown5
  have HA5 := Lib.hid b1
  clear hown5 hg5 b1 b2 HO4
  go_wp2
  go_ret
  exact ⟨_, rfl, (by have := HO5.out; rw [HL.out] at this; exact this), HA5.out⟩
end Go.Proofs.YtcffcblfmlclnaaGreatDoor
