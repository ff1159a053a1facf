
/- Frames: of the program, of the document. -/
import Derived.WalkKit
import Derived.Lib.Hide
import Derived.WalkSpells
import Derived.WalkLawsBesides
import Derived.BigQuiet
import Derived.Shelf.Abstract
import Derived.Test.YtcffcblfmlclnaaGreatDoorBc
import Derived.Test.YtcffcblfmlclnaaGreatDoorBytesV
namespace Go.Proofs.YtcffcblfmlclnaaGreatDoor
open Go.RowKit Go.Zone Go.Shelf
attribute [local go_sem] Zone.zone Zone.stepZ Zone.fill Zone.lookFs Zone.goes Zone.goesUpon Zone.dropFs Zone.cell_gro Zone.frozen_gro Zone.size_gro Zone.lt_add Zone.drew_gro Zone.tape_gro Zone.keep_refl
attribute [local go_sem] Zone.lt_add2 Zone.lt_add3 Zone.lt_add4 Zone.lt_add5 Zone.lt_add6 Zone.lt_add7 Zone.lt_add8 Zone.lt_add9 Zone.lt_add10 Zone.lt_add11 Zone.lt_add12
set_option maxRecDepth 100000 in
set_option maxHeartbeats 1000000 in
theorem lit_any (n sz : Nat) (hn : n < 18446744073709551616) (hsz : sz ≤ 8) (w : World) :
    Calls Tryz.prog 113 #[.int .u64 n, .int .i64 sz] w fun e w' => ∃ v, e = .returned v ∧ OwnB w' w.heap.size v (le n sz) ∧ Keep w w' := by
  go_enter Tryz.func113, Tryz.ntmps113
  go_wp2
  go_loopw [6, 0, 5] (fun vi vn vb wr => ∃ (k m : Nat) (o : Value), k ≤ sz ∧ m < 18446744073709551616 ∧ vi = .int .i64 k ∧ o = vb ∧ Hid (OwnB wr w.heap.size o (le n k)) ∧ vn = .int .u64 m ∧ Hid (m = n / 256 ^ k) ∧ Hid (Keep w wr) ∧ w.heap.size ≤ wr.heap.size) (fun vi _ _ _ => sz - (intOf vi).toNat)
  case atStart => exact ⟨0, n, _, by omega, hn, rfl, rfl, Own.nil_ _ _ _ _ _, rfl, (by show _ = _; simp), (by repeat (first | exact Keep.refl _ | apply Keep.alloc | apply Keep.gro | apply Keep.drew | apply Keep.drewN)), Nat.le_refl _⟩
  case round =>
    obtain ⟨k, m, o, hk, hm, rfl, rfl, HO2, rfl, HM, HK2, hz⟩ := hrel
    by_cases hlt : k < sz
    · have hw8 : IntKind.u8.wrap ((m : Int) % 256) = (m : Int) % 256 := by simp [IntKind.wrap, IntKind.signed, IntKind.bits]
      go_wp2_with (at_builtin; refine Zone.hold ?_)
      refine Zone.unhold ?_
      have HO3 : OwnB (wr.alloc (.cells #[.int .u8 ((m : Int) % 256)] 5)) w.heap.size o (le n k) := HO2.out.keep (Keep.alloc (Keep.refl _) _)
      refine wpList_app elt_u8 b8_len b8_one rfl (.tmp 12) (.tmp 16) rfl (ys := [UInt8.ofNat m]) HO3 rfl rfl (sl_one _ (by omega) (by omega) (b8_at _ (by rw [u8_nat]; simp [go_sem]))) (by simp [le_len]; omega) (by simp; omega) ?_
      intro v1 w2 hown2 hg2 _
      have ⟨a1, a2, a3⟩ := HO3.after hg2 (HK2.out.trans (by repeat (first | exact Keep.refl _ | apply Keep.alloc | apply Keep.gro | apply Keep.drew | apply Keep.drewN))) (Nat.le_refl _)
      have HO4 := Lib.hid hown2
      have HA1 := Lib.hid a1
      clear hown2 hg2 HO3 a3 hw8
      have hm2 : m / 256 < 18446744073709551616 := by omega
      go_wp2
      go_roundw
      case rel => exact ⟨k + 1, m / 256, _, by omega, hm2, by go_num, rfl, (by show OwnB _ _ _ _; have := HO4.out; rw [HM.out] at this; exact this), by go_num, (by show _ = _; rw [HM.out, Nat.div_div_eq_div_mul, Nat.pow_succ]), HA1.out, by simp at a2; omega⟩
      case measure => simp [intOf]; omega
    · have hks : k = sz := by omega
      subst hks
      go_wp2
      go_ret
      exact ⟨_, rfl, HO2.out, HK2.out⟩
theorem app16_any (A : Option Addr) (c : Nat) (xs : List UInt8) (n : Nat) (hn : n < 65536) (w : World) (h : SlB w A c xs) (hl : xs.length ≤ 140000000000000) :
    Calls Tryz.prog 38 #[.slice A xs.length c, .int .u16 n] w fun e w' => ∃ v, e = .returned v ∧ OwnB w' w.heap.size v (xs ++ le n 2) ∧ Keep w w' := by
  have HF := Lib.hid (fixed_any A c xs n 2 (by omega) (by omega) w h hl)
  clear h
  go_enter Tryz.func38, Tryz.ntmps38
  go_wp2_with (go_at_call 39; refine Zone.hold ?_)
  refine Zone.unhold ?_
  refine HF.out.mono ?_
  rintro e w1 ⟨v, rfl, hown, hk⟩
  go_wp2
  go_ret
  exact ⟨v, rfl, hown, hk⟩
theorem ownB_sl {w : World} {base : Nat} {v : Value} {xs : List UInt8} (h : OwnB w base v xs) (hl : xs.length ≤ 140737488355328) : ∃ A c, v = .slice A xs.length c ∧ SlB w A c xs := Own.sl h b8_len hl
/-- bytes of one's own, with a name for what they are -/
theorem ownB_open {w : World} {base : Nat} {v : Value} {xs : List UInt8} (h : OwnB w base v xs) (hl : xs.length ≤ 140737488355328) : ∃ L A c, v = .slice A L.length c ∧ Hid (SlB w A c L) ∧ Hid (OwnB w base (.slice A L.length c) L) ∧ Hid (L = xs) := by
  obtain ⟨A, c, rfl, hs⟩ := ownB_sl h hl
  exact ⟨xs, A, c, rfl, hs, h, rfl⟩
/-- the sum of bytes -/
def crcB (bs : List UInt8) : Nat := 4294967295 - sumC 4294967295 bs
/-- bytes, framed -/
def frameB (bs : List UInt8) : List UInt8 := le bs.length 4 ++ bs ++ le (crcB bs) 4
theorem frameB_len (bs : List UInt8) : (frameB bs).length = bs.length + 8 := by simp [frameB, le_len]; omega
set_option maxRecDepth 100000 in
set_option maxHeartbeats 1000000 in
theorem frame_any (A : Option Addr) (c : Nat) (bs : List UInt8) (w : World) (h : SlB w A c bs) (hl : bs.length ≤ 1073741824) :
    Calls Tryz.prog 63 #[.slice A bs.length c] w fun e w' => ∃ v, e = .returned v ∧ OwnB w' w.heap.size v (frameB bs) ∧ Keep w w' := by
  have H := Lib.hid h
  clear h
  go_enter Tryz.func63, Tryz.ntmps63
  go_wp2_with (go_at_call 18; refine Zone.hold ?_)
  refine Zone.unhold ?_
  refine (app32_any none 0 [] bs.length (by omega) _ (Sl.nil_ _ (by decide)) (by simp)).mono ?_
  rintro e w1 ⟨v1, rfl, hown1, hk1⟩
  have HO1 := Lib.hid hown1
  have HK1 := Lib.hid hk1
  clear hown1 hk1
  go_wp2_with (at_builtin; refine Zone.hold ?_)
  refine Zone.unhold ?_
  refine wpList_app elt_u8 b8_len b8_one rfl (.tmp 9) (.tmp 10) rfl (ys := bs) HO1.out rfl rfl (H.out.keep HK1.out) (by simp [le_len]; omega) HK1.out.size ?_
  intro v2 w2 hown2 hg2 _
  have ⟨a1, a2, _⟩ := HO1.out.after (w := w) hg2 HK1.out (Nat.le_refl _)
  have HO2 := Lib.hid hown2
  have HA1 := Lib.hid a1
  clear hown2 hg2 a1 a2 HO1
  go_wp2_with (go_at_call 112; refine Zone.hold ?_)
  refine Zone.unhold ?_
  refine (csum_any A c bs _ (H.out.keep HA1.out)).mono ?_
  rintro e w3 ⟨rfl, hk3⟩
  have HO3 := Lib.hid (HO2.out.keep hk3)
  have HK3 := Lib.hid (HA1.out.trans hk3)
  clear hk3 HO2 HA1
  obtain ⟨L, A3, c3, rfl, HS3, HO4, HL⟩ := ownB_open HO3.out (by simp [le_len]; omega)
  have hlt : 4294967295 - sumC 4294967295 bs < 4294967296 := by omega
  have hll : L.length ≤ 1073741828 := by rw [HL.out]; simp [le_len]; omega
  clear HO3
  go_wp2_with (go_at_call 18; refine Zone.hold ?_)
  refine Zone.unhold ?_
  refine (app32_any A3 c3 L (crcB bs) hlt _ HS3.out (by omega)).mono ?_
  rintro e w4 ⟨v4, rfl, hown4, hk4⟩
  have HO5 := Lib.hid hown4
  have HK5 := Lib.hid (HK3.out.trans hk4)
  have HZ := Lib.hid HK3.out.size
  clear hown4 hk4
  go_wp2
  go_ret
  exact ⟨_, rfl, (by have := HO5.out.base_mono HZ.out; rw [HL.out] at this; exact this), HK5.out⟩
end Go.Proofs.YtcffcblfmlclnaaGreatDoor
