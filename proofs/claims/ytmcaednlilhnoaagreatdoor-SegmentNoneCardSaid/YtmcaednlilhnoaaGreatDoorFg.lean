
/- pack: Get, Unpack. -/
import Derived.WalkKit
import Derived.Lib.Hide
import Derived.WalkSpells
import Derived.WalkLawsBesides
import Derived.BigQuiet
import Derived.Shelf.Abstract
import Derived.Test.YtmcaednlilhnoaaGreatDoorFo
import Derived.Test.YtmcaednlilhnoaaGreatDoorJk
namespace Go.Proofs.YtmcaednlilhnoaaGreatDoor
open Go.RowKit Go.Zone Go.Shelf
attribute [local go_sem] Zone.zone Zone.stepZ Zone.fill Zone.lookFs Zone.goes Zone.goesUpon Zone.dropFs Zone.cell_gro Zone.frozen_gro Zone.size_gro Zone.lt_add Zone.drew_gro Zone.tape_gro Zone.keep_refl
attribute [local go_sem] Zone.lt_add2 Zone.lt_add3 Zone.lt_add4 Zone.lt_add5 Zone.lt_add6 Zone.lt_add7 Zone.lt_add8 Zone.lt_add9 Zone.lt_add10 Zone.lt_add11 Zone.lt_add12
theorem pg_bits (X y t k : Nat) (hy : y < 256) (hX : X < 2 ^ k) (hk : k ≤ 63) : bits .or .u64 (X : Int) (IntKind.u64.wrap (IntKind.u64.wrap (bits .and .u8 ((y : Int) / 2 ^ t) 1) * 2 ^ k)) = ((X + y / 2 ^ t % 2 * 2 ^ k : Nat) : Int) := by
  have e1 : (y : Int) / 2 ^ t = ((y / 2 ^ t : Nat) : Int) := by simp
  have hd : y / 2 ^ t < 256 := Nat.lt_of_le_of_lt (Nat.div_le_self _ _) hy
  have e2 := u8_and_nat (y / 2 ^ t) 1 hd (by decide)
  rw [Nat.and_one_is_mod] at e2
  rw [e1, show (1 : Int) = ((1 : Nat) : Int) from rfl, e2]
  have hk2 : 2 ^ k ≤ 2 ^ 63 := Nat.pow_le_pow_right (by decide) hk
  have hb : y / 2 ^ t % 2 ≤ 1 := by omega
  have hb2 : y / 2 ^ t % 2 * 2 ^ k ≤ 1 * 2 ^ k := Nat.mul_le_mul_right _ hb
  exact or_shl _ _ _ hX (by omega) hk
theorem pg_bit (N q j t : Nat) (hj : j = q / 8) (ht : t = q % 8) : (UInt8.ofNat (N / 256 ^ j % 256)).toNat / 2 ^ t % 2 = N / 2 ^ q % 2 := by
  have e : (UInt8.ofNat (N / 256 ^ j % 256)).toNat = N / 256 ^ j % 256 := by simp
  have hq : q = 8 * j + t := by omega
  rw [e, pow8, hq, Nat.pow_add, ← Nat.div_div_eq_div_mul]
  generalize N / 2 ^ (8 * j) = M
  have h1 : (256 : Nat) = 2 ^ t * (2 * 2 ^ (8 - t - 1)) := by
    rw [← Nat.pow_succ', ← Nat.pow_add, show t + (8 - t - 1 + 1) = 8 by omega]
  rw [h1, Nat.mod_mul_right_div_self, Nat.mod_mul_right_mod]
set_option maxRecDepth 100000 in
set_option maxHeartbeats 2000000 in
theorem pget_any (A : Option Addr) (c i wd N : Nat) (bs : List UInt8) (w : World) (h : SlB w A c bs) (h1 : 1 ≤ wd) (h2 : wd ≤ 64) (hi : i ≤ 1000000000) (hf : i * wd + wd ≤ 8 * bs.length) (hb : bs = le N bs.length) :
    Calls Tryz.prog 31 #[.slice A bs.length c, .int .i64 i, .int .i64 wd] w fun e w' => e = .returned (.int .u64 (N / 2 ^ (i * wd) % 2 ^ wd : Nat)) ∧ Keep w w' := by
  have HF := Lib.hid (fits_pk i wd (by omega) h1 h2)
  have H := Lib.hid h
  have hmul : i * wd ≤ 1000000000 * 64 := Nat.mul_le_mul hi h2
  obtain ⟨Q, hQ⟩ : ∃ Q, Q = i * wd := ⟨_, rfl⟩
  have hQw : (i : Int) * (wd : Int) = (Q : Int) := by rw [hQ, Int.natCast_mul]
  rw [← hQ] at hmul hf
  have HFT := Lib.hid hf
  have HM := Lib.hid hmul
  have HB := Lib.hid hb
  have hlen := h.len
  rw [← hQ]
  clear h hb hf hmul hQ
  go_enter Tryz.func31, Tryz.ntmps31
  go_wp2_with (go_at_call 52; refine (HF.out _).mono ?_; rintro e w' ⟨rfl, hk⟩; (first | obtain ⟨p, rfl⟩ := Zone.gro_of_gro _ _ hk | obtain ⟨p, rfl⟩ := Zone.gro_of_below _ hk); clear hk)
  go_loopw [6, 14] (fun x i wr => ∃ k : Nat, k ≤ wd ∧ i = .int .i64 k ∧ x = .int .u64 (N / 2 ^ Q % 2 ^ k : Nat) ∧ Hid (Keep w wr)) (fun _ i _ => wd - (intOf i).toNat)
  case atStart => exact ⟨0, Nat.zero_le _, rfl, by simp [Nat.mod_one], (by repeat (first | exact Keep.refl _ | apply Keep.alloc | apply Keep.gro | apply Keep.drew | apply Keep.drewN))⟩
  case round =>
    obtain ⟨k, hk, rfl, rfl, HK⟩ := hrel
    by_cases hkt : k < wd
    · obtain ⟨q, hq⟩ : ∃ q, q = Q + k := ⟨_, rfl⟩
      have hq2 : (Q : Int) + (k : Int) = (q : Int) := by omega
      obtain ⟨j, hj⟩ : ∃ j, j = q / 8 := ⟨_, rfl⟩
      obtain ⟨t, ht⟩ : ∃ t, t = q % 8 := ⟨_, rfl⟩
      have hj2 : (q : Int) / 8 = (j : Int) := by omega
      have ht2 : (q : Int) % 8 = (t : Int) := by omega
      have hjn : j < bs.length := by have := HFT.out; omega
      have hbig : q ≤ 100000000000 := by have := HM.out; omega
      obtain ⟨b, off, rfl, hbl, c0⟩ := sl_byte (H.out.keep HK.out) j hjn
      obtain ⟨y, hy⟩ : ∃ y, y = bs[j] := ⟨_, rfl⟩
      rw [← hy] at c0
      have hyb : y = UInt8.ofNat (N / 256 ^ j % 256) := by
        rw [hy]
        exact (List.getElem_of_eq HB.out hjn).trans (le_get N bs.length j (by rw [le_len]; exact hjn))
      obtain ⟨X, hX⟩ : ∃ X, X = N / 2 ^ Q % 2 ^ k := ⟨_, rfl⟩
      rw [← hX]
      have hnew : bits .or .u64 (X : Int) (IntKind.u64.wrap (IntKind.u64.wrap (bits .and .u8 ((y.toNat : Int) / 2 ^ t) 1) * 2 ^ k)) = ((N / 2 ^ Q % 2 ^ (k + 1) : Nat) : Int) := by
        rw [pg_bits _ _ _ _ y.toNat_lt (by rw [hX]; exact Nat.mod_lt _ (Nat.two_pow_pos _)) (by omega), hX, bit_more, hyb, pg_bit N q j t hj ht, hq, Nat.pow_add, ← Nat.div_div_eq_div_mul]
      have HNEW := Lib.hid hnew
      have hcm : ¬ ((bs.length : Int) ≤ (j : Int)) := by omega
      clear hnew hyb hy hq hj ht hX
      go_wp2
      go_roundw
      case rel => exact ⟨k + 1, by omega, by go_num, by rw [HNEW.out], HK.out⟩
      case measure => simp [intOf]; omega
    · have hkw : k = wd := by omega
      subst hkw
      go_wp2
      go_ret
      exact ⟨rfl, HK.out⟩
set_option maxRecDepth 100000 in
set_option maxHeartbeats 2000000 in
/-- the sample's packed ids, unpacked -/
theorem unpack_k (A : Option Addr) (c : Nat) (w : World) (h : SlB w A c [5]) :
    Calls Tryz.prog 161 #[.slice A 1 c, .int .i64 3, .int .i64 1] w fun e w' => ∃ v, e = .returned (.tuple #[v, .int .i64 0]) ∧ Keep w w' := by
  have HF := Lib.hid (fits_pk 3 1 (by omega) (by omega) (by omega))
  have HZ := Lib.hid (size_pk 3 1 (by omega) (by omega) (by omega))
  have HG := Lib.hid (fun i (hi : i < 3) W (hk : Keep w W) => pget_any A c i 1 5 [5] W (h.keep hk) (by omega) (by omega) (by omega) (by simp; omega) (by decide))
  obtain ⟨b, off, rfl, hb, c0⟩ := sl_byte h 0 (by simp)
  simp only [List.getElem_cons_zero, Nat.add_zero] at c0
  clear h
  go_enter Tryz.func161, Tryz.ntmps161
  go_wp2_with (first | (go_at_call 52; refine (HF.out _).mono ?_; rintro e w' ⟨rfl, hk⟩; (first | obtain ⟨p, rfl⟩ := Zone.gro_of_gro _ _ hk | obtain ⟨p, rfl⟩ := Zone.gro_of_below _ hk); clear hk) | (go_at_call 160; refine (HZ.out _).mono ?_; rintro e w' ⟨rfl, hk⟩; (first | obtain ⟨p, rfl⟩ := Zone.gro_of_gro _ _ hk | obtain ⟨p, rfl⟩ := Zone.gro_of_below _ hk); clear hk))
  rename GB => p
  have hk0 : Keep w (w.gro p) := below_gro _ _
  generalize w.gro p = w1 at hk0 ⊢
  obtain ⟨i0, hi0, i1, i2, i3⟩ := info_parts info_u64
  obtain ⟨W', hr, ho, hk⟩ := own_made1 (P := Tryz.prog) (z := (0 : Nat)) u64_f rfl Tryz.underlying207 hi0 i1 i2 3 w.heap.size w1 (by rw [i3]; omega) (by omega) hk0.size
  have hr2 : Sem.run Tryz.prog (Instr.makeSlice 207 (.int .i64 3) (.int .i64 3)) w1 = Result.ok (.slice (some ⟨w1.heap.size, 0, none⟩) 3 3) W' := hr
  rw [hr2]
  have HO := Lib.hid ho
  have HK := Lib.hid (hk0.trans hk)
  clear ho hk hr hr2 i0 hi0 i1 i2 i3 hk0
  generalize w1.heap.size = g at HO ⊢
  clear w1
  go_wp2
  go_loopw [50] (fun i wr => ∃ (k : Nat) (xs : List Nat), k ≤ 3 ∧ i = .int .i64 k ∧ Hid (xs.length = 3) ∧ Hid (Own wr w.heap.size 85 1 u64V (.slice (some ⟨g, 0, none⟩) 3 3) xs) ∧ Hid (Keep w wr)) (fun i _ => 3 - (intOf i).toNat)
  case atStart => exact ⟨0, _, Nat.zero_le _, rfl, Lib.hid (by simp), HO, HK⟩
  case round =>
    clear HO HK
    obtain ⟨k, xs, hk, rfl, HX, HO, HK⟩ := hrel
    by_cases hlt : k < 3
    · have hlt2 : (k : Int) < 3 := by omega
      go_wp2_with (go_at_call 31; refine Zone.hold ?_)
      refine Zone.unhold ?_
      refine (HG.out k hlt _ HK.out).mono ?_
      rintro e w2 ⟨rfl, hk2⟩
      generalize 5 / 2 ^ (k * 1) % 2 ^ 1 = x
      have HK2 := Lib.hid (HK.out.trans hk2)
      have ho2 := HO.out.keep hk2
      obtain ⟨c1, c2, c3, c4⟩ := ho2.cell1 u64_f HX.out.symm k (by have := HX.out; omega)
      have HO3 := Lib.hid (ho2.set1 u64_f HX.out.symm k x rfl)
      have HC := Lib.hid c4
      generalize xs[k]'(by have := HX.out; omega) = y at c1
      clear ho2 hk2 HO HK HG c0 hb c4
      go_wp2
      go_roundw
      case rel => exact ⟨k + 1, _, by omega, by go_num, Lib.hid (by rw [List.length_set]; exact HX.out), HO3, Lib.hid (HK2.out.setCell HC.out _)⟩
      case measure => simp [intOf]; omega
    · have hk3 : k = 3 := by omega
      subst hk3
      go_wp2
      go_ret2
      exact ⟨_, rfl, HK.out⟩
end Go.Proofs.YtmcaednlilhnoaaGreatDoor
