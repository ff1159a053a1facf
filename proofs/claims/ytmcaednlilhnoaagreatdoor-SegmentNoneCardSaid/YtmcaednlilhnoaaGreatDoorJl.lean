/-
  DERIVED: THE SHELF's CONTRACTS AT THIS DUMP, IN PLAIN WORDS (tools/lay-plain.mjs out of 'TryShelf.lean', which tools/lay-shelf.mjs wrote): THE SAME DECLARATIONS UNDER THE SAME NAMES: 'import', 'namespace', 'open', 'def', 'theorem' AND NOTHING ELSE: no command of the shelf's: FOR A HAND-IN. Each laying: the table of numbers ('.._ren') and one theorem, a field a fact of the dump's own or the kernel's comparison; each contract: ONE APPLICATION.
-/
import Derived.Shelf.SlGeneric
import Derived.Shelf.Strconv.Itoa0
import Derived.Ground.NamesProg
import Derived.Test.YtmcaednlilhnoaaGreatDoorProg
import Derived.WalkKit
import Derived.Lib.Hide
import Derived.WalkSpells
import Derived.WalkLawsBesides
import Derived.BigQuiet
import Derived.Shelf.Abstract
import Derived.Lib.BitFns
import Derived.Laws.BitsAllLaws
import Derived.Test.YtmcaednlilhnoaaGreatDoorJh
namespace Go.Proofs
open Go.Shelf
def Tryz.lenL_ren : Go.Shelf.Ren := ⟨fun | 129 => 181 | n => n, fun | 53 => 85 | 3 => 3 | 4 => 4 | 46 => 159 | 5 => 5 | 9 => 9 | n => n, fun | n => n⟩
theorem Tryz.lenL : Go.Proofs.Lays.n129 Tryz.prog Tryz.lenL_ren := {
  mixed := by kernel_rfl
  f129 := Tryz.func181.trans (congrArg some (by kernel_rfl))
  t3 := Tryz.underlying3
  a3 := Tryz.isAgg3
  z3 := Tryz.sizeOf3
  v3 := Tryz.zeroValue3
  t4 := Tryz.underlying4
  a4 := Tryz.isAgg4
  z4 := Tryz.sizeOf4
  v4 := Tryz.zeroValue4
  t5 := Tryz.underlying5
  a5 := Tryz.isAgg5
  z5 := Tryz.sizeOf5
  v5 := Tryz.zeroValue5
  t9 := Tryz.underlying9
  a9 := Tryz.isAgg9
  z9 := Tryz.sizeOf9
  v9 := Tryz.zeroValue9
  t46 := Tryz.underlying159
  a46 := Tryz.isAgg159
  z46 := Tryz.sizeOf159
  v46 := Tryz.zeroValue159
  t53 := Tryz.underlying85
  a53 := Tryz.isAgg85
  z53 := Tryz.sizeOf85
  v53 := Tryz.zeroValue85 }
end Go.Proofs
namespace Go.Proofs.YtmcaednlilhnoaaGreatDoor
open Go.RowKit Go.Zone Go.Shelf
attribute [local go_sem] Zone.zone Zone.stepZ Zone.fill Zone.lookFs Zone.goes Zone.goesUpon Zone.dropFs Zone.cell_gro Zone.frozen_gro Zone.size_gro Zone.lt_add Zone.drew_gro Zone.tape_gro Zone.keep_refl
attribute [local go_sem] Zone.lt_add2 Zone.lt_add3 Zone.lt_add4 Zone.lt_add5 Zone.lt_add6 Zone.lt_add7 Zone.lt_add8 Zone.lt_add9 Zone.lt_add10 Zone.lt_add11 Zone.lt_add12
theorem bitLen_le : ∀ (w n : Nat), n < 2 ^ 64 → (Lib.bitLen n ≤ w ↔ n < 2 ^ w)
  | 0, n, _ => by
    rcases Nat.eq_zero_or_pos n with h | h
    · subst h; simp; decide
    · rw [Lib.bitLen_half n (by omega) (by assumption)]
      simp
      omega
  | w + 1, n, hn => by
    rcases Nat.eq_zero_or_pos n with h | h
    · subst h
      exact ⟨fun _ => Nat.two_pow_pos _, fun _ => by rw [show Lib.bitLen 0 = 0 by decide]; exact Nat.zero_le _⟩
    · rw [Lib.bitLen_half n (by omega) hn, Nat.pow_succ]
      have := bitLen_le w (n / 2) (by omega)
      omega
theorem len64_any (n : Nat) (hn : n < 2 ^ 64) (w : World) : Calls Tryz.prog 181 #[.int .u64 (n : Int)] w fun e w' => e = .returned (.int .i64 (Lib.bitLen n : Nat)) ∧ w' = w := by
  have := Any.bits_Len64 Tryz.lenL (n : Int) w (by omega) (by omega)
  rw [Int.toNat_natCast] at this
  exact this
theorem len64_keep (n : Nat) (hn : n < 2 ^ 64) (w : World) : Calls Tryz.prog 181 #[.int .u64 (n : Int)] w fun e w' => e = .returned (.int .i64 (Lib.bitLen n : Nat)) ∧ Keep w w' :=
  (len64_any n hn w).mono fun _ _ ⟨h1, h2⟩ => ⟨h1, h2 ▸ Keep.refl _⟩
def widthN (n : Nat) : Nat := max 1 (Lib.bitLen n)
theorem width_any (n : Nat) (hn : n < 2 ^ 64) (w : World) : Calls Tryz.prog 180 #[.int .u64 (n : Int)] w fun e w' => e = .returned (.int .i64 (widthN n : Nat)) ∧ Keep w w' := by
  have HL := Lib.hid (len64_keep n hn)
  go_enter Tryz.func180, Tryz.ntmps180
  go_wp2_with (go_at_call 181; refine (HL.out _).mono ?_; rintro e w' ⟨rfl, hk⟩; (first | obtain ⟨p, rfl⟩ := Zone.gro_of_gro _ _ hk | obtain ⟨p, rfl⟩ := Zone.gro_of_below _ hk); clear hk)
  go_ret
  exact ⟨ret_int (by unfold widthN; omega), (by repeat (first | exact Keep.refl _ | apply Keep.alloc | apply Keep.gro | apply Keep.drew | apply Keep.drewN))⟩
theorem fits_pk (n wd : Nat) (h : n ≤ 1099511627776) (h1 : 1 ≤ wd) (h2 : wd ≤ 64) (w : World) : Calls Tryz.prog 52 #[.int .i64 n, .int .i64 wd] w fun e w' => e = .returned (.bool true) ∧ Keep w w' := by
  have hd1 : decide ((0 : Int) ≤ (n : Int)) = true := by simp
  have hd2 : decide ((n : Int) ≤ 1099511627776) = true := by simp; omega
  have hd3 : decide ((1 : Int) ≤ (wd : Int)) = true := by simp; omega
  have hd4 : decide ((wd : Int) ≤ 64) = true := by simp; omega
  go_enter Tryz.func52, Tryz.ntmps52
  go_wp2
  all_goals go_ret
  all_goals exact ⟨by simp_all, (by repeat (first | exact Keep.refl _ | apply Keep.alloc | apply Keep.gro | apply Keep.drew | apply Keep.drewN))⟩
theorem size_pk (n wd : Nat) (h : n ≤ 1099511627776) (h1 : 1 ≤ wd) (h2 : wd ≤ 64) (w : World) : Calls Tryz.prog 160 #[.int .i64 n, .int .i64 wd] w fun e w' => e = .returned (.int .i64 ((n * wd + 7) / 8 : Nat)) ∧ Keep w w' := by
  have HF := Lib.hid (fits_pk n wd h h1 h2)
  have hm : n * wd ≤ n * 64 := Nat.mul_le_mul_left _ h2
  have hm2 : n * wd ≤ 70368744177664 := by omega
  have HI := Lib.hid (show ((n * wd + 7) / 8 : Nat) = ((n : Int) * (wd : Int) + 7) / 8 by
    rw [← Int.natCast_mul]; omega)
  have hp : 0 ≤ (n : Int) * (wd : Int) ∧ (n : Int) * (wd : Int) ≤ 70368744177664 := by rw [← Int.natCast_mul]; omega
  obtain ⟨hp1, hp2⟩ := hp
  generalize hx : (n : Int) * (wd : Int) = x at hp1 hp2 HI
  clear hm hm2
  have hw1 : IntKind.i64.wrap x = x := by rw [IntKind.wrap_i64]; omega
  go_enter Tryz.func160, Tryz.ntmps160
  go_wp2_with (go_at_call 52; refine (HF.out _).mono ?_; rintro e w' ⟨rfl, hk⟩; (first | obtain ⟨p, rfl⟩ := Zone.gro_of_gro _ _ hk | obtain ⟨p, rfl⟩ := Zone.gro_of_below _ hk); clear hk)
  all_goals go_ret
  all_goals exact ⟨ret_int (by rw [HI.out]), (by repeat (first | exact Keep.refl _ | apply Keep.alloc | apply Keep.gro | apply Keep.drew | apply Keep.drewN))⟩
def u64V (x : Nat) : List Value := [.int .u64 (x : Int)]
theorem sl_u64 {w : World} {c : Nat} {A : Option Addr} {xs : List Nat} (h : Sl w 1 u64V A c xs) (i : Nat) (hi : i < xs.length) : ∃ b off, A = some ⟨b, off, none⟩ ∧ b < w.heap.size ∧ w.cell? ⟨b, off + i, none⟩ = some (.int .u64 (xs[i] : Int)) := by
  obtain ⟨b, off, hA, hc⟩ := h.at_ i hi
  have h0 := hc 0 _ rfl
  rw [Nat.mul_one, Nat.add_zero] at h0
  exact ⟨b, off, hA, World.block_lt_of_cell? w _ h0, h0⟩
theorem b8_f (x : UInt8) : b8 x = [.int .u8 (x.toNat : Int)] := rfl
theorem u8_cast (n : Nat) (h : n < 256) : ((UInt8.ofNat n).toNat : Int) = (n : Int) := by rw [u8_nat]; omega
theorem pk_bits (x m t : Nat) (y : UInt8) (hx : x < 2 ^ 64) (ht : t < 8) : bits .or .u8 (y.toNat : Int) (bits .and .u64 ((x : Int) / 2 ^ m) 1 % 256 * 2 ^ t % 256) = ((UInt8.ofNat (y.toNat ||| (x / 2 ^ m % 2 * 2 ^ t))).toNat : Int) := by
  have e1 : (x : Int) / 2 ^ m = ((x / 2 ^ m : Nat) : Int) := by simp
  have hd : x / 2 ^ m < 2 ^ 64 := Nat.lt_of_le_of_lt (Nat.div_le_self _ _) hx
  have e2 := u64_and_nat (x / 2 ^ m) 1 hd (by decide)
  rw [Nat.and_one_is_mod] at e2
  rw [e1, show (1 : Int) = ((1 : Nat) : Int) from rfl, e2]
  generalize hb : x / 2 ^ m % 2 = b
  have hb2 : b ≤ 1 := by omega
  have ht2 : 2 ^ t ≤ 2 ^ 7 := Nat.pow_le_pow_right (by decide) (by omega)
  have e3 : (b : Int) % 256 * 2 ^ t % 256 = ((b * 2 ^ t : Nat) : Int) := by
    have : b * 2 ^ t ≤ 1 * 2 ^ t := Nat.mul_le_mul_right _ hb2
    have e4 : (b : Int) % 256 = (b : Int) := by omega
    rw [e4, show (2 : Int) ^ t = ((2 ^ t : Nat) : Int) by simp, ← Int.natCast_mul]
    omega
  have hbt : b * 2 ^ t < 256 := by
    have : b * 2 ^ t ≤ 1 * 2 ^ t := Nat.mul_le_mul_right _ hb2
    omega
  rw [e3, u8_or_nat _ _ y.toNat_lt hbt, u8_cast]
  exact Nat.or_lt_two_pow (n := 8) y.toNat_lt hbt
set_option maxRecDepth 100000 in
set_option maxHeartbeats 2000000 in
theorem pack_any (A : Option Addr) (c wd : Nat) (l : List Nat) (w : World) (h : Sl w 1 u64V A c l) (h1 : 1 ≤ wd) (h2 : wd ≤ 64) (hl : l.length ≤ 1000000000) (hb : ∀ x ∈ l, x < 2 ^ wd) :
    Calls Tryz.prog 127 #[.slice A l.length c, .int .i64 wd] w fun e w' => ∃ v, e = .returned (.tuple #[v, .int .i64 0]) ∧ OwnB w' w.heap.size v (packB l wd) ∧ Keep w w' := by
  have HF := Lib.hid (fits_pk l.length wd (by omega) h1 h2)
  have HZ := Lib.hid (size_pk l.length wd (by omega) h1 h2)
  have HL := Lib.hid (fun n hn => len64_keep n hn)
  have HB := Lib.hid hb
  have hpos : 2 ^ wd ≤ 2 ^ 64 := Nat.pow_le_pow_right (by decide) h2
  have HP := Lib.hid hpos
  have H := Lib.hid h
  have hmul : l.length * wd ≤ 1000000000 * 64 := Nat.mul_le_mul hl h2
  have HLN := Lib.hid hmul
  clear h hb hpos hmul
  generalize hn : (l.length * wd + 7) / 8 = n at HZ
  have HN := Lib.hid hn
  clear hn
  go_enter Tryz.func127, Tryz.ntmps127
  go_wp2_with (first | (go_at_call 52; refine (HF.out _).mono ?_; rintro e w' ⟨rfl, hk⟩; (first | obtain ⟨p, rfl⟩ := Zone.gro_of_gro _ _ hk | obtain ⟨p, rfl⟩ := Zone.gro_of_below _ hk); clear hk) | (go_at_call 160; refine (HZ.out _).mono ?_; rintro e w' ⟨rfl, hk⟩; (first | obtain ⟨p, rfl⟩ := Zone.gro_of_gro _ _ hk | obtain ⟨p, rfl⟩ := Zone.gro_of_below _ hk); clear hk))
  rename GB => p
  have hk0 : Keep w (w.gro p) := below_gro _ _
  generalize w.gro p = w1 at hk0 ⊢
  obtain ⟨i0, hi0, i1, i2, i3⟩ := info_parts info_u8
  obtain ⟨W', hr, ho, hk⟩ := own_made1 (P := Tryz.prog) (z := (0 : UInt8)) b8_f rfl Tryz.underlying74 hi0 i1 i2 n w.heap.size w1 (by have := HN.out; have := HLN.out; rw [i3]; omega) (by have := HN.out; have := HLN.out; omega) hk0.size
  rw [hr]
  have HO := Lib.hid ho
  have HK := Lib.hid (hk0.trans hk)
  clear ho hk hr i0 hi0 i1 i2 i3 hk0
  generalize w1.heap.size = g at HO ⊢
  clear w1
  have e0 : List.replicate n (0 : UInt8) = le (numL wd l % 2 ^ (0 * wd)) n := by
    rw [Nat.zero_mul, Nat.pow_zero, Nat.mod_one]
    apply List.ext_getElem
    · simp [le_len]
    · intro j h1 h2
      rw [le_get]
      simp
  rw [e0] at HO
  clear e0
  go_wp2
  go_loopw [23] (fun i wr => ∃ k : Nat, k ≤ l.length ∧ i = .int .i64 k ∧ Hid (OwnB wr w.heap.size (.slice (some ⟨g, 0, none⟩) n n) (le (numL wd l % 2 ^ (k * wd)) n)) ∧ Hid (Keep w wr)) (fun i _ => l.length - (intOf i).toNat)
  case atStart => exact ⟨0, Nat.zero_le _, rfl, HO.out, HK.out⟩
  case round =>
    clear HO HK
    obtain ⟨k, hk, rfl, HO, HK⟩ := hrel
    by_cases hlt : k < l.length
    · obtain ⟨b, off, hA, hb, h0⟩ := sl_u64 (H.out.keep HK.out) k hlt
      have hx := HB.out l[k] (List.getElem_mem hlt)
      have hx64 : l[k] < 18446744073709551616 := Nat.lt_of_lt_of_le hx HP.out
      have hbl : (Lib.bitLen l[k] : Int) ≤ wd := by have := (bitLen_le wd l[k] hx64).2 hx; omega
      have HC := Lib.hid (fun W => len64_keep l[k] hx64 W)
      subst hA
      go_wp2_with (go_at_call 181; refine (HC.out _).mono ?_; rintro e w' ⟨rfl, hk⟩; (first | obtain ⟨p, rfl⟩ := Zone.gro_of_gro _ _ hk | obtain ⟨p, rfl⟩ := Zone.gro_of_below _ hk); clear hk)
      have HK2 := Lib.hid (show Keep w (wr.gro p) from HK.out.trans (below_gro _ _))
      have HO2 := Lib.hid (HO.out.keep (below_gro wr p))
      generalize wr.gro p = w2 at HK2 HO2 ⊢
      clear HO HK H HC h0 hb hbl
      have HX := Lib.hid (numL_bit l k · hlt HB.out ·)
      have hkw : k * wd + wd ≤ l.length * wd := by rw [← Nat.succ_mul]; exact Nat.mul_le_mul_right _ hlt
      obtain ⟨Q, hQ⟩ : ∃ Q, Q = k * wd := ⟨_, rfl⟩
      have HQ := Lib.hid hQ
      have hQw : (k : Int) * (wd : Int) = (Q : Int) := by rw [hQ, Int.natCast_mul]
      rw [← hQ] at HO2 hkw
      have HKW := Lib.hid hkw
      clear hQ hkw
      generalize l[k] = x at hx hx64 HX
      go_loopw [33] (fun i wr => ∃ m : Nat, m ≤ wd ∧ i = .int .i64 m ∧ Hid (OwnB wr w.heap.size (.slice (some ⟨g, 0, none⟩) n n) (le (numL wd l % 2 ^ (Q + m)) n)) ∧ Hid (Keep w wr)) (fun i _ => wd - (intOf i).toNat)
      case atStart => exact ⟨0, Nat.zero_le _, rfl, HO2.out, HK2.out⟩
      case round =>
        clear HO2 HK2
        obtain ⟨m, hm, rfl, HO, HK⟩ := hrel
        by_cases hmt : m < wd
        · obtain ⟨q, hq⟩ : ∃ q, q = Q + m := ⟨_, rfl⟩
          have hq2 : (Q : Int) + (m : Int) = (q : Int) := by omega
          obtain ⟨j, hj⟩ : ∃ j, j = q / 8 := ⟨_, rfl⟩
          obtain ⟨t, ht⟩ : ∃ t, t = q % 8 := ⟨_, rfl⟩
          have hj2 : (q : Int) / 8 = (j : Int) := by omega
          have ht2 : (q : Int) % 8 = (t : Int) := by omega
          have hjn : j < n := by have := HN.out; have := HKW.out; omega
          have hbig : q ≤ 100000000000 := by have := HLN.out; have := HKW.out; omega
          rw [← hq] at HO
          have HQQ := Lib.hid hq
          have HJ := Lib.hid hj
          have HT := Lib.hid ht
          have htlt : t < 8 := by omega
          obtain ⟨c0, c1, c2, c3⟩ := HO.out.cell1 b8_f (by rw [le_len]) j (by rw [le_len]; exact hjn)
          obtain ⟨y, hy⟩ : ∃ y, y = (le (numL wd l % 2 ^ q) n)[j]'(by rw [le_len]; exact hjn) := ⟨_, rfl⟩
          rw [← hy] at c0
          have HY := Lib.hid hy
          clear hy
          clear hq hj ht
          go_wp2
          go_region
          have hset : (le (numL wd l % 2 ^ q) n).set j (UInt8.ofNat (y.toNat ||| (x / 2 ^ m % 2 * 2 ^ t))) = le (numL wd l % 2 ^ (q + 1)) n := by
            rw [le_more _ _ _ (show q / 8 < n by rw [← HJ.out]; exact hjn), ← HJ.out, ← HT.out]
            congr 2
            have hxb := HX.out m hmt
            rw [← HQ.out, ← HQQ.out] at hxb
            rw [hxb]
            congr 1
            rw [HY.out, le_get]
            simp
          have HO3 := HO.out.set1 b8_f (by rw [le_len]) j (UInt8.ofNat (y.toNat ||| (x / 2 ^ m % 2 * 2 ^ t))) (u := .int .u8 (bits .or .u8 (y.toNat : Int) (bits .and .u64 ((x : Int) / 2 ^ m) 1 % 256 * 2 ^ t % 256))) (by rw [pk_bits x m t y hx64 htlt])
          rw [hset] at HO3
          have HO4 := Lib.hid HO3
          have HC3 := Lib.hid c3
          clear HO3 hset c0 c1 c2 c3
          go_wp2
          go_roundw
          case rel => exact ⟨m + 1, by omega, by go_num, (by have := HO4.out; rw [HQQ.out] at this; exact this), (HK.out.setCell HC3.out _).drew⟩
          case measure => simp [intOf]; omega
        · have hmw : m = wd := by omega
          subst hmw
          go_wp2
          go_roundw
          case rel => exact ⟨k + 1, by omega, by go_num, (by have := HO.out; rw [HQ.out, ← Nat.succ_mul] at this; exact this), HK.out⟩
          case measure => simp [intOf]; omega
    · have hkl : k = l.length := by omega
      subst hkl
      have hN := HN.out
      have hq : numL wd l % 2 ^ (l.length * wd) = numL wd l := Nat.mod_eq_of_lt (numL_lt l HB.out)
      rw [hq] at HO
      clear hq hN
      go_wp2
      exact bodyPost_ret (v := .tuple #[.slice (some ⟨g, 0, none⟩) n n, .int .i64 0]) (by simp [results, Tryz.results127, go_sem]) rfl ⟨_, rfl, (by have := HO.out; rw [← HN.out] at this ⊢; exact this), HK.out⟩
end Go.Proofs.YtmcaednlilhnoaaGreatDoor
