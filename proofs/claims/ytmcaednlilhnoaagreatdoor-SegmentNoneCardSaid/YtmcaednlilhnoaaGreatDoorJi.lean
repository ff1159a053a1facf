
/- crc: the table, the sum. -/
import Derived.WalkKit
import Derived.Lib.Hide
import Derived.WalkSpells
import Derived.WalkLawsBesides
import Derived.BigQuiet
import Derived.Shelf.Abstract
import Derived.Laws.Rows
import Derived.Laws.Tables
import Derived.Laws.BitsAllLaws
import Derived.Test.YtmcaednlilhnoaaGreatDoorJh
import Derived.Test.YtmcaednlilhnoaaGreatDoorJa
import Derived.Test.YtmcaednlilhnoaaGreatDoorJd
import Derived.Deep.Cut
import Derived.Deep.CutRange
import Derived.Laws.IdiomStrings
namespace Go.Proofs.YtmcaednlilhnoaaGreatDoor
open Go.RowKit Go.Zone Go.Shelf
attribute [local go_sem] Zone.zone Zone.stepZ Zone.fill Zone.lookFs Zone.goes Zone.goesUpon Zone.dropFs Zone.cell_gro Zone.frozen_gro Zone.size_gro Zone.lt_add Zone.drew_gro Zone.tape_gro Zone.keep_refl
attribute [local go_sem] Zone.lt_add2 Zone.lt_add3 Zone.lt_add4 Zone.lt_add5 Zone.lt_add6 Zone.lt_add7 Zone.lt_add8 Zone.lt_add9 Zone.lt_add10 Zone.lt_add11 Zone.lt_add12
theorem hold_none {P : Program} {ops : Array Oper} {Q : Exit → Act → World → Prop} {rest : List Oper} {a : Act} {w : World} {t : TypeId} {x y : Operand} {ty : TypeId} {pos : String} {af : Array Edge} {gd : Option (Nat × Bool)} (h : Hid (wpList P ops Q (⟨none, .store t x y, ty, pos, af, gd⟩ :: rest) a w)) : wpList P ops Q (⟨none, .store t x y, ty, pos, af, gd⟩ :: rest) a w := h
/-- one bit of a sum -/
def stepC (x : Nat) : Nat := if x % 2 = 1 then x / 2 ^^^ 3988292384 else x / 2
def stepsC : Nat → Nat → Nat
  | 0, x => x
  | k + 1, x => stepC (stepsC k x)
def tabC (i : Nat) : Nat := stepsC 8 i
def tabRow (k : Nat) : List Value := (List.range 256).map fun i => .int .u32 ((if i < k then tabC i else 0 : Nat) : Int)
theorem tabRow_len (k : Nat) : (tabRow k).length = 256 := by simp [tabRow]
theorem tabRow_get (k i : Nat) (h : i < 256) : (tabRow k)[i]? = some (.int .u32 ((if i < k then tabC i else 0 : Nat) : Int)) := by simp [tabRow, h]
theorem tabRow_set (k : Nat) (h : k < 256) : (tabRow k).set k (.int .u32 (tabC k : Int)) = tabRow (k + 1) := by
  apply List.ext_getElem?
  intro i
  rw [List.getElem?_set]
  by_cases hi : i < 256
  · rw [tabRow_get _ _ hi, tabRow_get _ _ hi, tabRow_len]
    by_cases e : k = i
    · subst e; simp [h]
    · have : (i < k + 1) = (i < k) := by simp; omega
      simp [e, this]
  · have h1 : (tabRow k)[i]? = none := by rw [List.getElem?_eq_none_iff, tabRow_len]; omega
    have h2 : (tabRow (k + 1))[i]? = none := by rw [List.getElem?_eq_none_iff, tabRow_len]; omega
    rw [h1, h2]
    split <;> simp_all
theorem zero_tab : Tryz.zeroCells285 = (tabRow 0).toArray := by kernel_rfl
theorem stepC_lt {x : Nat} (h : x < 4294967296) : stepC x < 4294967296 := by
  unfold stepC
  split
  · exact Nat.xor_lt_two_pow (n := 32) (by omega) (by decide)
  · omega
theorem stepsC_lt {x : Nat} (h : x < 4294967296) : ∀ k, stepsC k x < 4294967296
  | 0 => h
  | k + 1 => stepC_lt (stepsC_lt h k)
theorem stepC_bits {x : Nat} (h : x < 4294967296) : bits .xor .u32 ((x : Int) / 2) (bits .and .u32 3988292384 (-bits .and .u32 (x : Int) 1 % 4294967296)) = ((stepC x : Nat) : Int) := by
  have h1 := u32_and_nat x 1 h (by decide)
  rw [Nat.and_one_is_mod] at h1
  rw [show (1 : Int) = ((1 : Nat) : Int) from rfl, h1, show ((x : Int) / 2) = ((x / 2 : Nat) : Int) by omega]
  unfold stepC
  rcases (show x % 2 = 0 ∨ x % 2 = 1 by omega) with e | e
  · rw [e]
    have h2 := u32_and_nat 3988292384 0 (by decide) (by decide)
    have h3 := u32_xor_nat (x / 2) 0 (by omega) (by decide)
    simp only [Nat.and_zero] at h2
    simp only [Nat.xor_zero] at h3
    rw [show (-((0 : Nat) : Int) % 4294967296) = ((0 : Nat) : Int) by decide, show (3988292384 : Int) = ((3988292384 : Nat) : Int) from rfl, h2, h3, if_neg (by decide)]
  · rw [e]
    have h2 := u32_and_nat 3988292384 4294967295 (by decide) (by decide)
    have h3 := u32_xor_nat (x / 2) 3988292384 (by omega) (by decide)
    rw [show (3988292384 &&& 4294967295 : Nat) = 3988292384 by decide] at h2
    rw [show (-((1 : Nat) : Int) % 4294967296) = ((4294967295 : Nat) : Int) by decide, show (3988292384 : Int) = ((3988292384 : Nat) : Int) from rfl, h2, h3, if_pos rfl]
set_option maxRecDepth 100000 in
set_option maxHeartbeats 1000000 in
theorem table_any (w : World) : Calls Tryz.prog 200 #[] w fun e w' => e = .returned (.agg (tabRow 256).toArray) ∧ Keep w w' := by
  go_enter Tryz.func200, Tryz.ntmps200
  go_wp2
  rw [zero_tab]
  go_loopw [3] (fun i wr => ∃ k : Nat, k ≤ 256 ∧ i = .int .i64 k ∧ Hid (wr.heap[w.heap.size]? = some (.cells (tabRow k).toArray 285 (0, 0))) ∧ Hid (Keep w wr)) (fun i _ => 256 - (intOf i).toNat)
  case atStart => exact ⟨0, Nat.zero_le _, rfl, heap_alloc_new _ _, (by repeat (first | exact Keep.refl _ | apply Keep.alloc | apply Keep.gro | apply Keep.drew | apply Keep.drewN))⟩
  case round =>
    obtain ⟨k, hk, rfl, HR, HK⟩ := hrel
    by_cases hlt : k < 256
    · go_wp2
      go_loop [2, 8] (fun x j => ∃ m : Nat, m ≤ 8 ∧ j = .int .i64 m ∧ x = .int .u32 (stepsC m k : Nat)) (fun _ j => 8 - (intOf j).toNat)
      case atStart => exact ⟨0, Nat.zero_le _, rfl, rfl⟩
      case round =>
        obtain ⟨m, hm, rfl, rfl⟩ := hrel
        have hx := stepsC_lt (show k < 4294967296 by omega) m
        by_cases hm8 : m < 8
        · have hs : stepsC (m + 1) k = stepC (stepsC m k) := rfl
          have HS := Lib.hid hs
          clear hs
          generalize stepsC m k = x at hx HS ⊢
          go_wp2
          go_round
          case rel => exact ⟨m + 1, by omega, by go_num, by rw [stepC_bits hx, HS.out]⟩
          case measure => simp [intOf]; omega
        · have hm' : m = 8 := by omega
          subst hm'
          have hc := cell_of_row _ _ k _ _ _ HR.out
          have hf := frozen_of_row _ _ k _ _ HR.out
          rw [List.getElem?_toArray, tabRow_get _ _ hlt] at hc
          have hbl := block_lt_of_cell hc
          generalize hX : stepsC 8 k = x at hx ⊢
          have HX := Lib.hid hX
          clear hX
          go_wp2
          go_roundw
          case rel => exact ⟨k + 1, by omega, by go_num, (by
            show _ = _
            rw [heap_setCell_same _ _ _ _ _ _ HR.out, ← tabRow_set k hlt]
            simp [tabC, HX.out]), HK.out.setCell (Nat.le_refl _) _⟩
          case measure => simp [intOf]; omega
    · have hk' : k = 256 := by omega
      subst hk'
      have hbl := (Array.getElem?_eq_some_iff.1 HR.out).1
      go_wp2_with (with_reducible refine Zone.hold_at 22 ?_)
      refine Zone.unhold ?_
      refine wpList_load_row rfl 285 _ rfl w.heap.size rfl 285 (tabRow 256).toArray _ _ HR.out Tryz.underlying285 rfl (by rw [List.size_toArray, tabRow_len]; kernel_rfl) ?_
      refine wpList_store_row rfl 285 _ _ rfl w.heap.size (tabRow 256).toArray rfl rfl 285 (tabRow 256).toArray HR.out (by rw [List.size_toArray, tabRow_len]; kernel_rfl) rfl (by simp [tabRow, Value.oneCell']) ?_
      rw [setRow_self _ _ _ _ _ HR.out]
      go_wp2
      exact bodyPost_ret (v := .agg (tabRow 256).toArray) (results_cell_row rfl _ _ w.heap.size 285 (tabRow 256).toArray (0, 0) _ rfl HR.out Tryz.underlying285 rfl (by rw [List.size_toArray, tabRow_len]; kernel_rfl)) rfl ⟨rfl, HK.out⟩
theorem not32 {x : Nat} (h : x < 4294967296) : bits .xor .u32 IntKind.u32.max (x : Int) = ((4294967295 - x : Nat) : Int) := by
  have h1 := u32_xor_nat 4294967295 x (by decide) h
  rw [show IntKind.u32.max = ((4294967295 : Nat) : Int) by decide, h1]
  congr 1
  apply Nat.eq_of_testBit_eq
  intro i
  have h2 := Nat.testBit_two_pow_sub_succ (n := 32) h i
  rw [show 2 ^ 32 - (x + 1) = 4294967295 - x by omega] at h2
  rw [h2, Nat.testBit_xor, show (4294967295 : Nat) = 2 ^ 32 - 1 by decide, Nat.testBit_two_pow_sub_one]
  by_cases hi : i < 32
  · simp [hi]
  · have : x.testBit i = false := Nat.testBit_lt_two_pow (Nat.lt_of_lt_of_le (show x < 2 ^ 32 from h) (Nat.pow_le_pow_right (by decide) (show 32 ≤ i by omega)))
    simp [hi, this]
/-- what a byte does to a sum -/
def byteC (x : Nat) (b : UInt8) : Nat := x / 256 ^^^ tabC (x % 256 ^^^ b.toNat)
def sumC (x : Nat) (bs : List UInt8) : Nat := bs.foldl byteC x
theorem xor8 {a b : Nat} (ha : a < 256) (hb : b < 256) : a ^^^ b < 256 := Nat.xor_lt_two_pow (n := 8) ha hb
theorem byteC_lt {x : Nat} (h : x < 4294967296) (b : UInt8) : byteC x b < 4294967296 := by
  unfold byteC
  have := b.toNat_lt
  exact Nat.xor_lt_two_pow (n := 32) (by omega) (stepsC_lt (by have := xor8 (show x % 256 < 256 by omega) this; omega) 8)
theorem sumC_lt : ∀ (bs : List UInt8) {x : Nat}, x < 4294967296 → sumC x bs < 4294967296
  | [], _, h => h
  | b :: r, _, h => sumC_lt r (byteC_lt h b)
theorem sumC_succ (x : Nat) (bs : List UInt8) (k : Nat) (h : k < bs.length) : sumC x (bs.take (k + 1)) = byteC (sumC x (bs.take k)) bs[k] := by
  unfold sumC
  rw [List.take_succ_eq_append_getElem h, List.foldl_append]
  rfl
theorem sl_b8 {w : World} {c : Nat} {A : Option Addr} {xs : List UInt8} (h : SlB w A c xs) (i : Nat) (hi : i < xs.length) : ∃ b off, A = some ⟨b, off, none⟩ ∧ b < w.heap.size ∧ w.cell? ⟨b, off + i, none⟩ = some (.int .u8 (xs[i].toNat : Int)) := by
  obtain ⟨b, off, hA, hc⟩ := h.at_ i hi
  have h0 := hc 0 _ rfl
  exact ⟨b, off, hA, World.block_lt_of_cell? w _ h0, by simpa using h0⟩
set_option maxRecDepth 100000 in
set_option maxHeartbeats 1000000 in
theorem csum_any (A : Option Addr) (c : Nat) (bs : List UInt8) (w : World) (h : SlB w A c bs) : Calls Tryz.prog 146 #[.slice A bs.length c] w fun e w' => e = .returned (.int .u32 ((4294967295 - sumC 4294967295 bs : Nat) : Int)) ∧ Keep w w' := by
  have H := Lib.hid h
  have hl := h.len
  clear h
  go_enter Tryz.func146, Tryz.ntmps146
  go_wp2_with (first | (go_at_call 200; refine (table_any _).mono ?_; rintro e w' ⟨rfl, hk⟩; (first | obtain ⟨p, rfl⟩ := Zone.gro_of_gro _ _ hk | obtain ⟨p, rfl⟩ := Zone.gro_of_below _ hk); clear hk) | (with_reducible refine hold_none ?_))
  refine Zone.unhold ?_
  refine wpList_store_row rfl 285 _ _ rfl _ (tabRow 256).toArray rfl rfl 285 Tryz.zeroCells285 (by rw [← size_gro]; exact heap_alloc_new _ _) (by rw [List.size_toArray, tabRow_len]; kernel_rfl) (by rw [zero_tab]; simp [tabRow_len]) (by simp [tabRow, Value.oneCell']) ?_
  rw [← size_gro w p]
  have hg := setRow_heap _ _ _ (tabRow 256).toArray _ _ (heap_alloc_new (w.gro p) (.cells Tryz.zeroCells285 285))
  have hk : Keep w (((w.gro p).alloc (.cells Tryz.zeroCells285 285)).setRow (w.gro p).heap.size (tabRow 256).toArray) := by
    refine Keep.trans (Keep.gro (Keep.refl w) p) ⟨rfl, rfl, rfl, by simp, fun i hi => ?_⟩
    rw [setRow_other _ _ _ _ (by omega)]; exact heap_alloc_old _ _ hi
  generalize World.setRow _ _ (tabRow 256).toArray = w1 at hg hk ⊢
  generalize (w.gro p).heap.size = g at hg ⊢
  have HG := Lib.hid hg
  have HK := Lib.hid hk
  have hgl := (Array.getElem?_eq_some_iff.1 hg).1
  clear hg hk p
  go_wp2
  go_loop [4, 6, 10] (fun x _ j => ∃ k : Nat, k ≤ bs.length ∧ j = .int .i64 k ∧ x = .int .u32 (sumC 4294967295 (bs.take k) : Nat)) (fun _ _ j => bs.length - (intOf j).toNat)
  case atStart => exact ⟨0, Nat.zero_le _, rfl, rfl⟩
  case round =>
    obtain ⟨k, hk, rfl, rfl⟩ := hrel
    by_cases hlt : k < bs.length
    · obtain ⟨b, off, rfl, hb, h0⟩ := sl_b8 (H.out.keep HK.out) k hlt
      have HS := Lib.hid (sumC_succ 4294967295 bs k hlt)
      have hx := sumC_lt (bs.take k) (show 4294967295 < 4294967296 by decide)
      have hbl := bs[k].toNat_lt
      have hj := u8_xor_nat (sumC 4294967295 (bs.take k) % 256) bs[k].toNat (by omega) hbl
      have HJ := Lib.hid (cell_of_row _ _ (sumC 4294967295 (bs.take k) % 256 ^^^ bs[k].toNat) _ _ _ HG.out)
      have hj8 := xor8 (show sumC 4294967295 (bs.take k) % 256 < 256 by omega) hbl
      have HB := Lib.hid (show byteC (sumC 4294967295 (bs.take k)) bs[k] = sumC 4294967295 (bs.take k) / 256 ^^^ tabC (sumC 4294967295 (bs.take k) % 256 ^^^ bs[k].toNat) from rfl)
      rw [List.getElem?_toArray, tabRow_get _ _ hj8, if_pos hj8] at HJ
      have htl := stepsC_lt (show sumC 4294967295 (bs.take k) % 256 ^^^ bs[k].toNat < 4294967296 by omega) 8
      generalize sumC 4294967295 (bs.take k) = x at hx hj HJ hj8 HS HB htl ⊢
      rw [show (((x % 256 : Nat)) : Int) = (x : Int) % 256 by omega] at hj
      generalize (x % 256 ^^^ bs[k].toNat) = j at hj HJ hj8 HB htl
      have hc := HJ.out
      have hxx := u32_xor_nat (x / 256) (tabC j) (by omega) htl
      rw [show (((x / 256 : Nat)) : Int) = (x : Int) / 256 by omega] at hxx
      clear htl
      go_wp2
      go_round
      case rel => exact ⟨k + 1, by omega, by go_num, by rw [HS.out, HB.out]⟩
      case measure => simp [intOf]; omega
    · have hk' : k = bs.length := by omega
      subst hk'
      rw [List.take_length]
      have hx := sumC_lt bs (show 4294967295 < 4294967296 by decide)
      have hn := not32 hx
      obtain ⟨x, hxe⟩ : ∃ x, x = sumC 4294967295 bs := ⟨_, rfl⟩
      rw [← hxe] at hx hn ⊢
      have HE := Lib.hid hxe
      clear hxe
      go_wp2
      go_ret
      exact ⟨by rw [← HE.out]; rfl, HK.out⟩
/-- xor and a bit's step -/
theorem half_xor (a b : Nat) : (a ^^^ b) / 2 = a / 2 ^^^ b / 2 := by
  have := Nat.shiftRight_xor_distrib (a := a) (b := b) (i := 1)
  simpa [Nat.shiftRight_eq_div_pow] using this
theorem stepC_xor (a b : Nat) : stepC (a ^^^ b) = stepC a ^^^ stepC b := by
  unfold stepC
  have hp : ((a ^^^ b) % 2 = 1) ↔ ¬ (a % 2 = 1 ↔ b % 2 = 1) := by
    have h := Nat.testBit_xor (x := a) (y := b) (i := 0)
    simp only [Nat.testBit_zero] at h
    rcases (show a % 2 = 0 ∨ a % 2 = 1 by omega) with ha | ha <;> rcases (show b % 2 = 0 ∨ b % 2 = 1 by omega) with hb | hb <;> simp_all
  rw [half_xor]
  rcases (show a % 2 = 0 ∨ a % 2 = 1 by omega) with ha | ha <;> rcases (show b % 2 = 0 ∨ b % 2 = 1 by omega) with hb | hb
  · rw [if_neg (by omega), if_neg (by omega), if_neg (by omega)]
  · rw [if_pos (by omega), if_neg (by omega), if_pos (by omega), Nat.xor_assoc]
  · rw [if_pos (by omega), if_pos (by omega), if_neg (by omega), Nat.xor_assoc, Nat.xor_assoc, Nat.xor_comm (b / 2)]
  · rw [if_neg (by omega), if_pos (by omega), if_pos (by omega), Nat.xor_assoc, Nat.xor_comm 3988292384 (b / 2 ^^^ 3988292384), Nat.xor_assoc, Nat.xor_self, Nat.xor_zero]
theorem stepsC_xor (a b : Nat) : ∀ k, stepsC k (a ^^^ b) = stepsC k a ^^^ stepsC k b
  | 0 => rfl
  | k + 1 => by simp only [stepsC]; rw [stepsC_xor a b k, stepC_xor]
theorem stepsC_shift (z : Nat) : ∀ k, stepsC k (z * 2 ^ k) = z
  | 0 => by simp [stepsC]
  | k + 1 => by
    have h : ∀ k x, stepsC (k + 1) x = stepsC k (stepC x) := fun k => by
      induction k with
      | zero => intro x; rfl
      | succ k ih => intro x; show stepC (stepsC (k + 1) x) = stepC (stepsC k (stepC x)); rw [ih]
    rw [h]
    have h2 : stepC (z * 2 ^ (k + 1)) = z * 2 ^ k := by
      unfold stepC
      rw [Nat.pow_succ, ← Nat.mul_assoc, if_neg (by omega), Nat.mul_div_cancel _ (by decide)]
    rw [h2, stepsC_shift z k]
theorem low_xor (x : Nat) : x = (x / 256 * 2 ^ 8) ^^^ (x % 256) := by
  apply Nat.eq_of_testBit_eq
  intro i
  rw [Nat.testBit_xor, Nat.testBit_mul_two_pow, show 256 = 2 ^ 8 by decide, Nat.testBit_mod_two_pow, Nat.testBit_div_two_pow]
  by_cases h : i < 8
  · simp [h, show ¬ 8 ≤ i by omega]
  · simp [h, show 8 ≤ i by omega, show i - 8 + 8 = i by omega]
/-- a byte's eight steps are the table's one -/
theorem byteC_steps (x : Nat) (b : UInt8) : byteC x b = stepsC 8 (x ^^^ b.toNat) := by
  have h := stepsC_xor (x / 256 * 2 ^ 8) (x % 256 ^^^ b.toNat) 8
  rw [stepsC_shift, ← Nat.xor_assoc, ← low_xor] at h
  exact h.symm
end Go.Proofs.YtmcaednlilhnoaaGreatDoor
namespace Go.Proofs.YtmcaednlilhnoaaGreatDoor
open Go.RowKit Go.Zone Go.Shelf
attribute [local go_sem] Zone.zone Zone.stepZ Zone.fill Zone.lookFs Zone.goes Zone.goesUpon Zone.dropFs Zone.cell_gro Zone.frozen_gro Zone.size_gro Zone.lt_add Zone.drew_gro Zone.tape_gro Zone.keep_refl
attribute [local go_sem] Zone.lt_add2 Zone.lt_add3 Zone.lt_add4 Zone.lt_add5 Zone.lt_add6 Zone.lt_add7 Zone.lt_add8 Zone.lt_add9 Zone.lt_add10 Zone.lt_add11 Zone.lt_add12
theorem app16_any (A : Option Addr) (c : Nat) (xs : List UInt8) (n : Nat) (hn : n < 65536) (w : World) (h : SlB w A c xs) (hl : xs.length ≤ 140000000000000) :
    Calls Tryz.prog 59 #[.slice A xs.length c, .int .u16 n] w fun e w' => ∃ v, e = .returned v ∧ OwnB w' w.heap.size v (xs ++ le n 2) ∧ Keep w w' := by
  have HF := Lib.hid (fixed_any A c xs n 2 (by omega) (by omega) w h hl)
  clear h
  go_enter Tryz.func59, Tryz.ntmps59
  go_wp2_with (go_at_call 61; refine Zone.hold ?_)
  refine Zone.unhold ?_
  refine HF.out.mono ?_
  rintro e w1 ⟨v, rfl, hown, hk⟩
  go_wp2
  go_ret
  exact ⟨v, rfl, hown, hk⟩
theorem ownB_sl {w : World} {base : Nat} {v : Value} {xs : List UInt8} (h : OwnB w base v xs) (hl : xs.length ≤ 140737488355328) : ∃ A c, v = .slice A xs.length c ∧ SlB w A c xs := Own.sl h b8_len hl
/-- bytes of one's own, with a name for what they are -/
theorem ownB_open {w : World} {base : Nat} {v : Value} {xs : List UInt8} (h : OwnB w base v xs) (hl : xs.length ≤ 140737488355328) : ∃ L A c, v = .slice A L.length c ∧ Hid (SlB w A c L) ∧ Hid (OwnB w base (.slice A L.length c) L) ∧ Hid (L = xs) := by
  obtain ⟨A, c, rfl, hs⟩ := ownB_sl h hl
  exact ⟨xs, A, c, rfl, hs, h, rfl⟩
/-- the sum of bytes -/
def crcB (bs : List UInt8) : Nat := 4294967295 - sumC 4294967295 bs
/-- bytes, framed -/
def frameB (bs : List UInt8) : List UInt8 := le bs.length 4 ++ bs ++ le (crcB bs) 4
theorem frameB_len (bs : List UInt8) : (frameB bs).length = bs.length + 8 := by simp [frameB, le_len]; omega
set_option maxRecDepth 100000 in
set_option maxHeartbeats 1000000 in
theorem frame_any (A : Option Addr) (c : Nat) (bs : List UInt8) (w : World) (h : SlB w A c bs) (hl : bs.length ≤ 1073741824) :
    Calls Tryz.prog 85 #[.slice A bs.length c] w fun e w' => ∃ v, e = .returned v ∧ OwnB w' w.heap.size v (frameB bs) ∧ Keep w w' := by
  have H := Lib.hid h
  clear h
  go_enter Tryz.func85, Tryz.ntmps85
  go_wp2_with (go_at_call 36; refine Zone.hold ?_)
  refine Zone.unhold ?_
  refine (app32_any none 0 [] bs.length (by omega) _ (Sl.nil_ _ (by decide)) (by simp)).mono ?_
  rintro e w1 ⟨v1, rfl, hown1, hk1⟩
  have HO1 := Lib.hid hown1
  have HK1 := Lib.hid hk1
  clear hown1 hk1
  go_wp2_with (at_builtin; refine Zone.hold ?_)
  refine Zone.unhold ?_
  refine wpList_app elt_u8 b8_len b8_one rfl (.tmp 9) (.tmp 10) rfl (ys := bs) HO1.out rfl rfl (H.out.keep HK1.out) (by simp [le_len]; omega) HK1.out.size ?_
  intro v2 w2 hown2 hg2 _
  have ⟨a1, a2, _⟩ := HO1.out.after (w := w) hg2 HK1.out (Nat.le_refl _)
  have HO2 := Lib.hid hown2
  have HA1 := Lib.hid a1
  clear hown2 hg2 a1 a2 HO1
  go_wp2_with (go_at_call 146; refine Zone.hold ?_)
  refine Zone.unhold ?_
  refine (csum_any A c bs _ (H.out.keep HA1.out)).mono ?_
  rintro e w3 ⟨rfl, hk3⟩
  have HO3 := Lib.hid (HO2.out.keep hk3)
  have HK3 := Lib.hid (HA1.out.trans hk3)
  clear hk3 HO2 HA1
  obtain ⟨L, A3, c3, rfl, HS3, HO4, HL⟩ := ownB_open HO3.out (by simp [le_len]; omega)
  have hlt : 4294967295 - sumC 4294967295 bs < 4294967296 := by omega
  have hll : L.length ≤ 1073741828 := by rw [HL.out]; simp [le_len]; omega
  clear HO3
  go_wp2_with (go_at_call 36; refine Zone.hold ?_)
  refine Zone.unhold ?_
  refine (app32_any A3 c3 L (crcB bs) hlt _ HS3.out (by omega)).mono ?_
  rintro e w4 ⟨v4, rfl, hown4, hk4⟩
  have HO5 := Lib.hid hown4
  have HK5 := Lib.hid (HK3.out.trans hk4)
  have HZ := Lib.hid HK3.out.size
  clear hown4 hk4
  go_wp2
  go_ret
  exact ⟨_, rfl, (by have := HO5.out.base_mono HZ.out; rw [HL.out] at this; exact this), HK5.out⟩
end Go.Proofs.YtmcaednlilhnoaaGreatDoor
namespace Go.Proofs.YtmcaednlilhnoaaGreatDoor
open Go.RowKit Go.Zone Go.Shelf
attribute [local go_sem] Zone.zone Zone.stepZ Zone.fill Zone.lookFs Zone.goes Zone.goesUpon Zone.dropFs Zone.cell_gro Zone.frozen_gro Zone.size_gro Zone.lt_add Zone.drew_gro Zone.tape_gro Zone.keep_refl
attribute [local go_sem] Zone.lt_add2 Zone.lt_add3 Zone.lt_add4 Zone.lt_add5 Zone.lt_add6 Zone.lt_add7 Zone.lt_add8 Zone.lt_add9 Zone.lt_add10 Zone.lt_add11 Zone.lt_add12
end Go.Proofs.YtmcaednlilhnoaaGreatDoor
namespace Go.Proofs.YtmcaednlilhnoaaGreatDoor
open Go.RowKit Go.Zone Go.Shelf
attribute [local go_sem] Zone.zone Zone.stepZ Zone.fill Zone.lookFs Zone.goes Zone.goesUpon Zone.dropFs Zone.cell_gro Zone.frozen_gro Zone.size_gro Zone.lt_add Zone.drew_gro Zone.tape_gro Zone.keep_refl
attribute [local go_sem] Zone.lt_add2 Zone.lt_add3 Zone.lt_add4 Zone.lt_add5 Zone.lt_add6 Zone.lt_add7 Zone.lt_add8 Zone.lt_add9 Zone.lt_add10 Zone.lt_add11 Zone.lt_add12
theorem slB_drop {w : World} {b off c : Nat} {B : List UInt8} (h : SlB w (some ⟨b, off, none⟩) c B) (p : Nat) (hp : p ≤ B.length) : SlB w (some ⟨b, off + p, none⟩) (c - p) (B.drop p) := by
  have hc := h.cap
  have hb := h.big
  have hl := h.len
  refine ⟨by simp; omega, by omega, by simp; omega, fun i hi => ?_⟩
  simp only [List.length_drop] at hi
  obtain ⟨b', off', hA, hcell⟩ := h.at_ (p + i) (by omega)
  cases hA
  refine ⟨b, off + p, rfl, fun j u hu => ?_⟩
  have := hcell j u (by rw [List.getElem_drop] at hu; exact hu)
  rw [show off + p + i * 1 + j = off + (p + i) * 1 + j by omega]
  exact this
theorem strB {w : World} {A : Option Addr} {c : Nat} {l : List UInt8} (h : SlB w A c l) : (convert 74 9 (.slice A l.length c)).run Tryz.prog w = .ok (.string ⟨l.toArray⟩) w := by
  cases A with
  | none =>
    have hx : l = [] := by
      rcases l with _ | ⟨y, r⟩
      · rfl
      · obtain ⟨_, _, hA, _⟩ := h.at_ 0 (by simp)
        cases hA
    subst hx
    rw [run_convert_bytes_string w 74 9 5 none _ c Tryz.underlying74 Tryz.underlying5 Tryz.underlying9]
    rfl
  | some a =>
    refine run_convert_bytes_back w 74 9 5 a c l Tryz.underlying74 Tryz.underlying5 Tryz.underlying9 fun j hj => ?_
    obtain ⟨b, off, hA, _, hc⟩ := sl_b8 h j hj
    injection hA with hA
    subst hA
    unfold Addr.add
    split
    · rename_i h0; subst h0; exact hc
    · exact hc
theorem le4_get (n : Nat) (h : n < 4294967296) : ((le n 4)[0]'(by simp [le_len])).toNat + 256 * ((le n 4)[1]'(by simp [le_len])).toNat + 65536 * ((le n 4)[2]'(by simp [le_len])).toNat + 16777216 * ((le n 4)[3]'(by simp [le_len])).toNat = n := by
  simp [le, UInt8.toNat_ofNat]
  omega
end Go.Proofs.YtmcaednlilhnoaaGreatDoor
