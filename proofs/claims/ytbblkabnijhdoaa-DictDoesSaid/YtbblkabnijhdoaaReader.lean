
/- Contracts of the cursor's Reader: New, Bad, At, Left, some, number, U8, U32, U64, Bytes. -/
import Derived.WalkKit
import Derived.Lib.Hide
import Derived.WalkSpells
import Derived.WalkLawsBesides
import Derived.BigQuiet
import Derived.Shelf.Abstract
import Derived.Test.YtbblkabnijhdoaaBytes
import Derived.Test.YtbblkabnijhdoaaZoneF
namespace Go.Proofs.Ytbblkabnijhdoaa
open Go.RowKit Go.Zone Go.Shelf
attribute [local go_sem] Zone.zone Zone.stepZ Zone.fill Zone.lookFs Zone.goes Zone.goesUpon Zone.dropFs Zone.cell_gro Zone.frozen_gro Zone.size_gro Zone.lt_add Zone.drew_gro Zone.tape_gro Zone.keep_refl
theorem grownBy_set (W : World) (a : Addr) (v : Value) : W.grownBy (W.setCell a v) (some a.block) :=
  ⟨rfl, rfl, rfl, by simp, fun k _ hk => by simp only [World.setCell, Array.getElem?_modify]; rw [if_neg (fun e => hk (by rw [e]))]⟩
/-- A reader: its block, its bytes, its place, whether it is bad. -/
structure Rd (w : World) (R : Nat) (A : Option Addr) (c : Nat) (bs : List UInt8) (at_ : Nat) (bad : Bool) : Prop where
  b : w.cell? ⟨R, 0, none⟩ = some (.slice A bs.length c)
  p : w.cell? ⟨R, 1, none⟩ = some (.int .i64 at_)
  d : w.cell? ⟨R, 2, none⟩ = some (.bool bad)
  f1 : w.frozen? ⟨R, 1, none⟩ = false
  f2 : w.frozen? ⟨R, 2, none⟩ = false
  sl : SlB w A c bs
  ne : ∀ g off, A = some ⟨g, off, none⟩ → g ≠ R
  le : at_ ≤ bs.length
  nz : A = none → c = 0
section
variable {w w' : World} {R c at_ : Nat} {A : Option Addr} {bs : List UInt8} {bad : Bool}
theorem Rd.lt (h : Rd w R A c bs at_ bad) : R < w.heap.size := World.block_lt_of_cell? w _ h.b
theorem Rd.keep (h : Rd w R A c bs at_ bad) (hk : Keep w w') : Rd w' R A c bs at_ bad :=
  ⟨(hk.cell (p := ⟨R, 0, none⟩) h.lt).trans h.b, (hk.cell (p := ⟨R, 1, none⟩) h.lt).trans h.p, (hk.cell (p := ⟨R, 2, none⟩) h.lt).trans h.d, (hk.frozen (p := ⟨R, 1, none⟩) h.lt).trans h.f1, (hk.frozen (p := ⟨R, 2, none⟩) h.lt).trans h.f2, h.sl.keep hk, h.ne, h.le, h.nz⟩
theorem Rd.sl_set (h : Rd w R A c bs at_ bad) (j : Nat) (v : Value) : SlB (w.setCell ⟨R, j, none⟩ v) A c bs :=
  ⟨h.sl.cap, h.sl.big, h.sl.len, fun i hi => by
    obtain ⟨b, off, hA, hc⟩ := h.sl.at_ i hi
    exact ⟨b, off, hA, fun k u hu => by rw [World.cell?_setCell_other _ _ _ _ (by intro e; injection e with e1 _; exact h.ne b off hA e1.symm)]; exact hc k u hu⟩⟩
theorem Rd.set1 (h : Rd w R A c bs at_ bad) (n : Nat) (hn : n ≤ bs.length) : Rd (w.setCell ⟨R, 1, none⟩ (.int .i64 n)) R A c bs n bad :=
  ⟨by rw [World.cell?_setCell_other _ _ _ _ (by simp)]; exact h.b, World.cell?_setCell_same _ _ _ h.p, by rw [World.cell?_setCell_other _ _ _ _ (by simp)]; exact h.d, by rw [World.frozen?_setCell]; exact h.f1, by rw [World.frozen?_setCell]; exact h.f2, h.sl_set 1 _, h.ne, hn, h.nz⟩
theorem Rd.set2 (h : Rd w R A c bs at_ bad) (x : Bool) : Rd (w.setCell ⟨R, 2, none⟩ (.bool x)) R A c bs at_ x :=
  ⟨by rw [World.cell?_setCell_other _ _ _ _ (by simp)]; exact h.b, by rw [World.cell?_setCell_other _ _ _ _ (by simp)]; exact h.p, World.cell?_setCell_same _ _ _ h.d, by rw [World.frozen?_setCell]; exact h.f1, by rw [World.frozen?_setCell]; exact h.f2, h.sl_set 2 _, h.ne, h.le, h.nz⟩
theorem bad_any (w : World) (h : Rd w R A c bs at_ bad) : Calls Try.prog 48 #[.pointer (some ⟨R, 0, none⟩)] w fun e w' => e = .returned (.bool bad) ∧ w = w' := by
  have h2 := h.d
  clear h
  go_enter Try.func48, Try.ntmps48
  go_wp2
  go_ret
  exact ⟨rfl, rfl⟩
theorem at_any (w : World) (h : Rd w R A c bs at_ bad) : Calls Try.prog 50 #[.pointer (some ⟨R, 0, none⟩)] w fun e w' => e = .returned (.int .i64 at_) ∧ w = w' := by
  have h2 := h.p
  clear h
  go_enter Try.func50, Try.ntmps50
  go_wp2
  go_ret
  exact ⟨rfl, rfl⟩
def leftR (bs : List UInt8) (at_ : Nat) (bad : Bool) : Nat := if bad then 0 else bs.length - at_
theorem left_any (w : World) (h : Rd w R A c bs at_ bad) : Calls Try.prog 53 #[.pointer (some ⟨R, 0, none⟩)] w fun e w' => e = .returned (.int .i64 (leftR bs at_ bad)) ∧ Keep w w' := by
  have HB := Lib.hid (bad_any w h)
  have h0 := h.b
  have h1 := h.p
  have hl := h.le
  have hn := h.sl.len
  have hR := h.lt
  clear h
  cases bad
  · have hw : IntKind.i64.wrap ((bs.length : Int) - (at_ : Int)) = ((leftR bs at_ false : Nat) : Int) := by rw [IntWalk.i64_in _ ⟨by omega, by omega⟩]; simp [leftR]; omega
    go_enter Try.func53, Try.ntmps53
    go_wp2_with (go_at_call 48; refine (HB.out).mono ?_; rintro e w' ⟨rfl, rfl⟩)
    first | refine Zone.wp_region_all_gro (by kernel_rfl) (by kernel_rfl) ?_ | refine Zone.wp_region_all (by kernel_rfl) (by kernel_rfl) ?_
    repeat
      refine Zone.wpZ_step (fun K hK => ?_)
      go_simp
      first
      | (refine hK _ _ ?_; clear hK K)
      | (apply Exists.intro
         refine ⟨fun p => ?_, hK _ _ ?_⟩
         (fail)
         clear hK K)
    refine Zone.wpZ_nil ?_
    intro p
    simp only [Zone.fill]
    go_wp2
    go_ret
    exact ⟨rfl, (by repeat (first | exact Keep.refl _ | apply Keep.alloc | apply Keep.gro | apply Keep.drew | apply Keep.drewN))⟩
  · go_enter Try.func53, Try.ntmps53
    go_wp2_with (go_at_call 48; refine (HB.out).mono ?_; rintro e w' ⟨rfl, rfl⟩)
    go_ret
    exact ⟨rfl, (by repeat (first | exact Keep.refl _ | apply Keep.alloc | apply Keep.gro | apply Keep.drew | apply Keep.drewN))⟩
theorem sub_sl {w : World} {ad : Addr} {c : Nat} {bs : List UInt8} (h : SlB w (some ad) c bs) (a n : Nat) (hn : a + n ≤ bs.length) : SlB w (if c = a then some ad else some (ad.add a)) (c - a) ((bs.drop a).take n) := by
  have hc := h.cap
  have hb := h.big
  have hl := h.len
  refine ⟨by simp; omega, by omega, by simp; omega, fun i hi => ?_⟩
  have hi' : a + i < bs.length := by simp at hi; omega
  obtain ⟨b, off, hA, hcell⟩ := h.at_ (a + i) hi'
  injection hA with hA
  subst hA
  rw [if_neg (by simp at hi; omega)]
  refine ⟨b, off + a, ?_, fun j u hu => ?_⟩
  · unfold Addr.add
    split
    · rename_i h0; subst h0; rfl
    · rfl
  · have := hcell j u (by simpa using hu)
    rw [show off + a + i * 1 + j = off + (a + i) * 1 + j by omega]
    exact this
theorem sub_len (bs : List UInt8) (a n : Nat) (hn : a + n ≤ bs.length) : ((bs.drop a).take n).length = n := by simp; omega
/-- some(n): the bytes, the place and the badness behind it -/
def someR (bs : List UInt8) (at_ : Nat) (bad : Bool) (n : Nat) : List UInt8 × Nat × Bool := if bad then ([], at_, true) else if at_ + n ≤ bs.length then ((bs.drop at_).take n, at_ + n, false) else ([], at_, true)
set_option maxRecDepth 100000 in
set_option maxHeartbeats 1000000 in
theorem some_any (w : World) (n : Nat) (hn : n ≤ 1000000) (h : Rd w R A c bs at_ bad) : Calls Try.prog 84 #[.pointer (some ⟨R, 0, none⟩), .int .i64 n] w fun e w' => ∃ A' c', e = .returned (.slice A' (someR bs at_ bad n).1.length c') ∧ SlB w' A' c' (someR bs at_ bad n).1 ∧
    Rd w' R A c bs (someR bs at_ bad n).2.1 (someR bs at_ bad n).2.2 ∧ w.grownBy w' (some R) := by
  have HB := Lib.hid (bad_any w h)
  have HLF := Lib.hid (left_any w h)
  have H := Lib.hid h
  have h0 := h.b
  have h1 := h.p
  have h2 := h.d
  have f1 := h.f1
  have f2 := h.f2
  have hl := h.le
  have hbl := h.sl.len
  have hR := h.lt
  clear h
  cases bad
  · by_cases hle : at_ + n ≤ bs.length
    · obtain ⟨l, hlist⟩ : ∃ l, (bs.drop at_).take n = l := ⟨_, rfl⟩
      have hsome : someR bs at_ false n = (l, at_ + n, false) := by simp [someR, hle, hlist]
      rw [hsome]
      have hll : l.length = n := by rw [← hlist, sub_len bs at_ n hle]
      have HLL := Lib.hid hll
      have HLI := Lib.hid hlist
      have HL2 := Lib.hid HLF.out
      have hleft : leftR bs at_ false = bs.length - at_ := rfl
      rw [hleft] at HL2
      obtain ⟨m, hm⟩ : ∃ m, m = at_ + n := ⟨_, rfl⟩
      have hw1 : IntKind.i64.wrap ((at_ : Int) + (n : Int)) = (m : Int) := by rw [IntWalk.i64_in _ ⟨by omega, by omega⟩]; omega
      have hw2 : IntKind.i64.wrap ((m : Int) - (n : Int)) = (at_ : Int) := by rw [IntWalk.i64_in _ ⟨by omega, by omega⟩]; omega
      have hmc : m ≤ bs.length := by omega
      have ham : at_ ≤ m := by omega
      have e1 : (at_ : Int) + (n : Int) = (m : Int) := by omega
      have E1 := Lib.hid e1
      have HM := Lib.hid hm
      have hcmp : ¬ (((bs.length - at_ : Nat) : Int) < (n : Int)) := by omega
      clear hsome hleft HLF hll hlist
      have hbl2 := H.out.sl.cap
      have hbl3 := H.out.sl.big
      have hmc2 : m ≤ c := by omega
      clear hm e1 hle
      rcases A with _ | ad
      · have hb0 : bs = [] := by
          rcases bs with _ | ⟨y, r⟩
          · rfl
          · obtain ⟨_, _, hA, _⟩ := H.out.sl.at_ 0 (by simp)
            cases hA
        subst hb0
        have hm0 : m = 0 := by simp at hmc; exact hmc
        subst hm0
        have ha0 : at_ = 0 := by omega
        subst ha0
        have hn0 : n = 0 := by have := HM.out; omega
        subst hn0
        have hc0 : c = 0 := H.out.nz rfl
        subst hc0
        have hw0 : IntKind.i64.wrap 0 = 0 := rfl
        have hl0 : l = [] := List.eq_nil_of_length_eq_zero HLL.out
        subst hl0
        go_enter Try.func84, Try.ntmps84
        go_wp2_with (first | (go_at_call 48; refine (HB.out).mono ?_; rintro e w' ⟨rfl, rfl⟩) | (go_at_call 53; refine (HL2.out).mono ?_; rintro e w' ⟨rfl, hk⟩; (first | obtain ⟨p, rfl⟩ := Zone.gro_of_gro _ _ hk | obtain ⟨p, rfl⟩ := Zone.gro_of_below _ hk); clear hk))
        first | refine Zone.wp_region_all_gro (by kernel_rfl) (by kernel_rfl) ?_ | refine Zone.wp_region_all (by kernel_rfl) (by kernel_rfl) ?_
        repeat
          refine Zone.wpZ_step (fun K hK => ?_)
          go_simp
          first
          | (refine hK _ _ ?_; clear hK K)
          | (apply Exists.intro
             refine ⟨fun p => ?_, hK _ _ ?_⟩
             (fail)
             clear hK K)
        refine Zone.wpZ_nil ?_
        intro q
        simp only [Zone.fill]
        go_wp2
        go_ret
        exact ⟨none, 0, rfl, Sl.nil_ _ (by omega), ((H.out.keep (below_gro w p)).set1 0 (Nat.le_refl _)).keep (below_gro _ q), grownBy_trans (grownBy_trans (grownBy_keep (below_gro w p)) (grownBy_set _ _ _)) (grownBy_keep (below_gro _ q))⟩
      go_enter Try.func84, Try.ntmps84
      go_wp2_with (first | (go_at_call 48; refine (HB.out).mono ?_; rintro e w' ⟨rfl, rfl⟩) | (go_at_call 53; refine (HL2.out).mono ?_; rintro e w' ⟨rfl, hk⟩; (first | obtain ⟨p, rfl⟩ := Zone.gro_of_gro _ _ hk | obtain ⟨p, rfl⟩ := Zone.gro_of_below _ hk); clear hk))
      try rw [E1.out]
      first | refine Zone.wp_region_all_gro (by kernel_rfl) (by kernel_rfl) ?_ | refine Zone.wp_region_all (by kernel_rfl) (by kernel_rfl) ?_
      repeat
        refine Zone.wpZ_step (fun K hK => ?_)
        go_simp
        first
        | (refine hK _ _ ?_; clear hK K)
        | (apply Exists.intro
           refine ⟨fun p => ?_, hK _ _ ?_⟩
           (fail)
           clear hK K)
      refine Zone.wpZ_nil ?_
      intro q
      simp only [Zone.fill]
      have hml : m - at_ = l.length := by rw [HLL.out]; have := HM.out; omega
      have hrd := ((H.out.keep (below_gro w p)).set1 m hmc).keep (below_gro _ q)
      have hsl := sub_sl hrd.sl at_ n (by have := HM.out; omega)
      rw [HLI.out] at hsl
      have hgr : w.grownBy (((w.gro p).setCell ⟨R, 1, none⟩ (.int .i64 m)).gro q) (some R) := grownBy_trans (grownBy_trans (grownBy_keep (below_gro w p)) (grownBy_set _ _ _)) (grownBy_keep (below_gro _ q))
      rw [hml]
      generalize (if c = at_ then some ad else some (ad.add at_)) = A' at hsl ⊢
      have HF := Lib.hid (And.intro hsl (And.intro hrd hgr))
      clear hml hrd hgr hsl
      go_wp2
      go_ret
      have hm := HM.out
      exact ⟨_, _, rfl, HF.out.1, by rw [← hm]; exact HF.out.2.1, HF.out.2.2⟩
    · have hsome : someR bs at_ false n = ([], at_, true) := by simp [someR, hle]
      rw [hsome]
      have hleft : leftR bs at_ false = bs.length - at_ := rfl
      rw [hleft] at HLF
      have hcmp : ((bs.length - at_ : Nat) : Int) < (n : Int) := by omega
      clear hsome hleft hle
      go_enter Try.func84, Try.ntmps84
      go_wp2_with (first | (go_at_call 48; refine (HB.out).mono ?_; rintro e w' ⟨rfl, rfl⟩) | (go_at_call 53; refine (HLF.out).mono ?_; rintro e w' ⟨rfl, hk⟩; (first | obtain ⟨p, rfl⟩ := Zone.gro_of_gro _ _ hk | obtain ⟨p, rfl⟩ := Zone.gro_of_below _ hk); clear hk))
      go_ret
      exact ⟨none, 0, rfl, Sl.nil_ _ (by omega), (H.out.keep (below_gro w p)).set2 true, grownBy_trans (grownBy_keep (below_gro w p)) (grownBy_set _ _ _)⟩
  · have hsome : someR bs at_ true n = ([], at_, true) := rfl
    rw [hsome]
    clear hsome
    go_enter Try.func84, Try.ntmps84
    go_wp2_with (go_at_call 48; refine (HB.out).mono ?_; rintro e w' ⟨rfl, rfl⟩)
    go_ret
    exact ⟨none, 0, rfl, Sl.nil_ _ (by omega), H.out, grownBy_keep (Keep.refl _)⟩
theorem sl_byte {w : World} {A : Option Addr} {c : Nat} {xs : List UInt8} (h : SlB w A c xs) (i : Nat) (hi : i < xs.length) : ∃ b off, A = some ⟨b, off, none⟩ ∧ b < w.heap.size ∧ w.cell? ⟨b, off + i, none⟩ = some (.int .u8 (xs[i].toNat : Int)) := by
  obtain ⟨b, off, hA, hc⟩ := h.at_ i hi
  have h0 := hc 0 _ rfl
  simp only [Nat.mul_one, Nat.add_zero] at h0
  exact ⟨b, off, hA, World.block_lt_of_cell? w _ h0, h0⟩
/-- a number of so many bytes, the lowest first -/
def unle (l : List UInt8) : Nat → Nat
  | 0 => 0
  | k + 1 => unle l k + (l.getD k 0).toNat * 256 ^ k
theorem unle_lt (l : List UInt8) : ∀ k, unle l k < 256 ^ k
  | 0 => by simp [unle]
  | k + 1 => by
    have := unle_lt l k
    have h2 : (l.getD k 0).toNat < 256 := UInt8.toNat_lt _
    have h3 : (l.getD k 0).toNat * 256 ^ k ≤ 255 * 256 ^ k := Nat.mul_le_mul_right _ (by omega)
    simp only [unle, Nat.pow_succ]
    omega
theorem wrap_u64n (n : Nat) (h : n < 18446744073709551616) : IntKind.u64.wrap (n : Int) = (n : Int) := by
  simp [IntKind.wrap, IntKind.signed, IntKind.bits]; omega
theorem or_u64n (a b : Nat) (ha : a < 18446744073709551616) (hb : b < 18446744073709551616) : bits .or .u64 (a : Int) (b : Int) = ((a ||| b : Nat) : Int) := by
  have h : a ||| b < 2 ^ 64 := Nat.or_lt_two_pow (by omega) (by omega)
  have e1 : (BitVec.ofInt 64 (a : Int)).toNat = a := by rw [BitVec.toNat_ofInt]; omega
  have e2 : (BitVec.ofInt 64 (b : Int)).toNat = b := by rw [BitVec.toNat_ofInt]; omega
  show IntKind.u64.wrap ((BitVec.ofInt 64 (a : Int) ||| BitVec.ofInt 64 (b : Int)).toNat : Int) = _
  rw [BitVec.toNat_or, e1, e2, wrap_u64n _ (by omega)]
theorem or_shl (a x e : Nat) (ha : a < 2 ^ e) (hx : x * 2 ^ e < 18446744073709551616) (he : e ≤ 63) : bits .or .u64 (a : Int) (IntKind.u64.wrap (IntKind.u64.wrap (x : Int) * 2 ^ e)) = ((a + x * 2 ^ e : Nat) : Int) := by
  have h1 : x < 18446744073709551616 := Nat.lt_of_le_of_lt (Nat.le_mul_of_pos_right x (Nat.two_pow_pos e)) hx
  have h2 : a < 18446744073709551616 := Nat.lt_of_lt_of_le ha (by have := Nat.pow_le_pow_right (show 0 < 2 by omega) he; omega)
  rw [wrap_u64n x h1, show ((x : Int) * 2 ^ e) = ((x * 2 ^ e : Nat) : Int) by simp, wrap_u64n _ hx, or_u64n _ _ h2 hx]
  have h3 := Nat.two_pow_add_eq_or_of_lt ha x
  rw [Nat.or_comm, Nat.mul_comm x, ← h3, Nat.add_comm]
theorem step_le (l : List UInt8) (k : Nat) (hk : k < l.length) (h8 : k < 8) : bits .or .u64 ((unle l k : Nat) : Int) (IntKind.u64.wrap (IntKind.u64.wrap (l[k].toNat : Int) * 2 ^ (8 * k))) = ((unle l (k + 1) : Nat) : Int) := by
  have h1 := unle_lt l k
  have h2 := unle_lt l (k + 1)
  have hg : l.getD k 0 = l[k] := by simp [hk]
  have e : 256 ^ k = 2 ^ (8 * k) := by rw [Nat.pow_mul]
  have h3 : 256 ^ (k + 1) ≤ 256 ^ 8 := Nat.pow_le_pow_right (by omega) (by omega)
  simp only [unle, hg] at h2 ⊢
  rw [e] at h1 h2 ⊢
  have h4 : (256 : Nat) ^ 8 = 18446744073709551616 := by decide
  rw [or_shl _ _ _ h1 (by omega) (by omega)]
set_option maxRecDepth 100000 in
set_option maxHeartbeats 1000000 in
theorem number_any (w : World) (n : Nat) (hn : n ≤ 8) (h : Rd w R A c bs at_ bad) : Calls Try.prog 68 #[.pointer (some ⟨R, 0, none⟩), .int .i64 n] w fun e w' => e = .returned (.int .u64 (unle (someR bs at_ bad n).1 (someR bs at_ bad n).1.length)) ∧
    Rd w' R A c bs (someR bs at_ bad n).2.1 (someR bs at_ bad n).2.2 ∧ w.grownBy w' (some R) := by
  have HS := Lib.hid (some_any w n (by omega) h)
  have hlen : (someR bs at_ bad n).1.length ≤ 8 := by
    unfold someR
    (repeat' split) <;> simp <;> omega
  generalize someR bs at_ bad n = sr at HS hlen
  obtain ⟨l, a2, b2⟩ := sr
  simp only at hlen HS
  clear h
  go_enter Try.func68, Try.ntmps68
  go_wp2_with (go_at_call 84; refine Zone.hold ?_)
  refine Zone.unhold ?_
  refine HS.out.mono ?_
  rintro e w1 ⟨A', c', rfl, hsl, hrd, hg⟩
  have HSL := Lib.hid hsl
  have HRG := Lib.hid (And.intro hrd hg)
  clear hsl hrd hg HS
  go_wp2
  go_loop [11, 4, 5, 6] (fun vi vn _ _ => ∃ (k : Nat), k ≤ l.length ∧ vi = .int .i64 k ∧ vn = .int .u64 (unle l k)) (fun vi _ _ _ => l.length - (intOf vi).toNat)
  case atStart => exact ⟨0, by omega, rfl, rfl⟩
  case round =>
    obtain ⟨k, hk, rfl, rfl⟩ := hrel
    by_cases hlt : k < l.length
    · obtain ⟨b, off, rfl, hb, hc⟩ := sl_byte HSL.out k hlt
      go_wp2
      exact ⟨⟨k + 1, by omega, by go_num, by rw [step_le l k hlt (by omega)]⟩, by simp [intOf]; omega⟩
    · have hkl : k = l.length := by omega
      subst hkl
      go_wp2
      go_ret
      exact ⟨rfl, HRG.out.1, HRG.out.2⟩
theorem u8_any (w : World) (h : Rd w R A c bs at_ bad) : Calls Try.prog 47 #[.pointer (some ⟨R, 0, none⟩)] w fun e w' => e = .returned (.int .u8 ((unle (someR bs at_ bad 1).1 (someR bs at_ bad 1).1.length : Nat) % 256 : Int)) ∧
    Rd w' R A c bs (someR bs at_ bad 1).2.1 (someR bs at_ bad 1).2.2 ∧ w.grownBy w' (some R) := by
  have HN := Lib.hid (number_any w 1 (by omega) h)
  clear h
  go_enter Try.func47, Try.ntmps47
  go_wp2_with (go_at_call 68; refine Zone.hold ?_)
  refine Zone.unhold ?_
  refine HN.out.mono ?_
  rintro e w1 ⟨rfl, hrd, hg⟩
  go_wp2
  go_ret
  exact ⟨rfl, hrd, hg⟩
theorem u32_any (w : World) (h : Rd w R A c bs at_ bad) : Calls Try.prog 49 #[.pointer (some ⟨R, 0, none⟩)] w fun e w' => e = .returned (.int .u32 ((unle (someR bs at_ bad 4).1 (someR bs at_ bad 4).1.length : Nat) % 4294967296 : Int)) ∧
    Rd w' R A c bs (someR bs at_ bad 4).2.1 (someR bs at_ bad 4).2.2 ∧ w.grownBy w' (some R) := by
  have HN := Lib.hid (number_any w 4 (by omega) h)
  clear h
  go_enter Try.func49, Try.ntmps49
  go_wp2_with (go_at_call 68; refine Zone.hold ?_)
  refine Zone.unhold ?_
  refine HN.out.mono ?_
  rintro e w1 ⟨rfl, hrd, hg⟩
  go_wp2
  go_ret
  exact ⟨by simp [IntKind.wrap, IntKind.signed, IntKind.bits], hrd, hg⟩
theorem u64_any (w : World) (h : Rd w R A c bs at_ bad) : Calls Try.prog 85 #[.pointer (some ⟨R, 0, none⟩)] w fun e w' => e = .returned (.int .u64 ((unle (someR bs at_ bad 8).1 (someR bs at_ bad 8).1.length : Nat) : Int)) ∧
    Rd w' R A c bs (someR bs at_ bad 8).2.1 (someR bs at_ bad 8).2.2 ∧ w.grownBy w' (some R) := by
  have HN := Lib.hid (number_any w 8 (by omega) h)
  clear h
  go_enter Try.func85, Try.ntmps85
  go_wp2_with (go_at_call 68; refine Zone.hold ?_)
  refine Zone.unhold ?_
  refine HN.out.mono ?_
  rintro e w1 ⟨rfl, hrd, hg⟩
  go_wp2
  go_ret
  exact ⟨rfl, hrd, hg⟩
theorem rbytes_any (w : World) (n : Nat) (hn : n ≤ 1000000) (h : Rd w R A c bs at_ bad) : Calls Try.prog 72 #[.pointer (some ⟨R, 0, none⟩), .int .i64 n] w fun e w' => ∃ A' c', e = .returned (.slice A' (someR bs at_ bad n).1.length c') ∧ SlB w' A' c' (someR bs at_ bad n).1 ∧
    Rd w' R A c bs (someR bs at_ bad n).2.1 (someR bs at_ bad n).2.2 ∧ w.grownBy w' (some R) := by
  have HN := Lib.hid (some_any w n hn h)
  generalize someR bs at_ bad n = sr at HN
  obtain ⟨l, a2, b2⟩ := sr
  simp only at HN
  clear h
  go_enter Try.func72, Try.ntmps72
  go_wp2_with (go_at_call 84; refine Zone.hold ?_)
  refine Zone.unhold ?_
  refine HN.out.mono ?_
  rintro e w1 ⟨A', c', rfl, hsl, hrd, hg⟩
  have HS := Lib.hid (And.intro hsl (And.intro hrd hg))
  clear hsl hrd hg HN
  go_wp2_with (go_at_call 62; refine Zone.hold ?_)
  refine Zone.unhold ?_
  refine (clone8_any A' c' l _ HS.out.1).mono ?_
  rintro e w2 ⟨A2, c2, rfl, hown, hk⟩
  obtain ⟨A3, c3, hv, hsl⟩ := hown.sl b8_len HS.out.1.len
  injection hv with hv1 _ hv2
  subst hv1; subst hv2
  have HF := Lib.hid (And.intro hsl (And.intro (HS.out.2.1.keep hk) (grownBy_trans HS.out.2.2 (grownBy_keep hk))))
  clear hown hk hsl HS
  go_wp2
  go_ret
  exact ⟨_, _, rfl, HF.out.1, HF.out.2.1, HF.out.2.2⟩
theorem new_any (A : Option Addr) (c : Nat) (xs : List UInt8) (w : World) (h : SlB w A c xs) :
    Calls Try.prog 46 #[.slice A xs.length c] w fun e w' => ∃ R A' c', e = .returned (.pointer (some ⟨R, 0, none⟩)) ∧ w.heap.size ≤ R ∧ Rd w' R A' c' xs 0 false ∧ Keep w w' := by
  have HC := Lib.hid (clone8_any A c xs w h)
  have hl := h.len
  clear h
  go_enter Try.func46, Try.ntmps46
  go_wp2_with (go_at_call 62; refine Zone.hold ?_)
  refine Zone.unhold ?_
  refine HC.out.mono ?_
  rintro e w1 ⟨A1, c1, rfl, hown, hk⟩
  have HO := Lib.hid hown
  have HK := Lib.hid hk
  clear hown hk HC
  go_wp2
  go_ret
  obtain ⟨A3, c3, hv, hsl⟩ := HO.out.sl b8_len hl
  injection hv with hv1 _ hv2
  subst hv1; subst hv2
  refine ⟨w1.heap.size, A1, c1, rfl, HK.out.size, ⟨by simp [go_sem], by simp [go_sem], by simp [go_sem], by simp [go_sem], by simp [go_sem], hsl.keep (Keep.alloc (Keep.refl _) _), ?_, Nat.zero_le _, ?_⟩, Keep.alloc HK.out _⟩
  · intro g off e
    have := (HO.out.lt g (by rw [e]; rfl)).2
    omega
  · intro e
    subst e
    rcases HO.out.2 with ⟨hv, _⟩ | ⟨g, cap, cur, hv, _⟩
    · injection hv
    · injection hv with hv; cases hv
end
end Go.Proofs.Ytbblkabnijhdoaa
