
/- Contracts of the cursor's Reader: New, Bad, At, Left, some, number, U8, U32, U64, Bytes. -/
import Derived.WalkKit
import Derived.Lib.Hide
import Derived.WalkSpells
import Derived.WalkLawsBesides
import Derived.BigQuiet
import Derived.Shelf.Abstract
import Derived.Test.YtmcaednlilhnoaaGreatDoorJh
import Derived.Test.YtmcaednlilhnoaaGreatDoorJa
import Derived.Deep.Cut
import Derived.Deep.CutRange
import Derived.Test.YtmcaednlilhnoaaGreatDoorJi
import Derived.Test.YtmcaednlilhnoaaGreatDoorJj
namespace Go.Proofs.YtmcaednlilhnoaaGreatDoor
open Go.RowKit Go.Zone Go.Shelf
attribute [local go_sem] Zone.zone Zone.stepZ Zone.fill Zone.lookFs Zone.goes Zone.goesUpon Zone.dropFs Zone.cell_gro Zone.frozen_gro Zone.size_gro Zone.lt_add Zone.drew_gro Zone.tape_gro Zone.keep_refl
theorem grownBy_set (W : World) (a : Addr) (v : Value) : W.grownBy (W.setCell a v) (some a.block) :=
  ⟨rfl, rfl, rfl, by simp, fun k _ hk => by simp only [World.setCell, Array.getElem?_modify]; rw [if_neg (fun e => hk (by rw [e]))]⟩
/-- A reader: its block, its bytes, its place, whether it is bad. -/
structure Rd (w : World) (R : Nat) (A : Option Addr) (c : Nat) (bs : List UInt8) (at_ : Nat) (bad : Bool) : Prop where
  b : w.cell? ⟨R, 0, none⟩ = some (.slice A bs.length c)
  p : w.cell? ⟨R, 1, none⟩ = some (.int .i64 at_)
  d : w.cell? ⟨R, 2, none⟩ = some (.bool bad)
  f1 : w.frozen? ⟨R, 1, none⟩ = false
  f2 : w.frozen? ⟨R, 2, none⟩ = false
  sl : SlB w A c bs
  ne : ∀ g off, A = some ⟨g, off, none⟩ → g ≠ R
  le : at_ ≤ bs.length
  nz : A = none → c = 0
section
variable {w w' : World} {R c at_ : Nat} {A : Option Addr} {bs : List UInt8} {bad : Bool}
theorem Rd.lt (h : Rd w R A c bs at_ bad) : R < w.heap.size := World.block_lt_of_cell? w _ h.b
theorem Rd.keep (h : Rd w R A c bs at_ bad) (hk : Keep w w') : Rd w' R A c bs at_ bad :=
  ⟨(hk.cell (p := ⟨R, 0, none⟩) h.lt).trans h.b, (hk.cell (p := ⟨R, 1, none⟩) h.lt).trans h.p, (hk.cell (p := ⟨R, 2, none⟩) h.lt).trans h.d, (hk.frozen (p := ⟨R, 1, none⟩) h.lt).trans h.f1, (hk.frozen (p := ⟨R, 2, none⟩) h.lt).trans h.f2, h.sl.keep hk, h.ne, h.le, h.nz⟩
theorem Rd.sl_set (h : Rd w R A c bs at_ bad) (j : Nat) (v : Value) : SlB (w.setCell ⟨R, j, none⟩ v) A c bs :=
  ⟨h.sl.cap, h.sl.big, h.sl.len, fun i hi => by
    obtain ⟨b, off, hA, hc⟩ := h.sl.at_ i hi
    exact ⟨b, off, hA, fun k u hu => by rw [World.cell?_setCell_other _ _ _ _ (by intro e; injection e with e1 _; exact h.ne b off hA e1.symm)]; exact hc k u hu⟩⟩
theorem Rd.set1 (h : Rd w R A c bs at_ bad) (n : Nat) (hn : n ≤ bs.length) : Rd (w.setCell ⟨R, 1, none⟩ (.int .i64 n)) R A c bs n bad :=
  ⟨by rw [World.cell?_setCell_other _ _ _ _ (by simp)]; exact h.b, World.cell?_setCell_same _ _ _ h.p, by rw [World.cell?_setCell_other _ _ _ _ (by simp)]; exact h.d, by rw [World.frozen?_setCell]; exact h.f1, by rw [World.frozen?_setCell]; exact h.f2, h.sl_set 1 _, h.ne, hn, h.nz⟩
theorem Rd.set2 (h : Rd w R A c bs at_ bad) (x : Bool) : Rd (w.setCell ⟨R, 2, none⟩ (.bool x)) R A c bs at_ x :=
  ⟨by rw [World.cell?_setCell_other _ _ _ _ (by simp)]; exact h.b, by rw [World.cell?_setCell_other _ _ _ _ (by simp)]; exact h.p, World.cell?_setCell_same _ _ _ h.d, by rw [World.frozen?_setCell]; exact h.f1, by rw [World.frozen?_setCell]; exact h.f2, h.sl_set 2 _, h.ne, h.le, h.nz⟩
theorem bad_any (w : World) (h : Rd w R A c bs at_ bad) : Calls Tryz.prog 150 #[.pointer (some ⟨R, 0, none⟩)] w fun e w' => e = .returned (.bool bad) ∧ w = w' := by
  have h2 := h.d
  clear h
  go_enter Tryz.func150, Tryz.ntmps150
  go_wp2
  go_ret
  exact ⟨rfl, rfl⟩
theorem at_any (w : World) (h : Rd w R A c bs at_ bad) : Calls Tryz.prog 151 #[.pointer (some ⟨R, 0, none⟩)] w fun e w' => e = .returned (.int .i64 at_) ∧ w = w' := by
  have h2 := h.p
  clear h
  go_enter Tryz.func151, Tryz.ntmps151
  go_wp2
  go_ret
  exact ⟨rfl, rfl⟩
def leftR (bs : List UInt8) (at_ : Nat) (bad : Bool) : Nat := if bad then 0 else bs.length - at_
theorem left_any (w : World) (h : Rd w R A c bs at_ bad) : Calls Tryz.prog 154 #[.pointer (some ⟨R, 0, none⟩)] w fun e w' => e = .returned (.int .i64 (leftR bs at_ bad)) ∧ Keep w w' := by
  have HB := Lib.hid (bad_any w h)
  have h0 := h.b
  have h1 := h.p
  have hl := h.le
  have hn := h.sl.len
  have hR := h.lt
  clear h
  cases bad
  · have hw : IntKind.i64.wrap ((bs.length : Int) - (at_ : Int)) = ((leftR bs at_ false : Nat) : Int) := by rw [IntWalk.i64_in _ ⟨by omega, by omega⟩]; simp [leftR]; omega
    go_enter Tryz.func154, Tryz.ntmps154
    go_wp2_with (go_at_call 150; refine (HB.out).mono ?_; rintro e w' ⟨rfl, rfl⟩)
    first | refine Zone.wp_region_all_gro (by kernel_rfl) (by kernel_rfl) ?_ | refine Zone.wp_region_all (by kernel_rfl) (by kernel_rfl) ?_
    repeat
      refine Zone.wpZ_step (fun K hK => ?_)
      go_simp
      first
      | (refine hK _ _ ?_; clear hK K)
      | (apply Exists.intro
         refine ⟨fun p => ?_, hK _ _ ?_⟩
         (fail)
         clear hK K)
    refine Zone.wpZ_nil ?_
    intro p
    simp only [Zone.fill]
    go_wp2
    go_ret
    exact ⟨rfl, (by repeat (first | exact Keep.refl _ | apply Keep.alloc | apply Keep.gro | apply Keep.drew | apply Keep.drewN))⟩
  · go_enter Tryz.func154, Tryz.ntmps154
    go_wp2_with (go_at_call 150; refine (HB.out).mono ?_; rintro e w' ⟨rfl, rfl⟩)
    go_ret
    exact ⟨rfl, (by repeat (first | exact Keep.refl _ | apply Keep.alloc | apply Keep.gro | apply Keep.drew | apply Keep.drewN))⟩
theorem sub_sl {w : World} {ad : Addr} {c : Nat} {bs : List UInt8} (h : SlB w (some ad) c bs) (a n : Nat) (hn : a + n ≤ bs.length) : SlB w (if c = a then some ad else some (ad.add a)) (c - a) ((bs.drop a).take n) := by
  have hc := h.cap
  have hb := h.big
  have hl := h.len
  refine ⟨by simp; omega, by omega, by simp; omega, fun i hi => ?_⟩
  have hi' : a + i < bs.length := by simp at hi; omega
  obtain ⟨b, off, hA, hcell⟩ := h.at_ (a + i) hi'
  injection hA with hA
  subst hA
  rw [if_neg (by simp at hi; omega)]
  refine ⟨b, off + a, ?_, fun j u hu => ?_⟩
  · unfold Addr.add
    split
    · rename_i h0; subst h0; rfl
    · rfl
  · have := hcell j u (by simpa using hu)
    rw [show off + a + i * 1 + j = off + (a + i) * 1 + j by omega]
    exact this
theorem sub_len (bs : List UInt8) (a n : Nat) (hn : a + n ≤ bs.length) : ((bs.drop a).take n).length = n := by simp; omega
/-- some(n): the bytes, the place and the badness behind it -/
def someR (bs : List UInt8) (at_ : Nat) (bad : Bool) (n : Nat) : List UInt8 × Nat × Bool := if bad then ([], at_, true) else if at_ + n ≤ bs.length then ((bs.drop at_).take n, at_ + n, false) else ([], at_, true)
set_option maxRecDepth 100000 in
set_option maxHeartbeats 1000000 in
theorem some_any (w : World) (n : Nat) (hn : n ≤ 1000000) (h : Rd w R A c bs at_ bad) : Calls Tryz.prog 201 #[.pointer (some ⟨R, 0, none⟩), .int .i64 n] w fun e w' => ∃ A' c', e = .returned (.slice A' (someR bs at_ bad n).1.length c') ∧ SlB w' A' c' (someR bs at_ bad n).1 ∧
    Rd w' R A c bs (someR bs at_ bad n).2.1 (someR bs at_ bad n).2.2 ∧ w.grownBy w' (some R) := by
  have HB := Lib.hid (bad_any w h)
  have HLF := Lib.hid (left_any w h)
  have H := Lib.hid h
  have h0 := h.b
  have h1 := h.p
  have h2 := h.d
  have f1 := h.f1
  have f2 := h.f2
  have hl := h.le
  have hbl := h.sl.len
  have hR := h.lt
  clear h
  cases bad
  · by_cases hle : at_ + n ≤ bs.length
    · obtain ⟨l, hlist⟩ : ∃ l, (bs.drop at_).take n = l := ⟨_, rfl⟩
      have hsome : someR bs at_ false n = (l, at_ + n, false) := by simp [someR, hle, hlist]
      rw [hsome]
      have hll : l.length = n := by rw [← hlist, sub_len bs at_ n hle]
      have HLL := Lib.hid hll
      have HLI := Lib.hid hlist
      have HL2 := Lib.hid HLF.out
      have hleft : leftR bs at_ false = bs.length - at_ := rfl
      rw [hleft] at HL2
      obtain ⟨m, hm⟩ : ∃ m, m = at_ + n := ⟨_, rfl⟩
      have hw1 : IntKind.i64.wrap ((at_ : Int) + (n : Int)) = (m : Int) := by rw [IntWalk.i64_in _ ⟨by omega, by omega⟩]; omega
      have hw2 : IntKind.i64.wrap ((m : Int) - (n : Int)) = (at_ : Int) := by rw [IntWalk.i64_in _ ⟨by omega, by omega⟩]; omega
      have hmc : m ≤ bs.length := by omega
      have ham : at_ ≤ m := by omega
      have e1 : (at_ : Int) + (n : Int) = (m : Int) := by omega
      have E1 := Lib.hid e1
      have HM := Lib.hid hm
      have hcmp : ¬ (((bs.length - at_ : Nat) : Int) < (n : Int)) := by omega
      clear hsome hleft HLF hll hlist
      have hbl2 := H.out.sl.cap
      have hbl3 := H.out.sl.big
      have hmc2 : m ≤ c := by omega
      clear hm e1 hle
      rcases A with _ | ad
      · have hb0 : bs = [] := by
          rcases bs with _ | ⟨y, r⟩
          · rfl
          · obtain ⟨_, _, hA, _⟩ := H.out.sl.at_ 0 (by simp)
            cases hA
        subst hb0
        have hm0 : m = 0 := by simp at hmc; exact hmc
        subst hm0
        have ha0 : at_ = 0 := by omega
        subst ha0
        have hn0 : n = 0 := by have := HM.out; omega
        subst hn0
        have hc0 : c = 0 := H.out.nz rfl
        subst hc0
        have hw0 : IntKind.i64.wrap 0 = 0 := rfl
        have hl0 : l = [] := List.eq_nil_of_length_eq_zero HLL.out
        subst hl0
        go_enter Tryz.func201, Tryz.ntmps201
        go_wp2_with (first | (go_at_call 150; refine (HB.out).mono ?_; rintro e w' ⟨rfl, rfl⟩) | (go_at_call 154; refine (HL2.out).mono ?_; rintro e w' ⟨rfl, hk⟩; (first | obtain ⟨p, rfl⟩ := Zone.gro_of_gro _ _ hk | obtain ⟨p, rfl⟩ := Zone.gro_of_below _ hk); clear hk))
        first | refine Zone.wp_region_all_gro (by kernel_rfl) (by kernel_rfl) ?_ | refine Zone.wp_region_all (by kernel_rfl) (by kernel_rfl) ?_
        repeat
          refine Zone.wpZ_step (fun K hK => ?_)
          go_simp
          first
          | (refine hK _ _ ?_; clear hK K)
          | (apply Exists.intro
             refine ⟨fun p => ?_, hK _ _ ?_⟩
             (fail)
             clear hK K)
        refine Zone.wpZ_nil ?_
        intro q
        simp only [Zone.fill]
        go_wp2
        go_ret
        exact ⟨none, 0, rfl, Sl.nil_ _ (by omega), ((H.out.keep (below_gro w p)).set1 0 (Nat.le_refl _)).keep (below_gro _ q), grownBy_trans (grownBy_trans (grownBy_keep (below_gro w p)) (grownBy_set _ _ _)) (grownBy_keep (below_gro _ q))⟩
      go_enter Tryz.func201, Tryz.ntmps201
      go_wp2_with (first | (go_at_call 150; refine (HB.out).mono ?_; rintro e w' ⟨rfl, rfl⟩) | (go_at_call 154; refine (HL2.out).mono ?_; rintro e w' ⟨rfl, hk⟩; (first | obtain ⟨p, rfl⟩ := Zone.gro_of_gro _ _ hk | obtain ⟨p, rfl⟩ := Zone.gro_of_below _ hk); clear hk))
      try rw [E1.out]
      first | refine Zone.wp_region_all_gro (by kernel_rfl) (by kernel_rfl) ?_ | refine Zone.wp_region_all (by kernel_rfl) (by kernel_rfl) ?_
      repeat
        refine Zone.wpZ_step (fun K hK => ?_)
        go_simp
        first
        | (refine hK _ _ ?_; clear hK K)
        | (apply Exists.intro
           refine ⟨fun p => ?_, hK _ _ ?_⟩
           (fail)
           clear hK K)
      refine Zone.wpZ_nil ?_
      intro q
      simp only [Zone.fill]
      have hml : m - at_ = l.length := by rw [HLL.out]; have := HM.out; omega
      have hrd := ((H.out.keep (below_gro w p)).set1 m hmc).keep (below_gro _ q)
      have hsl := sub_sl hrd.sl at_ n (by have := HM.out; omega)
      rw [HLI.out] at hsl
      have hgr : w.grownBy (((w.gro p).setCell ⟨R, 1, none⟩ (.int .i64 m)).gro q) (some R) := grownBy_trans (grownBy_trans (grownBy_keep (below_gro w p)) (grownBy_set _ _ _)) (grownBy_keep (below_gro _ q))
      rw [hml]
      generalize (if c = at_ then some ad else some (ad.add at_)) = A' at hsl ⊢
      have HF := Lib.hid (And.intro hsl (And.intro hrd hgr))
      clear hml hrd hgr hsl
      go_wp2
      go_ret
      have hm := HM.out
      exact ⟨_, _, rfl, HF.out.1, by rw [← hm]; exact HF.out.2.1, HF.out.2.2⟩
    · have hsome : someR bs at_ false n = ([], at_, true) := by simp [someR, hle]
      rw [hsome]
      have hleft : leftR bs at_ false = bs.length - at_ := rfl
      rw [hleft] at HLF
      have hcmp : ((bs.length - at_ : Nat) : Int) < (n : Int) := by omega
      clear hsome hleft hle
      go_enter Tryz.func201, Tryz.ntmps201
      go_wp2_with (first | (go_at_call 150; refine (HB.out).mono ?_; rintro e w' ⟨rfl, rfl⟩) | (go_at_call 154; refine (HLF.out).mono ?_; rintro e w' ⟨rfl, hk⟩; (first | obtain ⟨p, rfl⟩ := Zone.gro_of_gro _ _ hk | obtain ⟨p, rfl⟩ := Zone.gro_of_below _ hk); clear hk))
      go_ret
      exact ⟨none, 0, rfl, Sl.nil_ _ (by omega), (H.out.keep (below_gro w p)).set2 true, grownBy_trans (grownBy_keep (below_gro w p)) (grownBy_set _ _ _)⟩
  · have hsome : someR bs at_ true n = ([], at_, true) := rfl
    rw [hsome]
    clear hsome
    go_enter Tryz.func201, Tryz.ntmps201
    go_wp2_with (go_at_call 150; refine (HB.out).mono ?_; rintro e w' ⟨rfl, rfl⟩)
    go_ret
    exact ⟨none, 0, rfl, Sl.nil_ _ (by omega), H.out, grownBy_keep (Keep.refl _)⟩
theorem sl_byte {w : World} {A : Option Addr} {c : Nat} {xs : List UInt8} (h : SlB w A c xs) (i : Nat) (hi : i < xs.length) : ∃ b off, A = some ⟨b, off, none⟩ ∧ b < w.heap.size ∧ w.cell? ⟨b, off + i, none⟩ = some (.int .u8 (xs[i].toNat : Int)) := by
  obtain ⟨b, off, hA, hc⟩ := h.at_ i hi
  have h0 := hc 0 _ rfl
  simp only [Nat.mul_one, Nat.add_zero] at h0
  exact ⟨b, off, hA, World.block_lt_of_cell? w _ h0, h0⟩
/-- a number of so many bytes, the lowest first -/
def unle (l : List UInt8) : Nat → Nat
  | 0 => 0
  | k + 1 => unle l k + (l.getD k 0).toNat * 256 ^ k
theorem unle_lt (l : List UInt8) : ∀ k, unle l k < 256 ^ k
  | 0 => by simp [unle]
  | k + 1 => by
    have := unle_lt l k
    have h2 : (l.getD k 0).toNat < 256 := UInt8.toNat_lt _
    have h3 : (l.getD k 0).toNat * 256 ^ k ≤ 255 * 256 ^ k := Nat.mul_le_mul_right _ (by omega)
    simp only [unle, Nat.pow_succ]
    omega
theorem wrap_u64n (n : Nat) (h : n < 18446744073709551616) : IntKind.u64.wrap (n : Int) = (n : Int) := by
  simp [IntKind.wrap, IntKind.signed, IntKind.bits]; omega
theorem or_u64n (a b : Nat) (ha : a < 18446744073709551616) (hb : b < 18446744073709551616) : bits .or .u64 (a : Int) (b : Int) = ((a ||| b : Nat) : Int) := by
  have h : a ||| b < 2 ^ 64 := Nat.or_lt_two_pow (by omega) (by omega)
  have e1 : (BitVec.ofInt 64 (a : Int)).toNat = a := by rw [BitVec.toNat_ofInt]; omega
  have e2 : (BitVec.ofInt 64 (b : Int)).toNat = b := by rw [BitVec.toNat_ofInt]; omega
  show IntKind.u64.wrap ((BitVec.ofInt 64 (a : Int) ||| BitVec.ofInt 64 (b : Int)).toNat : Int) = _
  rw [BitVec.toNat_or, e1, e2, wrap_u64n _ (by omega)]
theorem or_shl (a x e : Nat) (ha : a < 2 ^ e) (hx : x * 2 ^ e < 18446744073709551616) (he : e ≤ 63) : bits .or .u64 (a : Int) (IntKind.u64.wrap (IntKind.u64.wrap (x : Int) * 2 ^ e)) = ((a + x * 2 ^ e : Nat) : Int) := by
  have h1 : x < 18446744073709551616 := Nat.lt_of_le_of_lt (Nat.le_mul_of_pos_right x (Nat.two_pow_pos e)) hx
  have h2 : a < 18446744073709551616 := Nat.lt_of_lt_of_le ha (by have := Nat.pow_le_pow_right (show 0 < 2 by omega) he; omega)
  rw [wrap_u64n x h1, show ((x : Int) * 2 ^ e) = ((x * 2 ^ e : Nat) : Int) by simp, wrap_u64n _ hx, or_u64n _ _ h2 hx]
  have h3 := Nat.two_pow_add_eq_or_of_lt ha x
  rw [Nat.or_comm, Nat.mul_comm x, ← h3, Nat.add_comm]
theorem step_le (l : List UInt8) (k : Nat) (hk : k < l.length) (h8 : k < 8) : bits .or .u64 ((unle l k : Nat) : Int) (IntKind.u64.wrap (IntKind.u64.wrap (l[k].toNat : Int) * 2 ^ (8 * k))) = ((unle l (k + 1) : Nat) : Int) := by
  have h1 := unle_lt l k
  have h2 := unle_lt l (k + 1)
  have hg : l.getD k 0 = l[k] := by simp [hk]
  have e : 256 ^ k = 2 ^ (8 * k) := by rw [Nat.pow_mul]
  have h3 : 256 ^ (k + 1) ≤ 256 ^ 8 := Nat.pow_le_pow_right (by omega) (by omega)
  simp only [unle, hg] at h2 ⊢
  rw [e] at h1 h2 ⊢
  have h4 : (256 : Nat) ^ 8 = 18446744073709551616 := by decide
  rw [or_shl _ _ _ h1 (by omega) (by omega)]
set_option maxRecDepth 100000 in
set_option maxHeartbeats 1000000 in
theorem number_any (w : World) (n : Nat) (hn : n ≤ 8) (h : Rd w R A c bs at_ bad) : Calls Tryz.prog 155 #[.pointer (some ⟨R, 0, none⟩), .int .i64 n] w fun e w' => e = .returned (.int .u64 (unle (someR bs at_ bad n).1 (someR bs at_ bad n).1.length)) ∧
    Rd w' R A c bs (someR bs at_ bad n).2.1 (someR bs at_ bad n).2.2 ∧ w.grownBy w' (some R) := by
  have HS := Lib.hid (some_any w n (by omega) h)
  have hlen : (someR bs at_ bad n).1.length ≤ 8 := by
    unfold someR
    (repeat' split) <;> simp <;> omega
  generalize someR bs at_ bad n = sr at HS hlen
  obtain ⟨l, a2, b2⟩ := sr
  simp only at hlen HS
  clear h
  go_enter Tryz.func155, Tryz.ntmps155
  go_wp2_with (go_at_call 201; refine Zone.hold ?_)
  refine Zone.unhold ?_
  refine HS.out.mono ?_
  rintro e w1 ⟨A', c', rfl, hsl, hrd, hg⟩
  have HSL := Lib.hid hsl
  have HRG := Lib.hid (And.intro hrd hg)
  clear hsl hrd hg HS
  go_wp2
  go_loop [11, 4, 5, 6] (fun vi vn _ _ => ∃ (k : Nat), k ≤ l.length ∧ vi = .int .i64 k ∧ vn = .int .u64 (unle l k)) (fun vi _ _ _ => l.length - (intOf vi).toNat)
  case atStart => exact ⟨0, by omega, rfl, rfl⟩
  case round =>
    obtain ⟨k, hk, rfl, rfl⟩ := hrel
    by_cases hlt : k < l.length
    · obtain ⟨b, off, rfl, hb, hc⟩ := sl_byte HSL.out k hlt
      go_wp2
      exact ⟨⟨k + 1, by omega, by go_num, by rw [step_le l k hlt (by omega)]⟩, by simp [intOf]; omega⟩
    · have hkl : k = l.length := by omega
      subst hkl
      go_wp2
      go_ret
      exact ⟨rfl, HRG.out.1, HRG.out.2⟩
theorem u8_any (w : World) (h : Rd w R A c bs at_ bad) : Calls Tryz.prog 157 #[.pointer (some ⟨R, 0, none⟩)] w fun e w' => e = .returned (.int .u8 ((unle (someR bs at_ bad 1).1 (someR bs at_ bad 1).1.length : Nat) % 256 : Int)) ∧
    Rd w' R A c bs (someR bs at_ bad 1).2.1 (someR bs at_ bad 1).2.2 ∧ w.grownBy w' (some R) := by
  have HN := Lib.hid (number_any w 1 (by omega) h)
  clear h
  go_enter Tryz.func157, Tryz.ntmps157
  go_wp2_with (go_at_call 155; refine Zone.hold ?_)
  refine Zone.unhold ?_
  refine HN.out.mono ?_
  rintro e w1 ⟨rfl, hrd, hg⟩
  go_wp2
  go_ret
  exact ⟨rfl, hrd, hg⟩
theorem u32_any (w : World) (h : Rd w R A c bs at_ bad) : Calls Tryz.prog 92 #[.pointer (some ⟨R, 0, none⟩)] w fun e w' => e = .returned (.int .u32 ((unle (someR bs at_ bad 4).1 (someR bs at_ bad 4).1.length : Nat) % 4294967296 : Int)) ∧
    Rd w' R A c bs (someR bs at_ bad 4).2.1 (someR bs at_ bad 4).2.2 ∧ w.grownBy w' (some R) := by
  have HN := Lib.hid (number_any w 4 (by omega) h)
  clear h
  go_enter Tryz.func92, Tryz.ntmps92
  go_wp2_with (go_at_call 155; refine Zone.hold ?_)
  refine Zone.unhold ?_
  refine HN.out.mono ?_
  rintro e w1 ⟨rfl, hrd, hg⟩
  go_wp2
  go_ret
  exact ⟨by simp [IntKind.wrap, IntKind.signed, IntKind.bits], hrd, hg⟩
theorem u64_any (w : World) (h : Rd w R A c bs at_ bad) : Calls Tryz.prog 156 #[.pointer (some ⟨R, 0, none⟩)] w fun e w' => e = .returned (.int .u64 ((unle (someR bs at_ bad 8).1 (someR bs at_ bad 8).1.length : Nat) : Int)) ∧
    Rd w' R A c bs (someR bs at_ bad 8).2.1 (someR bs at_ bad 8).2.2 ∧ w.grownBy w' (some R) := by
  have HN := Lib.hid (number_any w 8 (by omega) h)
  clear h
  go_enter Tryz.func156, Tryz.ntmps156
  go_wp2_with (go_at_call 155; refine Zone.hold ?_)
  refine Zone.unhold ?_
  refine HN.out.mono ?_
  rintro e w1 ⟨rfl, hrd, hg⟩
  go_wp2
  go_ret
  exact ⟨rfl, hrd, hg⟩
theorem rbytes_any (w : World) (n : Nat) (hn : n ≤ 1000000) (h : Rd w R A c bs at_ bad) : Calls Tryz.prog 149 #[.pointer (some ⟨R, 0, none⟩), .int .i64 n] w fun e w' => ∃ A' c', e = .returned (.slice A' (someR bs at_ bad n).1.length c') ∧ SlB w' A' c' (someR bs at_ bad n).1 ∧
    Rd w' R A c bs (someR bs at_ bad n).2.1 (someR bs at_ bad n).2.2 ∧ w.grownBy w' (some R) := by
  have HN := Lib.hid (some_any w n hn h)
  generalize someR bs at_ bad n = sr at HN
  obtain ⟨l, a2, b2⟩ := sr
  simp only at HN
  clear h
  go_enter Tryz.func149, Tryz.ntmps149
  go_wp2_with (go_at_call 201; refine Zone.hold ?_)
  refine Zone.unhold ?_
  refine HN.out.mono ?_
  rintro e w1 ⟨A', c', rfl, hsl, hrd, hg⟩
  have HS := Lib.hid (And.intro hsl (And.intro hrd hg))
  clear hsl hrd hg HN
  go_wp2_with (go_at_call 114; refine Zone.hold ?_)
  refine Zone.unhold ?_
  refine (clone8_any A' c' l _ HS.out.1).mono ?_
  rintro e w2 ⟨A2, c2, rfl, hown, hk⟩
  obtain ⟨A3, c3, hv, hsl⟩ := hown.sl b8_len HS.out.1.len
  injection hv with hv1 _ hv2
  subst hv1; subst hv2
  have HF := Lib.hid (And.intro hsl (And.intro (HS.out.2.1.keep hk) (grownBy_trans HS.out.2.2 (grownBy_keep hk))))
  clear hown hk hsl HS
  go_wp2
  go_ret
  exact ⟨_, _, rfl, HF.out.1, HF.out.2.1, HF.out.2.2⟩
theorem new_any (A : Option Addr) (c : Nat) (xs : List UInt8) (w : World) (h : SlB w A c xs) :
    Calls Tryz.prog 91 #[.slice A xs.length c] w fun e w' => ∃ R A' c', e = .returned (.pointer (some ⟨R, 0, none⟩)) ∧ w.heap.size ≤ R ∧ Rd w' R A' c' xs 0 false ∧ Keep w w' := by
  have HC := Lib.hid (clone8_any A c xs w h)
  have hl := h.len
  clear h
  go_enter Tryz.func91, Tryz.ntmps91
  go_wp2_with (go_at_call 114; refine Zone.hold ?_)
  refine Zone.unhold ?_
  refine HC.out.mono ?_
  rintro e w1 ⟨A1, c1, rfl, hown, hk⟩
  have HO := Lib.hid hown
  have HK := Lib.hid hk
  clear hown hk HC
  go_wp2
  go_ret
  obtain ⟨A3, c3, hv, hsl⟩ := HO.out.sl b8_len hl
  injection hv with hv1 _ hv2
  subst hv1; subst hv2
  refine ⟨w1.heap.size, A1, c1, rfl, HK.out.size, ⟨by simp [go_sem], by simp [go_sem], by simp [go_sem], by simp [go_sem], by simp [go_sem], hsl.keep (Keep.alloc (Keep.refl _) _), ?_, Nat.zero_le _, ?_⟩, Keep.alloc HK.out _⟩
  · intro g off e
    have := (HO.out.lt g (by rw [e]; rfl)).2
    omega
  · intro e
    subst e
    rcases HO.out.2 with ⟨hv, _⟩ | ⟨g, cap, cur, hv, _⟩
    · injection hv
    · injection hv with hv; cases hv
end
end Go.Proofs.YtmcaednlilhnoaaGreatDoor
namespace Go.Proofs.YtmcaednlilhnoaaGreatDoor
open Go.RowKit Go.Zone Go.Shelf
/-- below n, W is as W0 was -/
structure Bel (n : Nat) (W0 W : World) : Prop where
  le : n ≤ W0.heap.size
  b : Below n W0 W
section
variable {n : Nat} {W0 W W' : World}
theorem Bel.refl (h : n ≤ W0.heap.size) : Bel n W0 W0 := ⟨h, Below.refl _ _⟩
theorem Bel.size (h : Bel n W0 W) : n ≤ W.heap.size := Nat.le_trans h.le h.b.size
theorem Bel.keep (h : Bel n W0 W) (k : Keep W W') : Bel n W0 W' := ⟨h.le, h.b.trans (k.mono h.size)⟩
theorem Bel.gro (h : Bel n W0 W) (p : GB) : Bel n W0 (W.gro p) := h.keep (below_gro W p)
theorem Bel.alloc (h : Bel n W0 W) (o : Obj) : Bel n W0 (W.alloc o) := h.keep (Keep.alloc (Keep.refl _) o)
theorem Bel.setCell (h : Bel n W0 W) {a : Addr} (ha : n ≤ a.block) (v : Value) : Bel n W0 (W.setCell a v) := ⟨h.le, h.b.setCell ha v⟩
theorem Bel.grown {row : Option Nat} (h : Bel n W0 W) (hg : W.grownBy W' row) (hr : ∀ k, row = some k → n ≤ k) : Bel n W0 W' := ⟨h.le, Below.grown h.b hg h.size hr⟩
theorem Rd.later {w : World} {R c a0 a : Nat} {A : Option Addr} {bs : List UInt8} {b0 b : Bool} (h0 : Rd w R A c bs a0 b0) (h : Rd W R A c bs a b) (hb : Bel w.heap.size W W') : Rd W' R A c bs a b := by
  have hc : ∀ j u, W.cell? ⟨R, j, none⟩ = some u → W'.cell? ⟨R, j, none⟩ = some u := fun j u hu => (hb.b.cell (p := ⟨R, j, none⟩) h0.lt).trans hu
  have hf : ∀ j, W.frozen? ⟨R, j, none⟩ = false → W'.frozen? ⟨R, j, none⟩ = false := fun j hu => (hb.b.frozen (p := ⟨R, j, none⟩) h0.lt).trans hu
  refine ⟨hc _ _ h.b, hc _ _ h.p, hc _ _ h.d, hf _ h.f1, hf _ h.f2, ⟨h.sl.cap, h.sl.big, h.sl.len, fun i hi => ?_⟩, h.ne, h.le, h.nz⟩
  obtain ⟨b, off, hA, hcc⟩ := h.sl.at_ i hi
  obtain ⟨b', off', hA', hcc'⟩ := h0.sl.at_ i hi
  rw [hA] at hA'
  cases hA'
  have hlt : b < w.heap.size := World.block_lt_of_cell? w _ (hcc' 0 _ rfl)
  exact ⟨b, off, hA, fun j u hu => (hb.b.cell (p := ⟨b, off + i * 1 + j, none⟩) hlt).trans (hcc j u hu)⟩
theorem grownBy_bel {w : World} {row : Option Nat} (h : w.grownBy W row) (hb : Bel w.heap.size W W') : w.grownBy W' row :=
  ⟨hb.b.os.trans h.os, hb.b.tape.trans h.tape, hb.b.output.trans h.output, Nat.le_trans h.size hb.b.size, fun k hk hr => (hb.b.block k hk).trans (h.block k hk hr)⟩
end
/-- three cells of a block of the call's own -/
structure Box3 (w : World) (g : Nat) (x : Val) : Prop where
  c0 : w.cell? ⟨g, 0, none⟩ = some (.int .u8 x.k)
  c1 : w.cell? ⟨g, 1, none⟩ = some (.int .i64 x.n)
  c2 : w.cell? ⟨g, 2, none⟩ = some (.string x.s)
  f0 : w.frozen? ⟨g, 0, none⟩ = false
  f1 : w.frozen? ⟨g, 1, none⟩ = false
  f2 : w.frozen? ⟨g, 2, none⟩ = false
theorem Box3.lt {w : World} {g : Nat} {x : Val} (h : Box3 w g x) : g < w.heap.size := World.block_lt_of_cell? w _ h.c0
theorem Box3.grown {w w' : World} {row : Option Nat} {g : Nat} {x : Val} (h : Box3 w g x) (hg : w.grownBy w' row) (hne : some g ≠ row) : Box3 w' g x := by
  have hf : ∀ j, w.frozen? ⟨g, j, none⟩ = false → w'.frozen? ⟨g, j, none⟩ = false := fun j hj => by
    have hb := hg.block g h.lt hne
    unfold World.frozen? at hj ⊢
    rw [hb]
    exact hj
  exact ⟨hg.cell h.c0 hne, hg.cell h.c1 hne, hg.cell h.c2 hne, hf _ h.f0, hf _ h.f1, hf _ h.f2⟩
end Go.Proofs.YtmcaednlilhnoaaGreatDoor
namespace Go.Zone
theorem Keep.grown_ {w W W' : World} {row : Option Nat} (hk : Keep w W) (hg : W.grownBy W' row) (hr : ∀ k, row = some k → w.heap.size ≤ k) : Keep w W' :=
  ⟨hg.os.trans hk.os, hg.tape.trans hk.tape, hg.output.trans hk.output, Nat.le_trans hk.size hg.size, fun i hi => (hg.block i (Nat.lt_of_lt_of_le hi hk.size) (fun e => by have := hr i e.symm; omega)).trans (hk.block i hi)⟩
end Go.Zone
namespace Go.Proofs.YtmcaednlilhnoaaGreatDoor
open Go.RowKit Go.Zone Go.Shelf
attribute [local go_sem] Zone.zone Zone.stepZ Zone.fill Zone.lookFs Zone.goes Zone.goesUpon Zone.dropFs Zone.cell_gro Zone.frozen_gro Zone.size_gro Zone.lt_add Zone.drew_gro Zone.tape_gro Zone.keep_refl
attribute [local go_sem] Zone.lt_add2 Zone.lt_add3 Zone.lt_add4 Zone.lt_add5 Zone.lt_add6 Zone.lt_add7 Zone.lt_add8 Zone.lt_add9 Zone.lt_add10 Zone.lt_add11 Zone.lt_add12
theorem unle_app (l r : List UInt8) : ∀ k, k ≤ l.length → unle (l ++ r) k = unle l k
  | 0, _ => rfl
  | k + 1, h => by
    simp only [unle]
    have e : (l ++ r).getD k 0 = l.getD k 0 := by
      rw [List.getD_eq_getElem?_getD, List.getElem?_append_left (show k < l.length by omega), ← List.getD_eq_getElem?_getD]
    rw [unle_app l r k (by omega), e]
theorem unle_le (n : Nat) : ∀ k, unle (le n k) k = n % 256 ^ k
  | 0 => by simp [unle, Nat.mod_one]
  | k + 1 => by
    have hl : (le n k).length = k := le_len n k
    have e : le n (k + 1) = le n k ++ [UInt8.ofNat (n / 256 ^ k)] := rfl
    rw [e]
    simp only [unle]
    rw [unle_app _ _ k (by omega), unle_le n k]
    have h2 : ((le n k ++ [UInt8.ofNat (n / 256 ^ k)]).getD k 0).toNat = n / 256 ^ k % 256 := by
      rw [List.getD_eq_getElem?_getD, List.getElem?_append_right (by omega), hl, Nat.sub_self]
      simp
    rw [h2, Nat.pow_succ, Nat.mod_mul, Nat.mul_comm (n / 256 ^ k % 256)]
theorem someR_at {bs X Y : List UInt8} {a n : Nat} (h : bs.drop a = X ++ Y) (hn : X.length = n) (ha : a ≤ bs.length) : someR bs a false n = (X, a + n, false) := by
  have hl : (bs.drop a).length = bs.length - a := List.length_drop
  rw [h] at hl
  simp only [List.length_append] at hl
  unfold someR
  rw [if_neg (by decide), if_pos (by omega), h, ← hn, List.take_left]
set_option maxHeartbeats 1000000 in
theorem rbytes_own {R c at_ : Nat} {A : Option Addr} {bs : List UInt8} {bad : Bool} (w : World) (n : Nat) (hn : n ≤ 1000000) (h : Rd w R A c bs at_ bad) : Calls Tryz.prog 149 #[.pointer (some ⟨R, 0, none⟩), .int .i64 n] w fun e w' => ∃ A' c', e = .returned (.slice A' (someR bs at_ bad n).1.length c') ∧ OwnB w' w.heap.size (.slice A' (someR bs at_ bad n).1.length c') (someR bs at_ bad n).1 ∧
    Rd w' R A c bs (someR bs at_ bad n).2.1 (someR bs at_ bad n).2.2 ∧ w.grownBy w' (some R) := by
  have HN := Lib.hid (some_any w n hn h)
  generalize someR bs at_ bad n = sr at HN
  obtain ⟨l, a2, b2⟩ := sr
  simp only at HN
  clear h
  go_enter Tryz.func149, Tryz.ntmps149
  go_wp2_with (go_at_call 201; refine Zone.hold ?_)
  refine Zone.unhold ?_
  refine HN.out.mono ?_
  rintro e w1 ⟨A', c', rfl, hsl, hrd, hg⟩
  have HS := Lib.hid (And.intro hsl (And.intro hrd hg))
  clear hsl hrd hg HN
  go_wp2_with (go_at_call 114; refine Zone.hold ?_)
  refine Zone.unhold ?_
  refine (clone8_any A' c' l _ HS.out.1).mono ?_
  rintro e w2 ⟨A2, c2, rfl, hown, hk⟩
  have HF := Lib.hid (And.intro (hown.base_mono HS.out.2.2.size) (And.intro (HS.out.2.1.keep hk) (grownBy_trans HS.out.2.2 (grownBy_keep hk))))
  clear hown hk HS
  go_wp2
  go_ret
  exact ⟨_, _, rfl, HF.out.1, HF.out.2.1, HF.out.2.2⟩
set_option maxRecDepth 100000 in
set_option maxHeartbeats 2000000 in
theorem unframe_any (A : Option Addr) (c p : Nat) (B bs rest : List UInt8) (w : World) (h : SlB w A c B) (hp : p ≤ B.length) (hd : B.drop p = frameB bs ++ rest) (hl : bs.length ≤ 1000000) :
    Calls Tryz.prog 88 #[.slice A B.length c, .int .i64 p] w fun e w' => ∃ A' c', e = .returned (.tuple #[.slice A' bs.length c', .int .i64 (p + (bs.length + 8) : Nat), .int .i64 0]) ∧ OwnB w' w.heap.size (.slice A' bs.length c') bs ∧ Keep w w' := by
  have hbl := h.len
  have hbig := h.big
  have hcap := h.cap
  have hlen : B.length = p + (bs.length + 8 + rest.length) := by
    have h1 : (B.drop p).length = B.length - p := List.length_drop
    rw [hd, List.length_append, frameB_len] at h1
    omega
  have hA : ∃ b off, A = some ⟨b, off, none⟩ := by
    obtain ⟨b, off, hA, _⟩ := h.at_ 0 (by omega)
    exact ⟨b, off, hA⟩
  obtain ⟨b, off, rfl⟩ := hA
  have HSD := Lib.hid (slB_drop h p hp)
  have hdl : (B.drop p).length = bs.length + 8 + rest.length := by rw [hd, List.length_append, frameB_len]
  have HNW := Lib.hid (fun W (hW : Keep w W) => new_any (some ⟨b, off + p, none⟩) (c - p) (B.drop p) W ((slB_drop h p hp).keep hW))
  generalize hD : B.drop p = D at hd hdl HNW HSD
  obtain ⟨sm, hsm⟩ : ∃ sm, sm = 4294967295 - sumC 4294967295 bs := ⟨_, rfl⟩
  have hs32 : sm < 4294967296 := by omega
  have hdd : D = le bs.length 4 ++ (bs ++ (le sm 4 ++ rest)) := by rw [hd, hsm]; simp [frameB, crcB]
  have E1 := Lib.hid (someR_at (bs := D) (a := 0) (n := 4) (X := le bs.length 4) (Y := bs ++ (le sm 4 ++ rest)) (by rw [hdd]; simp) (le_len _ _) (Nat.zero_le _))
  have E2 := Lib.hid (someR_at (bs := D) (a := 0 + 4) (n := bs.length) (X := bs) (Y := le sm 4 ++ rest) (by rw [hdd, Nat.zero_add, List.drop_left' (le_len _ _)]) rfl (by omega))
  have E3 := Lib.hid (someR_at (bs := D) (a := 0 + 4 + bs.length) (n := 4) (X := le sm 4) (Y := rest) (by rw [hdd, ← List.append_assoc, List.drop_left' (by simp [le_len])]) (le_len _ _) (by omega))
  have U1 := Lib.hid (show ((unle (le bs.length 4) (le bs.length 4).length : Nat) % 4294967296 : Int) = (bs.length : Int) by rw [le_len, unle_le]; omega)
  have U2 := Lib.hid (show ((unle (le sm 4) (le sm 4).length : Nat) % 4294967296 : Int) = (sm : Int) by rw [le_len, unle_le]; omega)
  have HSM := Lib.hid (fun A c W (hW : SlB W A c bs) => csum_any A c bs W hW)
  rw [← hsm] at HSM
  have hcp : ¬ c = p := by omega
  have hwl : IntKind.i64.wrap (bs.length : Int) = (bs.length : Int) := by rw [IntKind.wrap_i64]; omega
  have HDL := Lib.hid hdl
  have hsub : B.length - p = D.length := by omega
  have hpB : (p : Int) ≤ (B.length : Int) := by omega
  have hd1 : decide ((p : Int) < 0) = false := by simp
  have hd2 : decide ((B.length : Int) < (p : Int)) = false := by simp; omega
  have hd3 : decide ((1073741824 : Int) < (bs.length : Int)) = false := by simp; omega
  clear h hd hD hsm hdd hlen hdl
  go_enter Tryz.func88, Tryz.ntmps88
  go_wp2_with (go_at_call 91; refine Zone.hold ?_)
  refine Zone.unhold ?_
  refine (HNW.out _ (Keep.refl _)).mono ?_
  rintro e w1 ⟨R, A1, c1, rfl, hR, hrd, hk1⟩
  have HR := Lib.hid hR
  have HRD := Lib.hid hrd
  have HK1 := Lib.hid hk1
  clear hR hrd hk1 HNW HSD
  have hu := u32_any w1 HRD.out
  rw [E1.out] at hu
  simp only at hu
  rw [U1.out] at hu
  have HU := Lib.hid hu
  clear hu
  go_wp2_with (go_at_call 92; refine Zone.hold ?_)
  refine Zone.unhold ?_
  refine HU.out.mono ?_
  rintro e w2 ⟨rfl, hrd2, hg2⟩
  have HRD2 := Lib.hid hrd2
  have HK2 := Lib.hid (Keep.grown_ HK1.out hg2 (fun k e => by injection e with e; rw [← e]; exact HR.out))
  clear hrd2 hg2 HU HRD
  have hu := rbytes_own w2 bs.length hl HRD2.out
  rw [E2.out] at hu
  simp only at hu
  have HU := Lib.hid hu
  clear hu
  go_wp2_with (go_at_call 149; refine Zone.hold ?_)
  refine Zone.unhold ?_
  refine HU.out.mono ?_
  rintro e w3 ⟨A3, c3, rfl, hown3, hrd3, hg3⟩
  have HRD3 := Lib.hid hrd3
  have HK3 := Lib.hid (Keep.grown_ HK2.out hg3 (fun k e => by injection e with e; rw [← e]; exact HR.out))
  have HO3 := Lib.hid hown3
  have HRL := Lib.hid HRD2.out.lt
  have HZ2 := Lib.hid HK2.out.size
  clear hrd3 hg3 HU HRD2 hown3
  have hu := u32_any w3 HRD3.out
  rw [E3.out] at hu
  simp only at hu
  rw [U2.out] at hu
  have HU := Lib.hid hu
  clear hu
  go_wp2_with (go_at_call 92; refine Zone.hold ?_)
  refine Zone.unhold ?_
  refine HU.out.mono ?_
  rintro e w4 ⟨rfl, hrd4, hg4⟩
  have HRD4 := Lib.hid hrd4
  have HK4 := Lib.hid (Keep.grown_ HK3.out hg4 (fun k e => by injection e with e; rw [← e]; exact HR.out))
  have HO4 := Lib.hid (HO3.out.grown hg4 fun j e h => by
    injection e with e
    subst e
    have := (HO3.out.lt _ h).1
    have := HRL.out
    omega)
  clear hrd4 hg4 HU HRD3 HO3
  go_wp2_with (go_at_call 150; refine Zone.hold ?_)
  refine Zone.unhold ?_
  refine (bad_any w4 HRD4.out).mono ?_
  rintro e w5 ⟨rfl, rfl⟩
  obtain ⟨A9, c9, hv9, hsl9⟩ := HO4.out.sl b8_len (by omega)
  injection hv9 with hv9 _ hc9
  subst hv9; subst hc9
  have HSX := Lib.hid (HSM.out A3 c3 w4 hsl9)
  clear hsl9 HSM
  go_wp2_with (go_at_call 146; refine Zone.hold ?_)
  refine Zone.unhold ?_
  refine HSX.out.mono ?_
  rintro e w6 ⟨rfl, hk6⟩
  have HRD6 := Lib.hid (HRD4.out.keep hk6)
  have HK6 := Lib.hid (HK4.out.trans hk6)
  have HO6 := Lib.hid ((HO4.out.keep hk6).base_mono HZ2.out)
  clear hk6 HSX HRD4 HO4
  have ha := at_any w6 HRD6.out
  obtain ⟨m, hm⟩ : ∃ m, m = 0 + 4 + bs.length + 4 := ⟨_, rfl⟩
  obtain ⟨q, hq⟩ : ∃ q, q = p + (bs.length + 8) := ⟨_, rfl⟩
  rw [← hm] at ha
  have hpm : (p : Int) + (m : Int) = (q : Int) := by omega
  have hqb : q ≤ 140737488355328 := by have := HDL.out; omega
  have HAT := Lib.hid ha
  have HQ := Lib.hid hq
  clear ha hm hq
  go_wp2_with (go_at_call 151; refine Zone.hold ?_)
  refine Zone.unhold ?_
  refine HAT.out.mono ?_
  rintro e w7 ⟨rfl, rfl⟩
  go_wp2
  exact bodyPost_ret (v := .tuple #[.slice A3 bs.length c3, .int .i64 q, .int .i64 0]) (by simp [results, Tryz.results88, go_sem]) rfl ⟨A3, c3, by rw [HQ.out], HO6.out, HK6.out⟩
end Go.Proofs.YtmcaednlilhnoaaGreatDoor
namespace Go.Proofs.YtmcaednlilhnoaaGreatDoor
open Go.RowKit Go.Zone Go.Shelf
attribute [local go_sem] Zone.zone Zone.stepZ Zone.fill Zone.lookFs Zone.goes Zone.goesUpon Zone.dropFs Zone.cell_gro Zone.frozen_gro Zone.size_gro Zone.lt_add Zone.drew_gro Zone.tape_gro Zone.keep_refl
attribute [local go_sem] Zone.lt_add2 Zone.lt_add3 Zone.lt_add4 Zone.lt_add5 Zone.lt_add6 Zone.lt_add7 Zone.lt_add8 Zone.lt_add9 Zone.lt_add10 Zone.lt_add11 Zone.lt_add12
theorem slB_mid {w : World} {b off c : Nat} {B X Y : List UInt8} (h : SlB w (some ⟨b, off, none⟩) c B) (p : Nat) (hp : p ≤ B.length) (hd : B.drop p = X ++ Y) : SlB w (some ⟨b, off + p, none⟩) (c - p) X := by
  have h1 := slB_drop h p hp
  rw [hd] at h1
  have h2 := h1.cut_front X.length (by simp)
  rwa [List.take_left] at h2
theorem drop_step {α : Type} {B X Y : List α} {p : Nat} (hd : B.drop p = X ++ Y) : B.drop (p + X.length) = Y := by
  rw [← List.drop_drop, hd, List.drop_left]
set_option maxRecDepth 100000 in
set_option maxHeartbeats 2000000 in
theorem name_any (A : Option Addr) (c p : Nat) (B rest : List UInt8) (nm : ByteArray) (w : World) (h : SlB w A c B) (hp : p ≤ B.length) (hd : B.drop p = [UInt8.ofNat nm.size] ++ (nm.data.toList ++ rest)) (hn : NameS nm) :
    Calls Tryz.prog 86 #[.slice A B.length c, .int .i64 p] w fun e w' => e = .returned (.tuple #[.string nm, .int .i64 (p + 1 + nm.size : Nat), .int .i64 0]) ∧ Keep w w' := by
  have hlo := hn.lo
  have hhi := hn.hi
  have hsz : nm.data.toList.length = nm.size := by rw [Lib.size_eq]
  have hbl := h.len
  have hbig := h.big
  have hcap := h.cap
  have hlen : B.length = p + (1 + nm.size + rest.length) := by
    have h1 : (B.drop p).length = B.length - p := List.length_drop
    rw [hd] at h1
    simp only [List.length_append, List.length_singleton, hsz] at h1
    omega
  obtain ⟨b, off, hA, hb0, hc0⟩ := sl_byte h p (by omega)
  have hbp : B[p]'(by omega) = UInt8.ofNat nm.size := by
    have h1 : (B.drop p)[0]? = some (UInt8.ofNat nm.size) := by rw [hd]; rfl
    rw [List.getElem?_drop, Nat.add_zero, List.getElem?_eq_getElem (by omega)] at h1
    exact Option.some.inj h1
  rw [hbp, u8_nat, show (nm.size : Int) % 256 = (nm.size : Int) by omega] at hc0
  subst hA
  have hd1 : B.drop (p + 1) = nm.data.toList ++ rest := drop_step hd
  have hsl := slB_mid h (p + 1) (by omega) hd1
  have hcv := strB hsl
  rw [hsz] at hcv
  have hcv2 : (convert 74 9 (.slice (some ⟨b, off + (p + 1), none⟩) nm.size (c - (p + 1)))).run Tryz.prog w = .ok (.string nm) w := hcv
  have HN := Lib.hid (pB_yes hn ▸ secName_any nm w (by omega))
  have HS := Lib.hid hn
  obtain ⟨q, hq⟩ : ∃ q, q = p + 1 := ⟨_, rfl⟩
  obtain ⟨r, hr⟩ : ∃ r, r = p + 1 + nm.size := ⟨_, rfl⟩
  rw [← hr]
  rw [← hq] at hcv2
  have hq2 : (p : Int) + 1 = (q : Int) := by omega
  have hr2 : (q : Int) + (nm.size : Int) = (r : Int) := by omega
  have hrs : r - q = nm.size := by omega
  have hcq : ¬ c = q := by omega
  have hrc : r ≤ c := by omega
  have hqr : q ≤ r := by omega
  have hpB : (p : Int) < (B.length : Int) := by omega
  have hd4 : decide ((B.length : Int) ≤ (p : Int)) = false := by simp; omega
  have hd5 : decide ((nm.size : Int) < 1) = false := by simp; omega
  have hd6 : decide ((20 : Int) < (nm.size : Int)) = false := by simp; omega
  have hd7 : decide ((B.length : Int) - (p : Int) - 1 < (nm.size : Int)) = false := by simp; omega
  have HB := Lib.hid (show (r : Int) ≤ B.length by omega)
  clear h hd hlen hbp hd1 hsl hcv hq hr hsz hn
  go_enter Tryz.func86, Tryz.ntmps86
  go_wp2_with (go_at_call 145; refine (HN.out).mono ?_; rintro e w' ⟨rfl, hk⟩; (first | obtain ⟨p, rfl⟩ := Zone.gro_of_gro _ _ hk | obtain ⟨p, rfl⟩ := Zone.gro_of_below _ hk); clear hk)
  exact bodyPost_ret (v := .tuple #[.string nm, .int .i64 r, .int .i64 0]) (by simp [results, Tryz.results86, go_sem]) rfl ⟨rfl, (by repeat (first | exact Keep.refl _ | apply Keep.alloc | apply Keep.gro | apply Keep.drew | apply Keep.drewN))⟩
end Go.Proofs.YtmcaednlilhnoaaGreatDoor
