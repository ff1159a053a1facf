
/- Contract of values.Read at texts. -/
import Derived.WalkKit
import Derived.Lib.Hide
import Derived.WalkSpells
import Derived.WalkLawsBesides
import Derived.BigQuiet
import Derived.Shelf.Abstract
import Derived.Test.YtmcaednlilhnoaaGreatDoorVRead
namespace Go.Proofs.YtmcaednlilhnoaaGreatDoor
open Go.RowKit Go.Zone Go.Shelf
attribute [local go_sem] Zone.zone Zone.stepZ Zone.fill Zone.lookFs Zone.goes Zone.goesUpon Zone.dropFs Zone.cell_gro Zone.frozen_gro Zone.size_gro Zone.lt_add Zone.drew_gro Zone.tape_gro Zone.keep_refl
section
variable {w w' : World} {R c at_ : Nat} {A : Option Addr} {bs : List UInt8} {bad : Bool}
set_option maxRecDepth 100000 in
set_option maxHeartbeats 2000000 in
theorem vread_text (w : World) (h : Rd w R A c bs at_ false) : Calls Tryz.prog 158 #[.pointer (some ⟨R, 0, none⟩), .int .u8 2] w fun e w' => e = .returned (.tuple #[(readV 2 bs at_).1.v, .bool (readV 2 bs at_).2.1]) ∧
    Rd w' R A c bs (readV 2 bs at_).2.2.1 (readV 2 bs at_).2.2.2 ∧ w.grownBy w' (some R) := by
  have H := Lib.hid h
  have hR := h.lt
  clear h
  obtain ⟨⟨n, a1, b1⟩, hnum⟩ : ∃ r, numR 2 bs at_ false = r := ⟨_, rfl⟩
  have hv : readV 2 bs at_ = if 65535 < n then (zeroVal, false, a1, b1) else if (someR bs a1 b1 n).2.2 then (zeroVal, false, (someR bs a1 b1 n).2.1, true) else (⟨2, 0, ⟨(someR bs a1 b1 n).1.toArray⟩⟩, true, (someR bs a1 b1 n).2.1, false) := by simp [readV, hnum]
  have HV := Lib.hid hv
  have HNUM := Lib.hid hnum
  clear hv hnum
  go_enter Tryz.func158, Tryz.ntmps158
  go_wp2_with (go_at_call 203; refine Zone.hold ?_)
  refine Zone.unhold ?_
  refine (vnum_any 2 _ (H.out.keep (by repeat (first | exact Keep.refl _ | apply Keep.alloc | apply Keep.gro | apply Keep.drew | apply Keep.drewN)))).mono ?_
  rw [HNUM.out]
  rintro e w1 ⟨rfl, hrd, hg⟩
  simp only at hrd
  have hbx : Box3 w1 w.heap.size zeroVal := Box3.grown (w := w.alloc (.cells #[.int .u8 0, .int .i64 0, .string ByteArray.empty] 61)) ⟨by simp [go_sem, zeroVal], by simp [go_sem, zeroVal], by simp [go_sem, zeroVal]; rfl, by simp [go_sem], by simp [go_sem], by simp [go_sem]⟩ hg (fun e => by injection e with e; omega)
  have HG := Lib.hid (grownBy_trans (grownBy_keep (Keep.alloc (Keep.refl w) _)) hg)
  have HRD := Lib.hid hrd
  have HBX := Lib.hid hbx
  have hsz := HG.out.size
  have hblt := hbx.lt
  clear hrd hg hbx
  by_cases hbig : 65535 < n
  · have HV2 := HV.out
    rw [if_pos hbig] at HV2
    have HV3 := Lib.hid HV2
    clear HV2 HV
    have c0 := HBX.out.c0
    have c1 := HBX.out.c1
    have c2 := HBX.out.c2
    have f0 := HBX.out.f0
    have f1 := HBX.out.f1
    have f2 := HBX.out.f2
    simp only [zeroVal] at c0 c1 c2
    go_wp2_with (go_at_call 204; refine (vint_any _ _).mono ?_; rintro e w' ⟨rfl, hk⟩; (first | obtain ⟨p, rfl⟩ := Zone.gro_of_gro _ _ hk | obtain ⟨p, rfl⟩ := Zone.gro_of_below _ hk); clear hk)
    rw [HV3.out]
    exact bodyPost_ret (v := .tuple #[.agg #[.int .u8 0, .int .i64 0, .string ⟨#[]⟩], .bool false]) (by simp [results, Tryz.results158, go_sem, *]) rfl ⟨rfl, H.out.later HRD.out (by repeat (first | exact Bel.refl HG.out.size | apply Bel.alloc | apply Bel.gro | (refine Bel.setCell ?_ (by simp [size_gro] <;> omega) _))), grownBy_bel HG.out (by repeat (first | exact Bel.refl HG.out.size | apply Bel.alloc | apply Bel.gro | (refine Bel.setCell ?_ (by simp [size_gro] <;> omega) _)))⟩
  · have HV2 := HV.out
    rw [if_neg hbig] at HV2
    have HV3 := Lib.hid HV2
    clear HV2 HV
    have hwn : wrap64 (n : Int) = (n : Int) := by unfold wrap64; omega
    go_wp2_with (first | (go_at_call 204; refine (vint_any _ _).mono ?_; rintro e w' ⟨rfl, hk⟩; (first | obtain ⟨p, rfl⟩ := Zone.gro_of_gro _ _ hk | obtain ⟨p, rfl⟩ := Zone.gro_of_below _ hk); clear hk) | (go_at_call 149; refine Zone.hold ?_))
    refine Zone.unhold ?_
    have hbx0 : Box3 ((w1.gro p).alloc (.cells #[.int .u8 1, .int .i64 n, .string ByteArray.empty] 61)) w.heap.size zeroVal := HBX.out.grown (grownBy_keep (g := R) (Keep.alloc (below_gro w1 p) _)) (fun e => by injection e with e; omega)
    have hbx7 : Box3 ((w1.gro p).alloc (.cells #[.int .u8 1, .int .i64 n, .string ByteArray.empty] 61)) (w1.heap.size + p.os.size) ⟨1, n, ByteArray.empty⟩ := ⟨by simp [go_sem, size_gro], by simp [go_sem, size_gro], by simp [go_sem, size_gro], by simp [go_sem, size_gro], by simp [go_sem, size_gro], by simp [go_sem, size_gro]⟩
    refine (rbytes_any _ n (by omega) (HRD.out.keep (by repeat (first | exact Keep.refl _ | apply Keep.gro | apply Keep.alloc)))).mono ?_
    obtain ⟨⟨l, a2, b2⟩, hsome⟩ : ∃ r, someR bs a1 b1 n = r := ⟨_, rfl⟩
    rw [hsome] at HV3 ⊢
    simp only at HV3 ⊢
    rintro e w2 ⟨A', c', rfl, hsl, hrd2, hg2⟩
    have hb0 := hbx0.grown hg2 (fun e => by injection e with e; omega)
    have hb7 := hbx7.grown hg2 (fun e => by injection e with e; omega)
    have HG2 := Lib.hid (grownBy_trans HG.out (grownBy_trans (grownBy_keep (Keep.alloc (below_gro w1 p) _)) hg2))
    have HRD2 := Lib.hid hrd2
    have hstr := str_of hsl
    have hsz2 := hb0.lt
    have hsz7 := hb7.lt
    have hz2 := HG2.out.size
    have c0 := hb0.c0
    have c1 := hb0.c1
    have c2 := hb0.c2
    have f0 := hb0.f0
    have f1 := hb0.f1
    have f2 := hb0.f2
    have d0 := hb7.c0
    have d1 := hb7.c1
    have d2 := hb7.c2
    have g0 := hb7.f0
    have g1 := hb7.f1
    have g2 := hb7.f2
    simp only [zeroVal] at c0 c1 c2 d0 d1 d2
    clear hb0 hb7 hg2 hrd2 hsl hbx0 hbx7 hsome hwn
    have hB7 : w.heap.size ≤ w1.heap.size + p.os.size := by omega
    have hBn : ¬ (w1.heap.size + p.os.size = w.heap.size) := by omega
    have hBm : ¬ (w.heap.size = w1.heap.size + p.os.size) := by omega
    generalize w1.heap.size + p.os.size = B7 at *
    go_wp2_with (go_at_call 205; refine Zone.hold ?_)
    refine Zone.unhold ?_
    clear hstr
    refine (vtext_any _ _).mono ?_
    rintro e w3 ⟨rfl, hk3⟩
    obtain ⟨p3, rfl⟩ := Zone.gro_of_below _ hk3
    clear hk3
    go_wp2_with (go_at_call 150; refine Zone.hold ?_)
    refine Zone.unhold ?_
    have HRD4 := Lib.hid (H.out.later HRD2.out (W' := (((w2.gro p3).setCell ⟨B7, 0, none⟩ (.int .u8 2)).setCell ⟨B7, 1, none⟩ (.int .i64 0)).setCell ⟨B7, 2, none⟩ (.string ⟨l.toArray⟩)) (by
      refine Bel.setCell (Bel.setCell (Bel.setCell (Bel.gro (Bel.refl HG2.out.size) _) ?_ _) ?_ _) ?_ _ <;> simpa using hB7))
    have HG4 := Lib.hid (grownBy_bel HG2.out (W' := (((w2.gro p3).setCell ⟨B7, 0, none⟩ (.int .u8 2)).setCell ⟨B7, 1, none⟩ (.int .i64 0)).setCell ⟨B7, 2, none⟩ (.string ⟨l.toArray⟩)) (by
      refine Bel.setCell (Bel.setCell (Bel.setCell (Bel.gro (Bel.refl HG2.out.size) _) ?_ _) ?_ _) ?_ _ <;> simpa using hB7))
    refine (bad_any _ HRD4.out).mono ?_
    rintro e w5 ⟨rfl, rfl⟩
    cases b2
    · have HV4 := HV3.out
      simp only [Bool.false_eq_true, if_false] at HV4
      have HV5 := Lib.hid HV4
      clear HV4 HV3
      go_wp2
      rw [HV5.out]
      exact bodyPost_ret (v := .tuple #[.agg #[.int .u8 2, .int .i64 0, .string ⟨l.toArray⟩], .bool true]) (by simp [results, Tryz.results158, go_sem, *]) rfl ⟨rfl, H.out.later HRD4.out (Bel.setCell (Bel.setCell (Bel.setCell (Bel.refl HG4.out.size) (Nat.le_refl _) _) (Nat.le_refl _) _) (Nat.le_refl _) _), grownBy_bel HG4.out (Bel.setCell (Bel.setCell (Bel.setCell (Bel.refl HG4.out.size) (Nat.le_refl _) _) (Nat.le_refl _) _) (Nat.le_refl _) _)⟩
    · have HV4 := HV3.out
      simp only [if_true] at HV4
      have HV5 := Lib.hid HV4
      clear HV4 HV3
      go_wp2
      rw [HV5.out]
      exact bodyPost_ret (v := .tuple #[.agg #[.int .u8 0, .int .i64 0, .string ⟨#[]⟩], .bool false]) (by simp [results, Tryz.results158, go_sem, *]) rfl ⟨rfl, H.out.later HRD4.out (Bel.setCell (Bel.setCell (Bel.setCell (Bel.refl HG4.out.size) (Nat.le_refl _) _) (Nat.le_refl _) _) (Nat.le_refl _) _), grownBy_bel HG4.out (Bel.setCell (Bel.setCell (Bel.setCell (Bel.refl HG4.out.size) (Nat.le_refl _) _) (Nat.le_refl _) _) (Nat.le_refl _) _)⟩
end
end Go.Proofs.YtmcaednlilhnoaaGreatDoor
