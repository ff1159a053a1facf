
/- Contracts of values.number, values.Int, values.Text, values.Read. -/
import Derived.WalkKit
import Derived.Lib.Hide
import Derived.WalkSpells
import Derived.WalkLawsBesides
import Derived.BigQuiet
import Derived.Shelf.Abstract
import Derived.Laws.IdiomStrings
import Derived.Test.YtmcaednlilhnoaaGreatDoorUint
import Derived.Test.YtmcaednlilhnoaaGreatDoorJk
import Derived.Test.YtmcaednlilhnoaaGreatDoorJg
namespace Go.Proofs.YtmcaednlilhnoaaGreatDoor
open Go.RowKit Go.Zone Go.Shelf
attribute [local go_sem] Zone.zone Zone.stepZ Zone.fill Zone.lookFs Zone.goes Zone.goesUpon Zone.dropFs Zone.cell_gro Zone.frozen_gro Zone.size_gro Zone.lt_add Zone.drew_gro Zone.tape_gro Zone.keep_refl
theorem str_of {w : World} {A : Option Addr} {c : Nat} {l : List UInt8} (h : SlB w A c l) : (convert 74 9 (.slice A l.length c)).run Tryz.prog w = .ok (.string ⟨l.toArray⟩) w := by
  cases A with
  | none =>
    have hx : l = [] := by
      rcases l with _ | ⟨y, r⟩
      · rfl
      · obtain ⟨_, _, hA, _⟩ := h.at_ 0 (by simp)
        cases hA
    subst hx
    rw [run_convert_bytes_string w 74 9 5 none _ c Tryz.underlying74 Tryz.underlying5 Tryz.underlying9]
    rfl
  | some a =>
    refine run_convert_bytes_back w 74 9 5 a c l Tryz.underlying74 Tryz.underlying5 Tryz.underlying9 fun j hj => ?_
    obtain ⟨b, off, hA, _, hc⟩ := sl_byte h j hj
    injection hA with hA
    subst hA
    unfold Addr.add
    split
    · rename_i h0; subst h0; exact hc
    · exact hc
theorem vint_any (n : Int) (w : World) : Calls Tryz.prog 204 #[.int .i64 n] w fun e w' => e = .returned (.agg #[.int .u8 1, .int .i64 n, .string ⟨#[]⟩]) ∧ Keep w w' := by
  go_enter Tryz.func204, Tryz.ntmps204
  go_wp2
  exact bodyPost_ret (v := .agg #[.int .u8 1, .int .i64 n, .string ⟨#[]⟩]) (by simp [results, Tryz.results204, go_sem]) rfl ⟨rfl, by repeat (first | exact Keep.refl _ | apply Keep.alloc | (refine Keep.setCell ?_ (by simp) _))⟩
theorem vtext_any (s : ByteArray) (w : World) : Calls Tryz.prog 205 #[.string s] w fun e w' => e = .returned (.agg #[.int .u8 2, .int .i64 0, .string s]) ∧ Keep w w' := by
  go_enter Tryz.func205, Tryz.ntmps205
  go_wp2
  exact bodyPost_ret (v := .agg #[.int .u8 2, .int .i64 0, .string s]) (by simp [results, Tryz.results205, go_sem]) rfl ⟨rfl, by repeat (first | exact Keep.refl _ | apply Keep.alloc | (refine Keep.setCell ?_ (by simp) _))⟩
section
variable {w w' : World} {R c at_ : Nat} {A : Option Addr} {bs : List UInt8} {bad : Bool}
/-- a value's number: of eight bytes, or a short one -/
def numR (kind : Int) (bs : List UInt8) (a : Nat) (bad : Bool) : Nat × Nat × Bool := if kind == 2 then uintR bs a bad else (unle (someR bs a bad 8).1 (someR bs a bad 8).1.length, (someR bs a bad 8).2.1, (someR bs a bad 8).2.2)
theorem vnum_any (kind : Int) (w : World) (h : Rd w R A c bs at_ bad) : Calls Tryz.prog 203 #[.pointer (some ⟨R, 0, none⟩), .int .u8 kind] w fun e w' => e = .returned (.int .u64 ((numR kind bs at_ bad).1 : Int)) ∧
    Rd w' R A c bs (numR kind bs at_ bad).2.1 (numR kind bs at_ bad).2.2 ∧ w.grownBy w' (some R) := by
  have HU := Lib.hid (uint_any w h)
  have H8 := Lib.hid (u64_any w h)
  clear h
  cases hk : (kind == 2)
  · have hr : numR kind bs at_ bad = (unle (someR bs at_ bad 8).1 (someR bs at_ bad 8).1.length, (someR bs at_ bad 8).2.1, (someR bs at_ bad 8).2.2) := by simp [numR, hk]
    rw [hr]
    clear hr
    go_enter Tryz.func203, Tryz.ntmps203
    go_wp2_with (go_at_call 156; refine Zone.hold ?_)
    refine Zone.unhold ?_
    refine H8.out.mono ?_
    rintro e w1 ⟨rfl, hrd, hg⟩
    go_wp2
    go_ret
    exact ⟨rfl, hrd, hg⟩
  · have hr : numR kind bs at_ bad = uintR bs at_ bad := by simp [numR, hk]
    rw [hr]
    clear hr
    go_enter Tryz.func203, Tryz.ntmps203
    go_wp2_with (go_at_call 252; refine Zone.hold ?_)
    refine Zone.unhold ?_
    refine HU.out.mono ?_
    rintro e w1 ⟨rfl, hrd, hg⟩
    go_wp2
    go_ret
    exact ⟨rfl, hrd, hg⟩
/-- a value read: the value, whether it is there, the place and the badness behind it -/
def readV (kind : Int) (bs : List UInt8) (a : Nat) : Val × Bool × Nat × Bool :=
  if kind == 2 then
    if 65535 < (numR kind bs a false).1 then (zeroVal, false, (numR kind bs a false).2.1, (numR kind bs a false).2.2)
    else if (someR bs (numR kind bs a false).2.1 (numR kind bs a false).2.2 (numR kind bs a false).1).2.2 then (zeroVal, false, (someR bs (numR kind bs a false).2.1 (numR kind bs a false).2.2 (numR kind bs a false).1).2.1, true)
    else (⟨2, 0, ⟨(someR bs (numR kind bs a false).2.1 (numR kind bs a false).2.2 (numR kind bs a false).1).1.toArray⟩⟩, true, (someR bs (numR kind bs a false).2.1 (numR kind bs a false).2.2 (numR kind bs a false).1).2.1, false)
  else if (numR kind bs a false).2.2 then (zeroVal, false, (numR kind bs a false).2.1, true)
  else (⟨1, wrap64 (numR kind bs a false).1, ⟨#[]⟩⟩, true, (numR kind bs a false).2.1, false)
set_option maxRecDepth 100000 in
set_option maxHeartbeats 2000000 in
theorem vread_int (w : World) (h : Rd w R A c bs at_ false) : Calls Tryz.prog 158 #[.pointer (some ⟨R, 0, none⟩), .int .u8 1] w fun e w' => e = .returned (.tuple #[(readV 1 bs at_).1.v, .bool (readV 1 bs at_).2.1]) ∧
    Rd w' R A c bs (readV 1 bs at_).2.2.1 (readV 1 bs at_).2.2.2 ∧ w.grownBy w' (some R) := by
  have H := Lib.hid h
  have hR := h.lt
  clear h
  obtain ⟨⟨n, a1, b1⟩, hnum⟩ : ∃ r, numR 1 bs at_ false = r := ⟨_, rfl⟩
  have hv : readV 1 bs at_ = if b1 then (zeroVal, false, a1, true) else (⟨1, wrap64 n, ⟨#[]⟩⟩, true, a1, false) := by simp [readV, hnum]
  have HV := Lib.hid hv
  have HNUM := Lib.hid hnum
  clear hv hnum
  go_enter Tryz.func158, Tryz.ntmps158
  go_wp2_with (go_at_call 203; refine Zone.hold ?_)
  refine Zone.unhold ?_
  refine (vnum_any 1 _ (H.out.keep (by repeat (first | exact Keep.refl _ | apply Keep.alloc | apply Keep.gro | apply Keep.drew | apply Keep.drewN)))).mono ?_
  rw [HNUM.out]
  rintro e w1 ⟨rfl, hrd, hg⟩
  simp only at hrd
  have hbx : Box3 w1 w.heap.size zeroVal := Box3.grown (w := w.alloc (.cells #[.int .u8 0, .int .i64 0, .string ByteArray.empty] 61)) ⟨by simp [go_sem, zeroVal], by simp [go_sem, zeroVal], by simp [go_sem, zeroVal]; rfl, by simp [go_sem], by simp [go_sem], by simp [go_sem]⟩ hg (fun e => by injection e with e; omega)
  have c0 := hbx.c0
  have c1 := hbx.c1
  have c2 := hbx.c2
  have f0 := hbx.f0
  have f1 := hbx.f1
  have f2 := hbx.f2
  have hblt := hbx.lt
  have HG := Lib.hid (grownBy_trans (grownBy_keep (Keep.alloc (Keep.refl w) _)) hg)
  have HRD := Lib.hid hrd
  have hsz := HG.out.size
  clear hrd hg hbx
  simp only [zeroVal] at c0 c1 c2
  cases b1
  · have HV2 := HV.out
    simp only [Bool.false_eq_true, if_false] at HV2
    have HV3 := Lib.hid HV2
    clear HV2 HV
    go_wp2_with (first | (go_at_call 204; refine (vint_any _ _).mono ?_; rintro e w' ⟨rfl, hk⟩; (first | obtain ⟨p, rfl⟩ := Zone.gro_of_gro _ _ hk | obtain ⟨p, rfl⟩ := Zone.gro_of_below _ hk); clear hk) | (go_at_call 150; refine (bad_any _ (HRD.out.keep (by repeat (first | exact Keep.refl _ | apply Keep.gro | apply Keep.alloc | (refine Keep.setCell ?_ (by simp [size_gro]) _))))).mono ?_; rintro e w' ⟨rfl, rfl⟩))
    rw [HV3.out]
    exact bodyPost_ret (v := .tuple #[.agg #[.int .u8 1, .int .i64 (wrap64 n), .string ⟨#[]⟩], .bool true]) (by simp [results, Tryz.results158, go_sem, *]) rfl ⟨rfl, H.out.later HRD.out (by repeat (first | exact Bel.refl HG.out.size | apply Bel.alloc | apply Bel.gro | (refine Bel.setCell ?_ (by simp [size_gro] <;> omega) _))), grownBy_bel HG.out (by repeat (first | exact Bel.refl HG.out.size | apply Bel.alloc | apply Bel.gro | (refine Bel.setCell ?_ (by simp [size_gro] <;> omega) _)))⟩
  · have HV2 := HV.out
    simp only [if_true] at HV2
    have HV3 := Lib.hid HV2
    clear HV2 HV
    go_wp2_with (first | (go_at_call 204; refine (vint_any _ _).mono ?_; rintro e w' ⟨rfl, hk⟩; (first | obtain ⟨p, rfl⟩ := Zone.gro_of_gro _ _ hk | obtain ⟨p, rfl⟩ := Zone.gro_of_below _ hk); clear hk) | (go_at_call 150; refine (bad_any _ (HRD.out.keep (by repeat (first | exact Keep.refl _ | apply Keep.gro | apply Keep.alloc | (refine Keep.setCell ?_ (by simp [size_gro]) _))))).mono ?_; rintro e w' ⟨rfl, rfl⟩))
    rw [HV3.out]
    exact bodyPost_ret (v := .tuple #[.agg #[.int .u8 0, .int .i64 0, .string ⟨#[]⟩], .bool false]) (by simp [results, Tryz.results158, go_sem, *]) rfl ⟨rfl, H.out.later HRD.out (by repeat (first | exact Bel.refl HG.out.size | apply Bel.alloc | apply Bel.gro | (refine Bel.setCell ?_ (by simp [size_gro] <;> omega) _))), grownBy_bel HG.out (by repeat (first | exact Bel.refl HG.out.size | apply Bel.alloc | apply Bel.gro | (refine Bel.setCell ?_ (by simp [size_gro] <;> omega) _)))⟩
end
end Go.Proofs.YtmcaednlilhnoaaGreatDoor
