
/- Contracts of schema's names: isName. -/
import Derived.WalkKit
import Derived.Lib.Hide
import Derived.WalkSpells
import Derived.WalkLawsBesides
import Derived.BigQuiet
import Derived.Shelf.Abstract
import Derived.Laws.RangeAny
import Derived.LoopTactic
import Derived.Test.YtcffcblfmlclnaaGreatDoorBt
import Derived.Test.YtcffcblfmlclnaaGreatDoorZoneF
namespace Go.Proofs.YtcffcblfmlclnaaGreatDoor
open Go.RowKit Go.Zone Go.Shelf
attribute [local go_sem] Zone.zone Zone.stepZ Zone.fill Zone.lookFs Zone.goes Zone.goesUpon Zone.dropFs Zone.cell_gro Zone.frozen_gro Zone.size_gro Zone.lt_add Zone.drew_gro Zone.tape_gro Zone.keep_refl
attribute [local go_sem] Zone.lt_add2 Zone.lt_add3 Zone.lt_add4 Zone.lt_add5 Zone.lt_add6 Zone.lt_add7 Zone.lt_add8 Zone.lt_add9 Zone.lt_add10 Zone.lt_add11 Zone.lt_add12
/-- whether something is so, as the program answers it -/
noncomputable def pB (p : Prop) : Bool := @decide p (Classical.propDecidable p)
theorem pB_yes {p : Prop} (h : p) : pB p = true := by unfold pB; exact @decide_eq_true _ (Classical.propDecidable p) h
theorem pB_no {p : Prop} (h : ¬ p) : pB p = false := by unfold pB; exact @decide_eq_false _ (Classical.propDecidable p) h
theorem pB_iff {p : Prop} : pB p = true ↔ p := by unfold pB; exact @decide_eq_true_iff _ (Classical.propDecidable p)
theorem okB_no {n : Nat} (h : 128 ≤ n) : okB n = false := by unfold okB; simp; omega
/-- what a step of a range gives: an ASCII byte itself, or a number that is no name's -/
theorem okN (s : ByteArray) (pos : Nat) (h : pos < s.size) : okB (Utf8.decode s pos).1 = okB (s[pos]'h).toNat ∧ (okB (Utf8.decode s pos).1 = true → (Utf8.decode s pos).2 = 1) ∧ 1 ≤ (Utf8.decode s pos).2 := by
  by_cases ha : (s[pos]'h).toNat < 128
  · rw [decode_ascii s pos h ha]
    exact ⟨rfl, fun _ => rfl, Nat.le_refl _⟩
  · have hd := decode_high s pos h (by omega)
    have h1 := okB_no hd.1
    refine ⟨by rw [h1, okB_no (by omega)], fun h => ?_, hd.2⟩
    rw [h1] at h
    cases h
theorem badN {s : ByteArray} {pos r k : Nat} (_ : ∀ i, (h : i < s.size) → i < pos → okB (s[i]'h).toNat = true) (h : pos < s.size) (hr : okB r = okB (s[pos]'h).toNat ∧ (okB r = true → k = 1) ∧ 1 ≤ k) (hb : okB r = false) : ¬ NameP s := fun hn => by
  have := hn.ok pos h
  rw [← hr.1, hb] at this
  cases this
theorem okB_spec (r : Nat) : okB r = true ↔ (97 ≤ r ∧ r ≤ 122) ∨ (48 ≤ r ∧ r ≤ 57) ∨ r = 95 := by
  unfold okB
  simp
  omega
theorem goodN {s : ByteArray} {pos r k : Nat} (H : ∀ i, (h : i < s.size) → i < pos → okB (s[i]'h).toNat = true) (h : pos < s.size) (hr : okB r = okB (s[pos]'h).toNat ∧ (okB r = true → k = 1) ∧ 1 ≤ k) (hb : okB r = true) : ∀ i, (h : i < s.size) → i < pos + k → okB (s[i]'h).toNat = true := fun i hi hk => by
  rw [hr.2.1 hb] at hk
  by_cases e : i = pos
  · subst e; rw [← hr.1, hb]
  · exact H i hi (by omega)
set_option maxRecDepth 100000 in
set_option maxHeartbeats 1000000 in
theorem isName_any (s : ByteArray) (w : World) (hz : s.size ≤ 140737488355328) : Calls Tryz.prog 65 #[.string s] w fun e w' => e = .returned (.bool (pB (NameP s))) ∧ Keep w w' := by
  go_enter Tryz.func65, Tryz.ntmps65
  go_wp2
  go_loopw [4] (fun _ wr => ∃ pos : Nat, wr = w.iter s pos ∧ Hid (∀ i, (h : i < s.size) → i < pos → okB (s[i]'h).toNat = true)) (fun _ wr => s.size - wr.iterPos w.heap.size)
  case atStart => exact ⟨0, rfl, fun i h hi => absurd hi (Nat.not_lt_zero _)⟩
  case round =>
    obtain ⟨pos, rfl, HP⟩ := hrel
    by_cases hp : pos < s.size
    · have hnx := fun ty => run_next_any (P := Tryz.prog) w s pos ty hp
      have HR := Lib.hid (okN s pos hp)
      generalize Utf8.decode s pos = d at hnx HR ⊢
      obtain ⟨r, k⟩ := d
      simp only at hnx HR
      go_wp2
      all_goals first
      | (have hb : okB r = false := by
          rw [Bool.eq_false_iff, ne_eq, okB_spec]
          try simp only [bne_iff_ne, ne_eq] at *
          omega
         go_ret
         exact ⟨ret_bool (pB_no (badN HP.out hp HR.out hb)).symm, (by repeat (first | exact Keep.refl _ | apply Keep.alloc | apply Keep.gro | apply Keep.drew | apply Keep.drewN))⟩)
      | (have hb : okB r = true := by
          rw [okB_spec]
          try simp only [bne_eq_false_iff_eq] at *
          omega
         go_roundw
         case rel => exact ⟨pos + k, rfl, goodN HP.out hp HR.out hb⟩
         case measure =>
           have := HR.out.2.2
           simp
           omega)
    · have hnx := fun ty => run_next_end (P := Tryz.prog) w s pos ty hp
      go_wp2
      · go_ret
        exact ⟨by
          by_cases h64 : (s.size : Int) ≤ 64
          · rw [pB_yes ⟨fun i h => HP.out i h (by omega), by omega, by omega⟩]; simp [h64]
          · rw [pB_no fun hn => h64 (by have := hn.hi; omega)]; simp [h64], (by repeat (first | exact Keep.refl _ | apply Keep.alloc | apply Keep.gro | apply Keep.drew | apply Keep.drewN))⟩
      · go_ret
        exact ⟨ret_bool (pB_no fun hn => by have := hn.lo; omega).symm, (by repeat (first | exact Keep.refl _ | apply Keep.alloc | apply Keep.gro | apply Keep.drew | apply Keep.drewN))⟩
end Go.Proofs.YtcffcblfmlclnaaGreatDoor
