
/- Contracts of schema: Find, May, Dimension, Has, flagged, Fits. -/
import Derived.WalkKit
import Derived.Lib.Hide
import Derived.WalkSpells
import Derived.WalkLawsBesides
import Derived.BigQuiet
import Derived.Shelf.Abstract
import Derived.Test.YtcffcblfmlclnaaGreatDoorBs
namespace Go.Proofs.YtcffcblfmlclnaaGreatDoor
open Go.RowKit Go.Zone Go.Shelf
attribute [local go_sem] Zone.zone Zone.stepZ Zone.fill Zone.lookFs Zone.goes Zone.goesUpon Zone.dropFs Zone.cell_gro Zone.frozen_gro Zone.size_gro Zone.lt_add Zone.drew_gro Zone.tape_gro Zone.keep_refl
attribute [local go_sem] Zone.lt_add2 Zone.lt_add3 Zone.lt_add4 Zone.lt_add5 Zone.lt_add6 Zone.lt_add7 Zone.lt_add8 Zone.lt_add9 Zone.lt_add10 Zone.lt_add11 Zone.lt_add12
def i64V (x : Int) : List Value := [.int .i64 x]
def flV (x : Bool) : List Value := [.bool x]
theorem sl_i64 {w : World} {c : Nat} {A : Option Addr} {xs : List Int} (h : Sl w 1 i64V A c xs) (i : Nat) (hi : i < xs.length) : ∃ b off, A = some ⟨b, off, none⟩ ∧ b < w.heap.size ∧ w.cell? ⟨b, off + i, none⟩ = some (.int .i64 xs[i]) := by
  obtain ⟨b, off, hA, hc⟩ := h.at_ i hi
  have h0 := hc 0 _ rfl
  exact ⟨b, off, hA, World.block_lt_of_cell? w _ h0, by simpa using h0⟩
theorem sl_fl {w : World} {c : Nat} {A : Option Addr} {xs : List Bool} (h : Sl w 1 flV A c xs) (i : Nat) (hi : i < xs.length) : ∃ b off, A = some ⟨b, off, none⟩ ∧ b < w.heap.size ∧ w.cell? ⟨b, off + i, none⟩ = some (.bool xs[i]) := by
  obtain ⟨b, off, hA, hc⟩ := h.at_ i hi
  have h0 := hc 0 _ rfl
  exact ⟨b, off, hA, World.block_lt_of_cell? w _ h0, by simpa using h0⟩
theorem sfind1_any (c : Col) (n : ByteArray) (b : Nat) (w : World) (h : w.cell? ⟨b, 0, none⟩ = some (.string n)) (hb : b < w.heap.size) : Calls Tryz.prog 116 #[c.v, .pointer (some ⟨b, 0, none⟩)] w fun e w' => e = .returned (.bool (isCol n c)) ∧ Keep w w' := by
  obtain ⟨k', n'⟩ := c
  simp only [Col.v]
  go_enter Tryz.func116, Tryz.ntmps116
  go_wp2
  go_ret
  exact ⟨rfl, (by repeat (first | exact Keep.refl _ | apply Keep.alloc | apply Keep.gro | apply Keep.drew | apply Keep.drewN))⟩
theorem sfind_any (A : Option Addr) (c : Nat) (cs : List Col) (n : ByteArray) (w : World) (h : Sl w 2 Col.cells A c cs) :
    Calls Tryz.prog 66 #[.slice A cs.length c, .string n] w fun e w' => e = .returned (.int .i64 (idxP (isCol n) cs 0)) ∧ Keep w w' := by
  have HS := Lib.hid h
  clear h
  go_enter Tryz.func66, Tryz.ntmps66
  go_wp2_with (go_at_call 115; refine Zone.hold ?_)
  refine Zone.unhold ?_
  refine (indexCol_any A c cs 116 #[.pointer (some ⟨w.heap.size, 0, none⟩)] (isCol n) _ (enters_of Tryz.func116 (by kernel_rfl) rfl) (HS.out.keep (by repeat (first | exact Keep.refl _ | apply Keep.alloc | apply Keep.gro | apply Keep.drew | apply Keep.drewN))) (fun W x hW => sfind1_any x n _ W ((hW.cell (p := ⟨w.heap.size, 0, none⟩) (by simp [go_sem])).trans (by simp [go_sem])) (Nat.lt_of_lt_of_le (by simp [go_sem]) hW.size))).mono ?_
  rintro e w' ⟨rfl, hk⟩
  obtain ⟨p, rfl⟩ := gro_of_below _ hk
  clear HS hk
  go_wp2
  go_ret
  exact ⟨rfl, (by repeat (first | exact Keep.refl _ | apply Keep.alloc | apply Keep.gro | apply Keep.drew | apply Keep.drewN))⟩
theorem dim_any (A : Option Addr) (c : Nat) (cs : List Col) (i : Int) (w : World) (h : Sl w 2 Col.cells A c cs) :
    Calls Tryz.prog 11 #[.slice A cs.length c, .int .i64 i] w fun e w' => e = .returned (.bool (dimP cs i)) ∧ Keep w w' := by
  have hl := sl_len h
  cases i with
  | ofNat k =>
    by_cases hk : k < cs.length
    · obtain ⟨b, off, rfl, hb, h0, h1⟩ := sl_col h k hk
      have hd : dimP cs (Int.ofNat k) = (cs[k].kind == 1 || cs[k].kind == 2) := by simp [dimP, hk]
      have HD := Lib.hid hd
      clear h hd
      go_enter Tryz.func11, Tryz.ntmps11
      go_wp2
      all_goals go_ret
      all_goals exact ⟨by rw [HD.out]; simp_all, (by repeat (first | exact Keep.refl _ | apply Keep.alloc | apply Keep.gro | apply Keep.drew | apply Keep.drewN))⟩
    · have HD := Lib.hid (show dimP cs (Int.ofNat k) = false by simp [dimP, hk])
      clear h
      go_enter Tryz.func11, Tryz.ntmps11
      go_wp2
      go_ret
      exact ⟨by rw [HD.out]; rfl, (by repeat (first | exact Keep.refl _ | apply Keep.alloc | apply Keep.gro | apply Keep.drew | apply Keep.drewN))⟩
  | negSucc k =>
    have HD := Lib.hid (show dimP cs (Int.negSucc k) = false by simp [dimP])
    clear h
    go_enter Tryz.func11, Tryz.ntmps11
    go_wp2
    go_ret
    exact ⟨by rw [HD.out]; rfl, (by repeat (first | exact Keep.refl _ | apply Keep.alloc | apply Keep.gro | apply Keep.drew | apply Keep.drewN))⟩
/-- a flag at a place -/
def hasP (f : List Bool) (i : Int) : Bool := match i with
  | .ofNat k => f.getD k false
  | .negSucc _ => false
theorem has_any (A : Option Addr) (c : Nat) (fs : List Bool) (i : Int) (w : World) (h : Sl w 1 flV A c fs) :
    Calls Tryz.prog 12 #[.slice A fs.length c, .int .i64 i] w fun e w' => e = .returned (.bool (hasP fs i)) ∧ Keep w w' := by
  have hl := sl_len h
  cases i with
  | ofNat k =>
    by_cases hk : k < fs.length
    · obtain ⟨b, off, rfl, hb, h0⟩ := sl_fl h k hk
      have HD := Lib.hid (show hasP fs (Int.ofNat k) = fs[k] by simp [hasP, hk])
      clear h
      go_enter Tryz.func12, Tryz.ntmps12
      go_wp2
      go_ret
      exact ⟨by rw [HD.out]; rfl, (by repeat (first | exact Keep.refl _ | apply Keep.alloc | apply Keep.gro | apply Keep.drew | apply Keep.drewN))⟩
    · have HD := Lib.hid (show hasP fs (Int.ofNat k) = false by simp [hasP, Nat.le_of_not_lt hk])
      clear h
      go_enter Tryz.func12, Tryz.ntmps12
      go_wp2
      go_ret
      exact ⟨by rw [HD.out]; rfl, (by repeat (first | exact Keep.refl _ | apply Keep.alloc | apply Keep.gro | apply Keep.drew | apply Keep.drewN))⟩
  | negSucc k =>
    have HD := Lib.hid (show hasP fs (Int.negSucc k) = false by simp [hasP])
    clear h
    go_enter Tryz.func12, Tryz.ntmps12
    go_wp2
    go_ret
    exact ⟨by rw [HD.out]; rfl, (by repeat (first | exact Keep.refl _ | apply Keep.alloc | apply Keep.gro | apply Keep.drew | apply Keep.drewN))⟩
theorem may_not_find {l : List Col} {i : Nat} (h : i < l.length) (hb : idxP (isCol l[i].name) l 0 ≠ (i : Int)) : ¬ MayP l := fun m => hb ((find_first l i h).2 fun k hk => m.one i k h hk)
set_option maxRecDepth 100000 in
set_option maxHeartbeats 1000000 in
theorem smay_any (A : Option Addr) (c : Nat) (cs : List Col) (w : World) (h : Sl w 2 Col.cells A c cs) (hz : ∀ x ∈ cs, x.name.size ≤ 140737488355328) :
    Calls Tryz.prog 28 #[.slice A cs.length c] w fun e w' => e = .returned (.bool (pB (MayP cs))) ∧ Keep w w' := by
  have hl := sl_len h
  have H := Lib.hid h
  clear h
  go_enter Tryz.func28, Tryz.ntmps28
  go_wp2
  go_loopw [7] (fun i wr => ∃ k : Nat, k ≤ cs.length ∧ i = .int .i64 k ∧ Hid (Keep w wr) ∧ Hid (∀ j, (h : j < cs.length) → j < k → NameP cs[j].name ∧ (1 ≤ cs[j].kind ∧ cs[j].kind ≤ 3) ∧ idxP (isCol cs[j].name) cs 0 = (j : Int))) (fun i _ => cs.length - (intOf i).toNat)
  case atStart => exact ⟨0, Nat.zero_le _, rfl, Keep.refl _, fun j _ hj => absurd hj (Nat.not_lt_zero _)⟩
  case round =>
    obtain ⟨k, hk, rfl, HK, HR⟩ := hrel
    by_cases hlt : k < cs.length
    · obtain ⟨b, off, hA, hb, h0, h1⟩ := sl_col (H.out.keep HK.out) k hlt
      have HN := Lib.hid (isName_any cs[k].name)
      have HZ := Lib.hid (hz cs[k] (List.getElem_mem hlt))
      have HF := Lib.hid (sfind_any A c cs cs[k].name)
      subst hA
      cases hq : pB (NameP cs[k].name)
      · have HQ := Lib.hid hq
        go_wp2_with (go_at_call 65; refine (HN.out _ HZ.out).mono ?_; rintro e w' ⟨rfl, hk⟩; (first | obtain ⟨p, rfl⟩ := Zone.gro_of_gro _ _ hk | obtain ⟨p, rfl⟩ := Zone.gro_of_below _ hk); clear hk)
        go_ret
        exact ⟨ret_bool (pB_no fun m => by have := HQ.out; rw [pB_yes (m.name k hlt)] at this; cases this).symm, HK.out.trans (by repeat (first | exact Keep.refl _ | apply Keep.alloc | apply Keep.gro | apply Keep.drew | apply Keep.drewN))⟩
      · have HQ := Lib.hid hq
        go_wp2_with (first | (go_at_call 65; refine (HN.out _ HZ.out).mono ?_; rintro e w' ⟨rfl, hk⟩; (first | obtain ⟨p, rfl⟩ := Zone.gro_of_gro _ _ hk | obtain ⟨p, rfl⟩ := Zone.gro_of_below _ hk); clear hk) | (go_at_call 66; refine (HF.out _ (H.out.keep (HK.out.trans (by repeat (first | exact Keep.refl _ | apply Keep.alloc | apply Keep.gro | apply Keep.drew | apply Keep.drewN))))).mono ?_; rintro e w' ⟨rfl, hk⟩; (first | obtain ⟨p, rfl⟩ := Zone.gro_of_gro _ _ hk | obtain ⟨p, rfl⟩ := Zone.gro_of_below _ hk); clear hk))
        all_goals first
        | (go_ret
           exact ⟨ret_bool (pB_no fun m => by
             have m1 := m.kind k hlt
             have m2 := (find_first cs k hlt).2 fun j hj => m.one k j hlt hj
             first | omega | (simp only [m2, bne_self_eq_false, Bool.false_eq_true, or_false] at *; omega)).symm, HK.out.trans (by repeat (first | exact Keep.refl _ | apply Keep.alloc | apply Keep.gro | apply Keep.drew | apply Keep.drewN))⟩)
        | (go_roundw
           case rel => exact ⟨k + 1, by omega, by go_num, HK.out.trans (by repeat (first | exact Keep.refl _ | apply Keep.alloc | apply Keep.gro | apply Keep.drew | apply Keep.drewN)), fun j hj hjk => by
             by_cases e : j = k
             · subst e
               refine ⟨pB_iff.1 HQ.out, by omega, ?_⟩
               simp only [bne_eq_false_iff_eq] at *
               omega
             · exact HR.out j hj (by omega)⟩
           case measure => simp [intOf]; omega)
    · go_wp2
      all_goals go_ret
      all_goals refine ⟨?_, HK.out⟩
      · by_cases h2 : (cs.length : Int) ≤ 256
        · rw [pB_yes ⟨fun i hi => (HR.out i hi (by omega)).1, fun i hi => (HR.out i hi (by omega)).2.1, fun i j hi hj => (find_first cs i hi).1 (HR.out i hi (by omega)).2.2 j hj, by omega, by omega⟩]
          simp [h2]
        · rw [pB_no fun m => h2 (by have := m.hi; omega)]
          simp [h2]
      · exact ret_bool (pB_no fun m => by have := m.lo; omega).symm
end Go.Proofs.YtcffcblfmlclnaaGreatDoor
