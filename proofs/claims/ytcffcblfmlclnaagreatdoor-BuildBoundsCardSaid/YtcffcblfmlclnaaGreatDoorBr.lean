
/- Contracts of the document's schema: name, Dimension, Has, May. -/
import Derived.WalkKit
import Derived.Lib.Hide
import Derived.WalkSpells
import Derived.WalkLawsBesides
import Derived.BigQuiet
import Derived.Shelf.Abstract
import Derived.Test.YtcffcblfmlclnaaGreatDoorBs3
namespace Go.Proofs.YtcffcblfmlclnaaGreatDoor
open Go.RowKit Go.Zone Go.Shelf
attribute [local go_sem] Zone.zone Zone.stepZ Zone.fill Zone.lookFs Zone.goes Zone.goesUpon Zone.dropFs Zone.cell_gro Zone.frozen_gro Zone.size_gro Zone.lt_add Zone.drew_gro Zone.tape_gro Zone.keep_refl
attribute [local go_sem] Zone.lt_add2 Zone.lt_add3 Zone.lt_add4 Zone.lt_add5 Zone.lt_add6 Zone.lt_add7 Zone.lt_add8 Zone.lt_add9 Zone.lt_add10 Zone.lt_add11 Zone.lt_add12
theorem rdim_any (A : Option Addr) (c : Nat) (cs : List Col) (i : Int) (w : World) (h : Sl w 2 Col.cells A c cs) :
    Calls Tryz.prog 32 #[.slice A cs.length c, .int .i64 i] w fun e w' => e = .returned (.bool (dimP cs i)) ∧ Keep w w' := by
  have hl := sl_len h
  cases i with
  | ofNat k =>
    by_cases hk : k < cs.length
    · obtain ⟨b, off, rfl, hb, h0, h1⟩ := sl_col h k hk
      have hd : dimP cs (Int.ofNat k) = (cs[k].kind == 1 || cs[k].kind == 2) := by simp [dimP, hk]
      have HD := Lib.hid hd
      clear h hd
      go_enter Tryz.func32, Tryz.ntmps32
      go_wp2
      all_goals go_ret
      all_goals exact ⟨by rw [HD.out]; simp_all, (by repeat (first | exact Keep.refl _ | apply Keep.alloc | apply Keep.gro | apply Keep.drew | apply Keep.drewN))⟩
    · have HD := Lib.hid (show dimP cs (Int.ofNat k) = false by simp [dimP, hk])
      clear h
      go_enter Tryz.func32, Tryz.ntmps32
      go_wp2
      go_ret
      exact ⟨by rw [HD.out]; rfl, (by repeat (first | exact Keep.refl _ | apply Keep.alloc | apply Keep.gro | apply Keep.drew | apply Keep.drewN))⟩
  | negSucc k =>
    have HD := Lib.hid (show dimP cs (Int.negSucc k) = false by simp [dimP])
    clear h
    go_enter Tryz.func32, Tryz.ntmps32
    go_wp2
    go_ret
    exact ⟨by rw [HD.out]; rfl, (by repeat (first | exact Keep.refl _ | apply Keep.alloc | apply Keep.gro | apply Keep.drew | apply Keep.drewN))⟩
theorem rhas_any (A : Option Addr) (c : Nat) (fs : List Bool) (i : Int) (w : World) (h : Sl w 1 flV A c fs) :
    Calls Tryz.prog 14 #[.slice A fs.length c, .int .i64 i] w fun e w' => e = .returned (.bool (hasP fs i)) ∧ Keep w w' := by
  have hl := sl_len h
  cases i with
  | ofNat k =>
    by_cases hk : k < fs.length
    · obtain ⟨b, off, rfl, hb, h0⟩ := sl_fl h k hk
      have HD := Lib.hid (show hasP fs (Int.ofNat k) = fs[k] by simp [hasP, hk])
      clear h
      go_enter Tryz.func14, Tryz.ntmps14
      go_wp2
      go_ret
      exact ⟨by rw [HD.out]; rfl, (by repeat (first | exact Keep.refl _ | apply Keep.alloc | apply Keep.gro | apply Keep.drew | apply Keep.drewN))⟩
    · have HD := Lib.hid (show hasP fs (Int.ofNat k) = false by simp [hasP, Nat.le_of_not_lt hk])
      clear h
      go_enter Tryz.func14, Tryz.ntmps14
      go_wp2
      go_ret
      exact ⟨by rw [HD.out]; rfl, (by repeat (first | exact Keep.refl _ | apply Keep.alloc | apply Keep.gro | apply Keep.drew | apply Keep.drewN))⟩
  | negSucc k =>
    have HD := Lib.hid (show hasP fs (Int.negSucc k) = false by simp [hasP])
    clear h
    go_enter Tryz.func14, Tryz.ntmps14
    go_wp2
    go_ret
    exact ⟨by rw [HD.out]; rfl, (by repeat (first | exact Keep.refl _ | apply Keep.alloc | apply Keep.gro | apply Keep.drew | apply Keep.drewN))⟩
set_option maxRecDepth 100000 in
set_option maxHeartbeats 1000000 in
theorem rname_any (s : ByteArray) (w : World) (hz : s.size ≤ 140737488355328) : Calls Tryz.prog 68 #[.string s] w fun e w' => e = .returned (.bool (pB (NameP s))) ∧ Keep w w' := by
  go_enter Tryz.func68, Tryz.ntmps68
  go_wp2
  go_loopw [3] (fun i wr => ∃ k : Nat, k ≤ s.size ∧ i = .int .i64 k ∧ wr = w ∧ Hid (∀ i, (h : i < s.size) → i < k → okB (s[i]'h).toNat = true)) (fun i _ => s.size - (intOf i).toNat)
  case atStart => exact ⟨0, Nat.zero_le _, rfl, rfl, fun i h hi => absurd hi (Nat.not_lt_zero _)⟩
  case round =>
    obtain ⟨k, hk, rfl, rfl, HP⟩ := hrel
    by_cases hp : k < s.size
    · have HO := Lib.hid (okB_spec (s[k]'hp).toNat)
      go_wp2
      all_goals first
      | (have hb : okB (s[k]'hp).toNat = false := by
          rw [Bool.eq_false_iff, ne_eq, HO.out]
          try simp only [bne_iff_ne, ne_eq] at *
          omega
         go_ret
         exact ⟨ret_bool (pB_no fun m => by rw [m.ok k hp] at hb; cases hb).symm, (by repeat (first | exact Keep.refl _ | apply Keep.alloc | apply Keep.gro | apply Keep.drew | apply Keep.drewN))⟩)
      | (have hb : okB (s[k]'hp).toNat = true := by
          rw [HO.out]
          try simp only [bne_eq_false_iff_eq] at *
          omega
         go_roundw
         case rel => exact ⟨k + 1, by omega, by go_num, trivial, fun i hi hik => by
           by_cases e : i = k
           · subst e; exact hb
           · exact HP.out i hi (by omega)⟩
         case measure => simp [intOf]; omega)
    · go_wp2
      · go_ret
        exact ⟨by
          by_cases h64 : (s.size : Int) ≤ 64
          · rw [pB_yes ⟨fun i h => HP.out i h (by omega), by omega, by omega⟩]; simp [h64]
          · rw [pB_no fun hn => h64 (by have := hn.hi; omega)]; simp [h64], (by repeat (first | exact Keep.refl _ | apply Keep.alloc | apply Keep.gro | apply Keep.drew | apply Keep.drewN))⟩
      · go_ret
        exact ⟨ret_bool (pB_no fun hn => by have := hn.lo; omega).symm, (by repeat (first | exact Keep.refl _ | apply Keep.alloc | apply Keep.gro | apply Keep.drew | apply Keep.drewN))⟩
set_option maxRecDepth 100000 in
set_option maxHeartbeats 1000000 in
theorem rmay_any (A : Option Addr) (c : Nat) (cs : List Col) (w : World) (h : Sl w 2 Col.cells A c cs) (hz : ∀ x ∈ cs, x.name.size ≤ 140737488355328) :
    Calls Tryz.prog 31 #[.slice A cs.length c] w fun e w' => e = .returned (.bool (pB (MayP cs))) ∧ Keep w w' := by
  have hl := sl_len h
  have H := Lib.hid h
  clear h
  go_enter Tryz.func31, Tryz.ntmps31
  go_wp2
  go_loopw [3] (fun i wr => ∃ k : Nat, k ≤ cs.length ∧ i = .int .i64 k ∧ Hid (Keep w wr) ∧ Hid (∀ j, (h : j < cs.length) → j < k → NameP cs[j].name ∧ (1 ≤ cs[j].kind ∧ cs[j].kind ≤ 3) ∧ ∀ m, (hm : m < j) → (cs[m]'(by omega)).name.toList ≠ cs[j].name.toList)) (fun i _ => cs.length - (intOf i).toNat)
  case atStart => exact ⟨0, Nat.zero_le _, rfl, Keep.refl _, fun j _ hj => absurd hj (Nat.not_lt_zero _)⟩
  case round =>
    obtain ⟨k, hk, rfl, HK, HR⟩ := hrel
    by_cases hlt : k < cs.length
    · obtain ⟨b, off, hA, hb, h0, h1⟩ := sl_col (H.out.keep HK.out) k hlt
      have HN := Lib.hid (rname_any cs[k].name)
      have HZ := Lib.hid (hz cs[k] (List.getElem_mem hlt))
      subst hA
      cases hq : pB (NameP cs[k].name)
      · have HQ := Lib.hid hq
        go_wp2_with (go_at_call 68; refine (HN.out _ HZ.out).mono ?_; rintro e w' ⟨rfl, hk⟩; (first | obtain ⟨p, rfl⟩ := Zone.gro_of_gro _ _ hk | obtain ⟨p, rfl⟩ := Zone.gro_of_below _ hk); clear hk)
        go_ret
        exact ⟨ret_bool (pB_no fun m => by have := HQ.out; rw [pB_yes (m.name k hlt)] at this; cases this).symm, HK.out.trans (by repeat (first | exact Keep.refl _ | apply Keep.alloc | apply Keep.gro | apply Keep.drew | apply Keep.drewN))⟩
      · have HQ := Lib.hid hq
        by_cases hkd : 1 ≤ cs[k].kind ∧ cs[k].kind ≤ 3
        · obtain ⟨hk1, hk2⟩ := hkd
          go_wp2_with (go_at_call 68; refine (HN.out _ HZ.out).mono ?_; rintro e w' ⟨rfl, hk⟩; (first | obtain ⟨p, rfl⟩ := Zone.gro_of_gro _ _ hk | obtain ⟨p, rfl⟩ := Zone.gro_of_below _ hk); clear hk)
          go_loopw [4] (fun i w2 => ∃ m : Nat, m ≤ k ∧ i = .int .i64 m ∧ Hid (Keep wr w2) ∧ Hid (∀ j, (h : j < m) → (hj : j < cs.length) → cs[j].name.toList ≠ cs[k].name.toList)) (fun i _ => k - (intOf i).toNat)
          case atStart => exact ⟨0, Nat.zero_le _, rfl, (by repeat (first | exact Keep.refl _ | apply Keep.alloc | apply Keep.gro | apply Keep.drew | apply Keep.drewN)), fun j hj => absurd hj (Nat.not_lt_zero _)⟩
          case round =>
            obtain ⟨m, hm, rfl, HK2, HR2⟩ := hrel
            by_cases hmk : m < k
            · obtain ⟨b2, off2, hA2, hb2, g0, g1⟩ := sl_col (H.out.keep (HK.out.trans HK2.out)) m (by omega)
              injection hA2 with hA2
              injection hA2 with hA3 hA4
              subst hA3
              subst hA4
              have k0 := (HK2.out.cell (p := ⟨b, off + k * 2, none⟩) hb).trans h0
              clear h0 h1 hb g1
              cases hc : (cs[m].name.toList == cs[k].name.toList)
              all_goals
                have HC := Lib.hid hc
                go_wp2
                go_region
                go_wp2
              · go_roundw
                case rel => exact ⟨m + 1, by omega, by go_num, HK2.out.trans (by repeat (first | exact Keep.refl _ | apply Keep.alloc | apply Keep.gro | apply Keep.drew | apply Keep.drewN)), fun j hj hj2 => by
                  by_cases e : j = m
                  · subst e
                    have := HC.out
                    simpa using this
                  · exact HR2.out j (by omega) hj2⟩
                case measure => simp [intOf]; omega
              · go_ret
                exact ⟨ret_bool (pB_no fun f => by
                  have := HC.out
                  exact f.one k m hlt hmk (by simpa using this)).symm, HK.out.trans (HK2.out.trans (by repeat (first | exact Keep.refl _ | apply Keep.alloc | apply Keep.gro | apply Keep.drew | apply Keep.drewN)))⟩
            · go_wp2
              go_roundw
              case rel => exact ⟨k + 1, by omega, by go_num, HK.out.trans HK2.out, fun j hj hj2 => by
                by_cases e : j = k
                · subst e
                  exact ⟨pB_iff.1 HQ.out, ⟨hk1, hk2⟩, fun m' hm' => HR2.out m' (by omega) _⟩
                · exact HR.out j hj (by omega)⟩
              case measure => simp [intOf]; omega
        · have HKD := Lib.hid hkd
          have hkd' : cs[k].kind < 1 ∨ 3 < cs[k].kind := by omega
          clear hkd
          rcases hkd' with hkd | hkd
          all_goals
            go_wp2_with (go_at_call 68; refine (HN.out _ HZ.out).mono ?_; rintro e w' ⟨rfl, hk⟩; (first | obtain ⟨p, rfl⟩ := Zone.gro_of_gro _ _ hk | obtain ⟨p, rfl⟩ := Zone.gro_of_below _ hk); clear hk)
            go_ret
            exact ⟨ret_bool (pB_no fun m => HKD.out (m.kind k hlt)).symm, HK.out.trans (by repeat (first | exact Keep.refl _ | apply Keep.alloc | apply Keep.gro | apply Keep.drew | apply Keep.drewN))⟩
    · go_wp2
      all_goals go_ret
      all_goals refine ⟨?_, HK.out⟩
      · by_cases h2 : (cs.length : Int) ≤ 256
        · rw [pB_yes ⟨fun i hi => (HR.out i hi (by omega)).1, fun i hi => (HR.out i hi (by omega)).2.1, fun i j hi hj => (HR.out i hi (by omega)).2.2 j hj, by omega, by omega⟩]
          simp [h2]
        · rw [pB_no fun m => h2 (by have := m.hi; omega)]
          simp [h2]
      · exact ret_bool (pB_no fun m => by have := m.lo; omega).symm
end Go.Proofs.YtcffcblfmlclnaaGreatDoor
