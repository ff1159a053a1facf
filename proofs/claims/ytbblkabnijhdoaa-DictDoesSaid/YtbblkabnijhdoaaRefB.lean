
/- Contracts of the document's bytes: Little, Short, of a value, of a dictionary; Same. -/
import Derived.WalkKit
import Derived.Lib.Hide
import Derived.WalkSpells
import Derived.WalkLawsBesides
import Derived.BigQuiet
import Derived.Shelf.Abstract
import Derived.Test.YtbblkabnijhdoaaBytesV
import Derived.Test.YtbblkabnijhdoaaVRead
import Derived.Lib.ConvBytes
namespace Go.Proofs.Ytbblkabnijhdoaa
open Go.RowKit Go.Zone Go.Shelf
attribute [local go_sem] Zone.zone Zone.stepZ Zone.fill Zone.lookFs Zone.goes Zone.goesUpon Zone.dropFs Zone.cell_gro Zone.frozen_gro Zone.size_gro Zone.lt_add Zone.drew_gro Zone.tape_gro Zone.keep_refl
attribute [local go_sem] Zone.lt_add2 Zone.lt_add3 Zone.lt_add4 Zone.lt_add5 Zone.lt_add6 Zone.lt_add7 Zone.lt_add8 Zone.lt_add9 Zone.lt_add10 Zone.lt_add11 Zone.lt_add12
attribute [local go_sem high] run_eq_val run_ne_val run_eqG_val
set_option maxRecDepth 100000 in
set_option maxHeartbeats 1000000 in
theorem little_any (n sz : Nat) (hn : n < 18446744073709551616) (hsz : sz ≤ 8) (w : World) :
    Calls Try.prog 66 #[.int .u64 n, .int .i64 sz] w fun e w' => ∃ v, e = .returned v ∧ OwnB w' w.heap.size v (le n sz) ∧ Keep w w' := by
  go_enter Try.func66, Try.ntmps66
  go_wp2
  go_loopw [6, 0, 5] (fun vi vn vb wr => ∃ (k m : Nat) (o : Value), k ≤ sz ∧ m < 18446744073709551616 ∧ vi = .int .i64 k ∧ o = vb ∧ Hid (OwnB wr w.heap.size o (le n k)) ∧ vn = .int .u64 m ∧ Hid (m = n / 256 ^ k) ∧ Hid (Keep w wr) ∧ w.heap.size ≤ wr.heap.size) (fun vi _ _ _ => sz - (intOf vi).toNat)
  case atStart => exact ⟨0, n, _, by omega, hn, rfl, rfl, Own.nil_ _ _ _ _ _, rfl, (by show _ = _; simp), (by repeat (first | exact Keep.refl _ | apply Keep.alloc | apply Keep.gro | apply Keep.drew | apply Keep.drewN)), Nat.le_refl _⟩
  case round =>
    obtain ⟨k, m, o, hk, hm, rfl, rfl, HO2, rfl, HM, HK2, hz⟩ := hrel
    by_cases hlt : k < sz
    · have hw8 : IntKind.u8.wrap ((m : Int) % 256) = (m : Int) % 256 := by simp [IntKind.wrap, IntKind.signed, IntKind.bits]
      go_wp2_with (at_builtin; refine Zone.hold ?_)
      refine Zone.unhold ?_
      have HO3 : OwnB (wr.alloc (.cells #[.int .u8 ((m : Int) % 256)] 5)) w.heap.size o (le n k) := HO2.out.keep (Keep.alloc (Keep.refl _) _)
      refine wpList_app elt_u8 b8_len b8_one rfl (.tmp 12) (.tmp 16) rfl (ys := [UInt8.ofNat m]) HO3 rfl rfl (sl_one _ (by omega) (by omega) (b8_at _ (by rw [u8_nat]; simp [go_sem]))) (by simp [le_len]; omega) (by simp; omega) ?_
      intro v1 w2 hown2 hg2 _
      have ⟨a1, a2, a3⟩ := HO3.after hg2 (HK2.out.trans (by repeat (first | exact Keep.refl _ | apply Keep.alloc | apply Keep.gro | apply Keep.drew | apply Keep.drewN))) (Nat.le_refl _)
      have HO4 := Lib.hid hown2
      have HA1 := Lib.hid a1
      clear hown2 hg2 HO3 a3 hw8
      have hm2 : m / 256 < 18446744073709551616 := by omega
      go_wp2
      go_roundw
      case rel => exact ⟨k + 1, m / 256, _, by omega, hm2, by go_num, rfl, (by show OwnB _ _ _ _; have := HO4.out; rw [HM.out] at this; exact this), by go_num, (by show _ = _; rw [HM.out, Nat.div_div_eq_div_mul, Nat.pow_succ]), HA1.out, by simp at a2; omega⟩
      case measure => simp [intOf]; omega
    · have hks : k = sz := by omega
      subst hks
      go_wp2
      go_ret
      exact ⟨_, rfl, HO2.out, HK2.out⟩
set_option maxRecDepth 100000 in
set_option maxHeartbeats 1000000 in
theorem short01_any (n : Nat) (hn : n < 18446744073709551616) (w : World) :
    Calls Try.prog 83 #[.int .u64 n] w fun e w' => ∃ v, e = .returned v ∧ OwnB w' w.heap.size v (vu 9 n) ∧ Keep w w' := by
  go_enter Try.func83, Try.ntmps83
  go_wp2
  go_loopw [0, 3] (fun vn vb wr => ∃ (f m : Nat) (o : Value) (p : List UInt8), m < 18446744073709551616 ∧ o = vb ∧ vn = .int .u64 m ∧ Hid (OwnB wr w.heap.size o p) ∧ Hid (p ++ vu f m = vu 9 n) ∧ p.length + f = 9 ∧ Hid (m < 128 ^ (f + 1)) ∧ Hid (Keep w wr) ∧ w.heap.size ≤ wr.heap.size) (fun vn _ _ => (intOf vn).toNat)
  case atStart => exact ⟨9, n, _, [], hn, rfl, rfl, Own.nil_ _ _ _ _ _, rfl, rfl, (by show _ < _; omega), (by repeat (first | exact Keep.refl _ | apply Keep.alloc | apply Keep.gro | apply Keep.drew | apply Keep.drewN)), Nat.le_refl _⟩
  case round =>
    obtain ⟨f, m, o, p, hm, rfl, rfl, HO2, HP, hpl, HM, HK2, hz⟩ := hrel
    by_cases hgt : 128 ≤ (m : Int)
    · obtain ⟨f', rfl⟩ : ∃ f', f = f' + 1 := ⟨f - 1, by
        rcases f with _ | f
        · have := HM.out; omega
        · rfl⟩
      have HP2 : Hid ((p ++ [UInt8.ofNat (m % 128 + 128)]) ++ vu f' (m / 128) = vu 9 n) := by
        show _ = _
        rw [← HP.out, vu, if_pos (by omega), List.append_assoc]
        rfl
      have HM2 : Hid (m / 128 < 128 ^ (f' + 1)) := by
        show _ < _
        have := HM.out
        rw [Nat.pow_succ] at this
        exact Nat.div_lt_of_lt_mul (by rw [Nat.mul_comm]; exact this)
      have hw8 : IntKind.u8.wrap ((m : Int) % 128 + 128) = (m : Int) % 128 + 128 := by simp [IntKind.wrap, IntKind.signed, IntKind.bits]; omega
      go_wp2_with (at_builtin; refine Zone.hold ?_)
      refine Zone.unhold ?_
      have HO3 : OwnB (wr.alloc (.cells #[.int .u8 ((m : Int) % 128 + 128)] 5)) w.heap.size o p := HO2.out.keep (Keep.alloc (Keep.refl _) _)
      refine wpList_app elt_u8 b8_len b8_one rfl (.tmp 6) (.tmp 11) rfl (ys := [UInt8.ofNat (m % 128 + 128)]) HO3 rfl rfl (sl_one _ (by omega) (by omega) (b8_at _ (by rw [u8_nat, show (((m % 128 + 128 : Nat) : Int) % 256) = (m : Int) % 128 + 128 by omega]; simp [go_sem]))) (by simp; omega) (by simp; omega) ?_
      intro v1 w2 hown2 hg2 _
      have ⟨a1, a2, a3⟩ := HO3.after hg2 (HK2.out.trans (by repeat (first | exact Keep.refl _ | apply Keep.alloc | apply Keep.gro | apply Keep.drew | apply Keep.drewN))) (Nat.le_refl _)
      have HO4 := Lib.hid hown2
      have HA1 := Lib.hid a1
      clear hown2 hg2 HO3 a3 hw8
      have hm2 : m / 128 < 18446744073709551616 := by omega
      go_wp2
      go_roundw
      case rel => exact ⟨f', m / 128, _, _, hm2, rfl, by go_num, HO4, HP2, by simp; omega, HM2, HA1.out, by simp at a2; omega⟩
      case measure => simp [intOf]; omega
    · have HP2 : Hid (p ++ [UInt8.ofNat m] = vu 9 n) := by
        show _ = _
        rw [← HP.out]
        cases f
        · rfl
        · rw [vu, if_neg (by omega)]
      have hw8 : IntKind.u8.wrap (m : Int) = (m : Int) := by simp [IntKind.wrap, IntKind.signed, IntKind.bits]; omega
      go_wp2_with (at_builtin; refine Zone.hold ?_)
      refine Zone.unhold ?_
      have HO3 : OwnB (wr.alloc (.cells #[.int .u8 (m : Int)] 5)) w.heap.size o p := HO2.out.keep (Keep.alloc (Keep.refl _) _)
      refine wpList_app elt_u8 b8_len b8_one rfl (.tmp 15) (.tmp 18) rfl (ys := [UInt8.ofNat m]) HO3 rfl rfl (sl_one _ (by omega) (by omega) (b8_at _ (by rw [u8_nat, show (m : Int) % 256 = m by omega]; simp [go_sem]))) (by simp; omega) (by simp; omega) ?_
      intro v1 w2 hown2 hg2 _
      have ⟨a1, a2, a3⟩ := HO3.after hg2 (HK2.out.trans (by repeat (first | exact Keep.refl _ | apply Keep.alloc | apply Keep.gro | apply Keep.drew | apply Keep.drewN))) (Nat.le_refl _)
      have HO4 := Lib.hid hown2
      have HA1 := Lib.hid a1
      clear hown2 hg2 HO3 a3
      go_wp2
      go_ret
      exact ⟨_, rfl, (by have := HO4.out; rw [HP2.out] at this; exact this), HA1.out⟩
/-- a string's bytes in new memory -/
theorem bytes_of (s : ByteArray) (w : World) (hs : s.size ≤ 140737488355328) : ∃ u W, (convert 9 42 (.string s)).run Try.prog w = .ok u W ∧ (∃ A c, u = .slice A s.data.toList.length c ∧ SlB W A c s.data.toList) ∧ Keep w W := by
  have hle : s.data.toList.length = s.size := by show s.data.toList.length = s.data.size; simp
  refine ⟨_, _, Lib.run_convert_string_bytes w 9 42 5 s Try.underlying9 Try.underlying42 Try.underlying5, ⟨some ⟨w.heap.size, 0, none⟩, grownCap w s.size 0 5, by rw [hle], ?_⟩, ?_⟩
  · refine ⟨by rw [hle]; exact grownCap_ge _ _ _ _, ?_, by rw [hle]; omega, fun i hi => ⟨w.heap.size, 0, rfl, fun j u hu => ?_⟩⟩
    · have := grownCap_le_maxLen w s.size 0 5 (by unfold maxLen; omega)
      unfold maxLen at this
      omega
    · match j, hu with
      | 0, hu =>
        cases hu
        have := Lib.bytesWorld_cell w 5 s i (by omega)
        rw [show 0 + i * 1 + 0 = i by omega, this]
        have hg : s.data.toList.getD i 0 = s.data.toList[i] := by rw [List.getD_eq_getElem?_getD, List.getElem?_eq_getElem hi]; rfl
        rw [hg]
  · exact ⟨rfl, rfl, rfl, by rw [Lib.bytesWorld_size]; omega, fun k hk => Lib.bytesWorld_at_old w _ s k hk⟩
set_option maxRecDepth 100000 in
set_option maxHeartbeats 1000000 in
theorem rvb_any (v : Val) (w : World) (hv : (v.s.size : Int) ≤ 1000000000000) : Calls Try.prog 67 #[v.v] w fun e w' => ∃ u, e = .returned u ∧ OwnB w' w.heap.size u (vB v) ∧ Keep w w' := by
  obtain ⟨k0, n0, s0⟩ := v
  simp only at hv
  cases h1 : (k0 == 1)
  · cases h2 : (k0 == 2)
    · have HV : Hid (vB ⟨k0, n0, s0⟩ = []) := by show _ = _; simp [vB, h1, h2]
      go_enter Try.func67, Try.ntmps67
      go_wp2
      go_ret
      exact ⟨_, rfl, by rw [HV.out]; exact Own.nil_ _ _ _ _ _, (by repeat (first | exact Keep.refl _ | apply Keep.alloc | apply Keep.gro | apply Keep.drew | apply Keep.drewN))⟩
    · have HV : Hid (vB ⟨k0, n0, s0⟩ = vu 9 s0.size ++ s0.data.toList) := by show _ = _; simp [vB, h1, h2]
      have hws : IntKind.u64.wrap (s0.size : Int) = (s0.size : Int) := by rw [u64_eq]; unfold u64; omega
      have hcv := fun p : GB => bytes_of s0 ((w.alloc (.cells #[.int .u8 k0, .int .i64 n0, .string s0] 24)).gro p) (by omega)
      have HCV := Lib.hid hcv
      have hlv := vu_len 9 s0.size
      have hle : s0.data.toList.length = s0.size := by show s0.data.toList.length = s0.data.size; simp
      have HLE := Lib.hid hle
      clear hcv hle
      go_enter Try.func67, Try.ntmps67
      go_wp2
      first | refine Zone.wp_region_gro 8 (by kernel_rfl) (by kernel_rfl) ?_ | refine Zone.wp_region 8 (by kernel_rfl) (by kernel_rfl) ?_
      simp only [List.take_succ_cons, List.take_zero, List.drop_succ_cons, List.drop_zero]
      iterate 4
        refine Zone.wpZ_step (fun K hK => ?_)
        go_simp
        (refine hK _ _ ?_; clear hK K)
      refine Zone.wpZ_free 17 (fun u W => OwnB W (w.heap.size + 1) u (vu 9 s0.size)) rfl (fun _ _ _ hk h => Own.keep h hk) ?_ ?_
      · intro p
        rw [Zone.lookFs_nil (by rfl)]
        simp only [Zone.fill]
        go_simp
        go_at_call 83
        refine (short01_any s0.size (by omega) _).mono ?_
        rintro e w1 ⟨u, rfl, hown, hk⟩
        exact ⟨u, rfl, hown.base_mono (by simp [size_gro]), hk⟩
      refine Zone.wpZ_step (fun K hK => ?_)
      unfold Zone.zone Zone.stepZ
      rw [Zone.lookFs_nil (by rfl)]
      go_simp
      (refine hK _ _ ?_; clear hK K)
      refine Zone.wpZ_step (fun K hK => ?_)
      unfold Zone.zone Zone.stepZ
      rw [Zone.lookFs_nil (by rfl)]
      go_simp
      (refine hK _ _ ?_; clear hK K)
      refine Zone.wpZ_free 20 (fun u W => ∃ A c, u = .slice A s0.data.toList.length c ∧ SlB W A c s0.data.toList) rfl (fun _ _ _ hk ⟨A, c, h1, h2⟩ => ⟨A, c, h1, h2.keep hk⟩) ?_ ?_
      · intro p
        rw [Zone.lookFs_nil (by rfl)]
        simp only [Zone.fill]
        obtain ⟨u, W, hrun, hu, hk⟩ := HCV.out p
        have HU := Lib.hid hu
        have HK := Lib.hid hk
        clear hu hk
        go_simp
        exact ⟨HU.out, HK.out⟩
      refine Zone.wpZ_nil ?_
      intro p
      simp only [Zone.fill]
      rintro u20 ⟨A20, c20, rfl, hsl⟩ u17 h17
      have HS := Lib.hid hsl
      have HU := Lib.hid h17
      clear hsl h17
      refine wpList_app elt_u8 b8_len b8_one rfl (.tmp 17) (.tmp 20) rfl (ys := s0.data.toList) HU.out rfl rfl HS.out (by have := HLE.out; omega) (by simp [size_gro]) ?_
      intro v1 w2 hown2 hg2 _
      have ⟨a1, a2, a3⟩ := HU.out.after (w := w) hg2 (by repeat (first | exact Keep.refl _ | apply Keep.alloc | apply Keep.gro | apply Keep.drew | apply Keep.drewN)) (Nat.le_succ _)
      have HO4 := Lib.hid hown2
      have HA1 := Lib.hid a1
      clear hown2 hg2 a3 a2
      go_wp2
      go_ret
      exact ⟨_, rfl, (by have := HO4.out; rw [← HV.out] at this; exact Own.base_mono this (by omega)), HA1.out⟩
  · have HV : Hid (vB ⟨k0, n0, s0⟩ = le (u64 n0) 8) := by show _ = _; simp [vB, h1]
    have HU := u64_eq n0
    have HL := u64_lt n0
    go_enter Try.func67, Try.ntmps67
    go_wp2_with (go_at_call 66; refine Zone.hold ?_)
    refine Zone.unhold ?_
    refine (little_any (u64 n0) 8 HL (by omega) _).mono ?_
    rintro e w1 ⟨u, rfl, hown, hk⟩
    go_wp2
    go_ret
    exact ⟨_, rfl, by rw [HV.out]; exact hown.base_mono (by simp), Keep.trans (Keep.alloc (Keep.refl _) _) hk⟩
set_option maxRecDepth 100000 in
set_option maxHeartbeats 2000000 in
theorem rdb_any (kind : Int) (A : Option Addr) (c : Nat) (xs : List Val) (w : World) (h : Sl w 3 Val.cells A c xs) (hk0 : 0 < kind) (hk1 : kind < 256) (hl : xs.length ≤ 1000000) (hs : ∀ x ∈ xs, x.s.size ≤ 1000000) :
    Calls Try.prog 45 #[.int .u8 kind, .slice A xs.length c] w fun e w' => ∃ v, e = .returned v ∧ OwnB w' w.heap.size v (dBytes kind xs) ∧ Keep w w' := by
  have HSL := Lib.hid h
  have HSZ := Lib.hid hs
  have hwl : IntKind.u64.wrap (xs.length : Int) = (xs.length : Int) := by rw [u64_eq]; unfold u64; omega
  clear h hs
  go_enter Try.func45, Try.ntmps45
  go_wp2_with (go_at_call 66; refine Zone.hold ?_)
  refine Zone.unhold ?_
  refine (little_any xs.length 4 (by omega) (by omega) _).mono ?_
  rintro e w1 ⟨u, rfl, hown, hk⟩
  obtain ⟨A3, c3, rfl, hsl3⟩ := hown.sl b8_len (by rw [le_len]; omega)
  rw [le_len] at hown ⊢
  have HS3 := Lib.hid hsl3
  have HK1 := Lib.hid hk
  have HO1 := Lib.hid (show OwnB w1 w.heap.size (.slice (some ⟨w.heap.size, 0, none⟩) 1 1) [UInt8.ofNat kind.toNat] from by
    refine ⟨rfl, .inr ⟨w.heap.size, 1, #[.int .u8 kind], rfl, Nat.le_refl _, (hk.block _ (by simp)).trans (heap_alloc_new w _), Nat.le_refl _, by unfold maxLen; omega, rfl, ?_⟩⟩
    have : kind = ((UInt8.ofNat kind.toNat).toNat : Int) := by rw [u8_nat]; omega
    simp only [List.flatMap_cons, List.flatMap_nil, b8, ← this]
    rfl)
  clear hown hk hsl3
  go_wp2_with (at_builtin; refine Zone.hold ?_)
  refine Zone.unhold ?_
  refine wpList_app elt_u8 b8_len b8_one rfl (.tmp 8) (.tmp 12) rfl (ys := le xs.length 4) HO1.out rfl (by rw [le_len]; rfl) HS3.out (by simp [le_len]) (by have := HK1.out.size; simp at this; omega) ?_
  intro v1 w2 hown2 hg2 _
  have ⟨a1, a2, a3⟩ := HO1.out.after (w := w) hg2 (Keep.trans (by repeat (first | exact Keep.refl _ | apply Keep.alloc | apply Keep.gro | apply Keep.drew | apply Keep.drewN)) HK1.out) (Nat.le_refl _)
  have HO := Lib.hid hown2
  have HK := Lib.hid a1
  have hz := a1.size
  clear hown2 hg2 a1 a2 a3 HO1 HS3
  go_wp2
  go_loopw [6, 5] (fun vi vb wr => ∃ (k : Nat) (o : Value), k ≤ xs.length ∧ vi = .int .i64 k ∧ o = vb ∧ Hid (OwnB wr w.heap.size o ([UInt8.ofNat kind.toNat] ++ le xs.length 4 ++ (xs.take k).flatMap vB)) ∧ Hid (Keep w wr) ∧ w.heap.size ≤ wr.heap.size) (fun vi _ _ => xs.length - (intOf vi).toNat)
  case atStart => exact ⟨0, _, by omega, rfl, rfl, (by show OwnB _ _ _ _; simp only [List.take_zero, List.flatMap_nil, List.append_nil]; exact HO.out), HK.out, hz⟩
  case round =>
    obtain ⟨k, o, hk, rfl, rfl, HO2, HK2, hz2⟩ := hrel
    by_cases hlt : k < xs.length
    · obtain ⟨bx, off, rfl, hbx, c0, c1', c2'⟩ := sl_val (HSL.out.keep HK2.out) k hlt
      have hsz := HSZ.out xs[k] (List.getElem_mem hlt)
      have hvb := vB_len xs[k]
      have hpre := flat_vB (xs.take k) 1000000 (fun x hx => HSZ.out x (List.mem_of_mem_take hx))
      have hpre2 : (xs.take k).length * (1000000 + 10) ≤ 1000000 * 1000010 := Nat.mul_le_mul (by simp; omega) (Nat.le_refl _)
      have HTK := Lib.hid (show (xs.take (k + 1)).flatMap vB = (xs.take k).flatMap vB ++ vB xs[k] by rw [List.take_succ_eq_append_getElem hlt, List.flatMap_append]; simp)
      go_wp2_with (go_at_call 67; refine Zone.hold ?_)
      refine Zone.unhold ?_
      refine (rvb_any xs[k] _ (by omega)).mono ?_
      rintro e w3 ⟨u, rfl, hown, hk3⟩
      obtain ⟨A3, c3, rfl, hsl3⟩ := hown.sl b8_len (by omega)
      have HS3 := Lib.hid hsl3
      have hz4 := hk3.size
      have HK4 := Lib.hid hk3
      clear hown hk3 hsl3
      go_wp2_with (at_builtin; refine Zone.hold ?_)
      refine Zone.unhold ?_
      have HO3 := HO2.out.keep HK4.out
      refine wpList_app elt_u8 b8_len b8_one rfl (.tmp 20) (.tmp 25) rfl (ys := vB xs[k]) HO3 rfl rfl HS3.out (by simp only [List.length_append, le_len, List.length_cons, List.length_nil]; omega) (by omega) ?_
      intro v5 w5 hown5 hg5 _
      have ⟨a1, a2, a3⟩ := HO3.after hg5 (HK2.out.trans HK4.out) (Nat.le_refl _)
      have HO4 := Lib.hid hown5
      have HA1 := Lib.hid a1
      clear hown5 hg5 HO3 a3
      go_wp2
      go_roundw
      case rel => exact ⟨k + 1, _, by omega, by go_num, rfl, (by show OwnB _ _ _ _; have := HO4.out; rw [List.append_assoc, ← HTK.out] at this; exact this), HA1.out, by omega⟩
      case measure => simp [intOf]; omega
    · have hkx : k = xs.length := by omega
      subst hkx
      go_wp2
      go_ret
      refine ⟨_, rfl, ?_, HK2.out⟩
      have := HO2.out
      rw [List.take_length] at this
      exact this
set_option maxRecDepth 100000 in
set_option maxHeartbeats 1000000 in
theorem same_true (A B : Option Addr) (c d : Nat) (xs : List Val) (w : World) (h : Sl w 3 Val.cells A c xs) (k : Sl w 3 Val.cells B d xs) :
    Calls Try.prog 20 #[.slice A xs.length c, .slice B xs.length d] w fun e w' => e = .returned (.bool true) ∧ Keep w w' := by
  have HA := Lib.hid h
  have HB := Lib.hid k
  have hlen := h.len
  clear h k
  go_enter Try.func20, Try.ntmps20
  go_wp2
  go_loopw [5] (fun vi wr => ∃ k : Nat, k ≤ xs.length ∧ vi = .int .i64 k ∧ Hid (Keep w wr)) (fun vi _ => xs.length - (intOf vi).toNat)
  case atStart => exact ⟨0, Nat.zero_le _, rfl, Keep.refl _⟩
  case round =>
    obtain ⟨k, hk, rfl, HK⟩ := hrel
    by_cases hlt : k < xs.length
    · obtain ⟨b1, o1, rfl, hb1, c0, c1, c2⟩ := sl_val (HA.out.keep HK.out) k hlt
      obtain ⟨b2, o2, rfl, hb2, d0, d1, d2⟩ := sl_val (HB.out.keep HK.out) k hlt
      obtain ⟨y, hy⟩ : ∃ y, xs[k] = y := ⟨_, rfl⟩
      rw [hy] at c0 c1 c2 d0 d1 d2
      obtain ⟨yk, yn, ys⟩ := y
      have hcc : eqC yk yn yk yn ys ys = true := by simp [eqC]
      have hi1 : (0 : Int) ≤ (k : Int) := by omega
      have hi2 : (k : Int) < (xs.length : Int) := by omega
      clear hy
      go_wp2
      first | refine Zone.wp_region_all_gro (by kernel_rfl) (by kernel_rfl) ?_ | refine Zone.wp_region_all (by kernel_rfl) (by kernel_rfl) ?_
      repeat
        refine Zone.wpZ_step (fun K hK => ?_)
        go_simp
        first
        | (refine hK _ _ ?_; clear hK K)
        | (apply Exists.intro
           refine ⟨fun p => ?_, hK _ _ ?_⟩
           (fail)
           clear hK K)
      refine Zone.wpZ_nil ?_
      intro p
      simp only [Zone.fill]
      clear hcc hi1
      go_wp2
      go_roundw
      case rel => exact ⟨k + 1, by omega, by go_num, HK.out.gro _⟩
      case measure => simp [intOf]; omega
    · go_wp2
      go_ret
      exact ⟨rfl, HK.out⟩
end Go.Proofs.Ytbblkabnijhdoaa
