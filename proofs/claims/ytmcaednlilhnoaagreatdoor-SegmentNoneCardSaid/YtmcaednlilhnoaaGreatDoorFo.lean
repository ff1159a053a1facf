
/- forward: may, width, Of. -/
import Derived.WalkKit
import Derived.Lib.Hide
import Derived.WalkSpells
import Derived.WalkLawsBesides
import Derived.BigQuiet
import Derived.Shelf.Abstract
import Derived.Test.YtmcaednlilhnoaaGreatDoorJl
import Derived.Test.YtmcaednlilhnoaaGreatDoorBe2
namespace Go.Proofs.YtmcaednlilhnoaaGreatDoor
open Go.RowKit Go.Zone Go.Shelf
attribute [local go_sem] Zone.zone Zone.stepZ Zone.fill Zone.lookFs Zone.goes Zone.goesUpon Zone.dropFs Zone.cell_gro Zone.frozen_gro Zone.size_gro Zone.lt_add Zone.drew_gro Zone.tape_gro Zone.keep_refl
attribute [local go_sem] Zone.lt_add2 Zone.lt_add3 Zone.lt_add4 Zone.lt_add5 Zone.lt_add6 Zone.lt_add7 Zone.lt_add8 Zone.lt_add9 Zone.lt_add10 Zone.lt_add11 Zone.lt_add12
def MayF (many n : Nat) : Prop := (1 ≤ many ∧ many ≤ 16777216) ∨ (many = 0 ∧ n = 0)
def wdF (many : Nat) : Nat := widthN (many - 1)
theorem wdF_lo (many : Nat) : 1 ≤ wdF many := by unfold wdF widthN; omega
theorem wdF_hi (many : Nat) (h : many ≤ 16777216) : wdF many ≤ 24 := by
  unfold wdF widthN
  have := (bitLen_le 24 (many - 1) (by omega)).2 (by omega)
  omega
theorem wdF_fit (many x : Nat) (h : many ≤ 16777216) (hx : x < many) : x < 2 ^ wdF many := by
  have h1 := (bitLen_le (wdF many) (many - 1) (by omega)).1 (by unfold wdF widthN; omega)
  omega
def n64V (x : Nat) : List Value := [.int .i64 (x : Int)]
theorem n64_f (x : Nat) : n64V x = [.int .i64 (x : Int)] := rfl
theorem u64_f (x : Nat) : u64V x = [.int .u64 (x : Int)] := rfl
theorem sl_n64 {w : World} {c : Nat} {A : Option Addr} {xs : List Nat} (h : Sl w 1 n64V A c xs) (i : Nat) (hi : i < xs.length) : ∃ b off, A = some ⟨b, off, none⟩ ∧ b < w.heap.size ∧ w.cell? ⟨b, off + i, none⟩ = some (.int .i64 (xs[i] : Int)) := by
  obtain ⟨b, off, hA, hc⟩ := h.at_ i hi
  have h0 := hc 0 _ rfl
  rw [Nat.mul_one, Nat.add_zero] at h0
  exact ⟨b, off, hA, World.block_lt_of_cell? w _ h0, h0⟩
theorem info_u64 : (Tryz.prog.info? 85).map (fun i => (i.zero, i.size, i.bytes)) = some (some (.int .u64 0), 1, 8) := by kernel_rfl
theorem fmay_any (n many : Nat) (h : MayF many n) (w : World) : Calls Tryz.prog 125 #[.int .i64 n, .int .i64 many] w fun e w' => e = .returned (.bool true) ∧ Keep w w' := by
  rcases h with ⟨h1, h2⟩ | ⟨rfl, rfl⟩
  · have hd1 : decide ((1 : Int) ≤ (many : Int)) = true := by simp; omega
    have hd2 : decide ((many : Int) ≤ 16777216) = true := by simp; omega
    go_enter Tryz.func125, Tryz.ntmps125
    go_wp2
    all_goals go_ret
    all_goals exact ⟨by simp_all, (by repeat (first | exact Keep.refl _ | apply Keep.alloc | apply Keep.gro | apply Keep.drew | apply Keep.drewN))⟩
  · exact fmay_zero w
theorem fwidth_any (many : Nat) (h : many ≤ 16777216) (w : World) : Calls Tryz.prog 126 #[.int .i64 many] w fun e w' => e = .returned (.int .i64 (wdF many : Nat)) ∧ Keep w w' := by
  have HW := Lib.hid (width_any (many - 1) (by omega))
  have hw : IntKind.u64.wrap (max ((many : Int) - 1) 0) = ((many - 1 : Nat) : Int) := by
    rw [IntKind.wrap_u64] <;> omega
  go_enter Tryz.func126, Tryz.ntmps126
  go_wp2_with (go_at_call 180; refine (HW.out _).mono ?_; rintro e w' ⟨rfl, hk⟩; (first | obtain ⟨p, rfl⟩ := Zone.gro_of_gro _ _ hk | obtain ⟨p, rfl⟩ := Zone.gro_of_below _ hk); clear hk)
  go_ret
  exact ⟨rfl, (by repeat (first | exact Keep.refl _ | apply Keep.alloc | apply Keep.gro | apply Keep.drew | apply Keep.drewN))⟩
set_option maxRecDepth 100000 in
set_option maxHeartbeats 2000000 in
theorem fof_any (A : Option Addr) (c many : Nat) (ids : List Nat) (w : World) (h : Sl w 1 n64V A c ids) (hm : MayF many ids.length) (hl : ids.length ≤ 16777216) (hb : ∀ x ∈ ids, x < many) :
    Calls Tryz.prog 70 #[.slice A ids.length c, .int .i64 many] w fun e w' => ∃ b A' c', e = .returned (.tuple #[.pointer (some ⟨b, 0, none⟩), .int .i64 0]) ∧ IdxAt w' b ids.length many (wdF many) A' c' (packB ids (wdF many)) ∧ w.heap.size ≤ b ∧ (∀ bb off, A' = some ⟨bb, off, none⟩ → w.heap.size ≤ bb) ∧ Keep w w' := by
  have hmm : many ≤ 16777216 := by rcases hm with h | h <;> omega
  have HM := Lib.hid (fmay_any ids.length many hm)
  have HW := Lib.hid (fwidth_any many hmm)
  have HB := Lib.hid hb
  have H := Lib.hid h
  have hcap := h.cap
  have hbig := h.big
  have HMM := Lib.hid hmm
  clear h hb hm
  generalize hn : ids.length = n at hl hcap HM
  have HN := Lib.hid hn
  go_enter Tryz.func70, Tryz.ntmps70
  go_wp2_with (go_at_call 125; refine (HM.out _).mono ?_; rintro e w' ⟨rfl, hk⟩; (first | obtain ⟨p, rfl⟩ := Zone.gro_of_gro _ _ hk | obtain ⟨p, rfl⟩ := Zone.gro_of_below _ hk); clear hk)
  rename GB => p
  have hk0 : Keep w (w.gro p) := below_gro _ _
  generalize w.gro p = w1 at hk0 ⊢
  obtain ⟨i0, hi0, i1, i2, i3⟩ := info_parts info_u64
  obtain ⟨W', hr, ho, hk⟩ := own_made1 (P := Tryz.prog) (z := (0 : Nat)) u64_f rfl Tryz.underlying207 hi0 i1 i2 n w.heap.size w1 (by rw [i3]; omega) (by omega) hk0.size
  rw [hr]
  have HO := Lib.hid ho
  have HK := Lib.hid (hk0.trans hk)
  clear ho hk hr i0 hi0 i1 i2 i3 hk0
  generalize w1.heap.size = g at HO ⊢
  clear w1
  go_wp2
  go_loopw [22] (fun i wr => ∃ k : Nat, k ≤ n ∧ i = .int .i64 k ∧ Hid (Own wr w.heap.size 85 1 u64V (.slice (some ⟨g, 0, none⟩) n n) (ids.take k ++ List.replicate (n - k) 0)) ∧ Hid (Keep w wr)) (fun i _ => n - (intOf i).toNat)
  case atStart => exact ⟨0, Nat.zero_le _, rfl, HO.out, HK.out⟩
  case round =>
    clear HO HK
    obtain ⟨k, hk, rfl, HO, HK⟩ := hrel
    by_cases hlt : k < n
    · have hlt2 : k < ids.length := by rw [HN.out]; exact hlt
      obtain ⟨b, off, hA, hb, h0⟩ := sl_n64 (H.out.keep HK.out) k hlt2
      have hx := HB.out ids[k] (List.getElem_mem hlt2)
      have hlen : (ids.take k ++ List.replicate (n - k) 0).length = n := by simp; omega
      obtain ⟨c0, c1, c2, c3⟩ := HO.out.cell1 u64_f hlen.symm k (by omega)
      have hset : (ids.take k ++ List.replicate (n - k) 0).set k ids[k] = ids.take (k + 1) ++ List.replicate (n - (k + 1)) 0 := by
        rw [List.set_append_right _ _ (by rw [List.length_take]; omega), List.length_take, Nat.min_eq_left (by omega), Nat.sub_self, show n - k = (n - (k + 1)) + 1 by omega, List.replicate_succ, List.set_cons_zero, List.take_succ_eq_append_getElem hlt2, List.append_assoc]; rfl
      have ho2 := HO.out.set1 u64_f hlen.symm k ids[k] rfl
      rw [hset] at ho2
      generalize (ids.take k ++ List.replicate (n - k) 0)[k]'(by rw [hlen]; exact hlt) = y at c0
      have HO2 := Lib.hid ho2
      have HC := Lib.hid c3
      have hw2 : IntKind.u64.wrap (ids[k] : Int) = (ids[k] : Int) := by rw [IntKind.wrap_u64] <;> omega
      have hx2 : (ids[k] : Int) < (many : Int) := by omega
      have hd1 : decide ((many : Int) ≤ (ids[k] : Int)) = false := by simp; omega
      subst hA
      clear ho2 hset hlen c3
      go_wp2
      go_roundw
      case rel => exact ⟨k + 1, by omega, by go_num, HO2.out, HK.out.setCell HC.out _⟩
      case measure => simp [intOf]; omega
    · have hkl : k = n := by omega
      subst hkl
      rw [Nat.sub_self, List.replicate_zero, List.append_nil, ← HN.out, List.take_length] at HO
      have hd : decide ((16777216 : Int) < (k : Int)) = false := by simp; omega
      go_wp2_with (go_at_call 126; refine Zone.hold ?_)
      refine Zone.unhold ?_
      refine (HW.out _).mono ?_
      rintro e w1 ⟨rfl, hk1⟩
      have HK1 := Lib.hid (HK.out.trans hk1)
      have HO1 := Lib.hid (HO.out.keep hk1)
      clear hk1 HO HK
      obtain ⟨A8, c8, hv8, hsl⟩ := HO1.out.sl (fun _ => rfl) (by omega)
      injection hv8 with hv8 _ hc8
      subst hv8; subst hc8
      have hp := pack_any (some ⟨g, 0, none⟩) ids.length (wdF many) ids w1 hsl (wdF_lo many) (by have := wdF_hi many HMM.out; omega) (by omega) (fun x hx => wdF_fit many x HMM.out (HB.out x hx))
      rw [HN.out] at hp
      have HP := Lib.hid hp
      clear hp hsl
      go_wp2_with (go_at_call 127; refine Zone.hold ?_)
      refine Zone.unhold ?_
      refine HP.out.mono ?_
      rintro e w2 ⟨v, rfl, hov, hk2⟩
      obtain ⟨Av, cv, rfl, hsv⟩ := hov.sl b8_len (by
        have h1 : ids.length * wdF many ≤ 16777216 * 24 := Nat.mul_le_mul (by omega) (wdF_hi many HMM.out)
        simp only [packB, le_len]
        omega)
      have HFR := Lib.hid (show ∀ bb off, Av = some ⟨bb, off, none⟩ → w1.heap.size ≤ bb from fun bb off e => (hov.lt bb (by rw [e]; rfl)).1)
      have HSV := Lib.hid hsv
      have HK2 := Lib.hid (HK1.out.trans hk2)
      clear hov hsv hk2
      go_wp2
      exact bodyPost_ret (v := .tuple #[.pointer (some ⟨w2.heap.size, 0, none⟩), .int .i64 0]) (by simp [results, Tryz.results70, go_sem]) rfl
        ⟨w2.heap.size, Av, cv, rfl, ⟨by simp [go_sem], by simp [go_sem], by simp [go_sem], by simp [go_sem], HSV.out.keep (by repeat (first | exact Keep.refl _ | apply Keep.alloc | apply Keep.gro | apply Keep.drew | apply Keep.drewN))⟩, HK2.out.size, fun bb off e => Nat.le_trans HK1.out.size (HFR.out bb off e), HK2.out.trans (by repeat (first | exact Keep.refl _ | apply Keep.alloc | apply Keep.gro | apply Keep.drew | apply Keep.drewN))⟩
end Go.Proofs.YtmcaednlilhnoaaGreatDoor
