
/- Contracts of the document's functions on values and dictionaries: less, compare, so, put, of, interval. -/
import Derived.WalkKit
import Derived.Lib.Hide
import Derived.WalkSpells
import Derived.WalkLawsBesides
import Derived.BigQuiet
import Derived.Shelf.Abstract
import Derived.Lib.Strings
import Derived.Test.YthigflnfccajoaaGreatFuncs
namespace Go.Proofs.YthigflnfccajoaaGreat
open Go.RowKit Go.Zone Go.Shelf
attribute [local go_sem] Zone.zone Zone.stepZ Zone.fill Zone.lookFs Zone.goes Zone.goesUpon Zone.dropFs Zone.cell_gro Zone.frozen_gro Zone.size_gro Zone.lt_add Zone.drew_gro Zone.tape_gro Zone.keep_refl
def lessV (x y : Val) : Bool := if x.k != y.k then decide (x.k < y.k) else if x.n != y.n then decide (x.n < y.n) else Op.bytesLess x.s.toList y.s.toList
theorem bytesLess_len : ∀ (l m : List UInt8), (∀ j, (h1 : j < l.length) → (h2 : j < m.length) → l[j] = m[j]) → Op.bytesLess l m = decide (l.length < m.length)
  | [], [], _ => by simp [Op.bytesLess]
  | [], y :: m, _ => by simp [Op.bytesLess]
  | x :: l, [], _ => by simp [Op.bytesLess]
  | x :: l, y :: m, h => by
    have h0 := h 0 (by simp) (by simp)
    simp only [List.getElem_cons_zero] at h0
    subst h0
    have ih := bytesLess_len l m fun j h1 h2 => by have := h (j + 1) (by simpa using h1) (by simpa using h2); simpa using this
    simp [Op.bytesLess, ih]
theorem bytesLess_at : ∀ (l m : List UInt8) (k : Nat) (h1 : k < l.length) (h2 : k < m.length), (∀ j, j < k → (h1 : j < l.length) → (h2 : j < m.length) → l[j] = m[j]) → l[k] ≠ m[k] → Op.bytesLess l m = decide (l[k] < m[k])
  | [], _, k, h1, _, _, _ => by simp at h1
  | _ :: _, [], k, _, h2, _, _ => by simp at h2
  | x :: l, y :: m, 0, _, _, _, hne => by
    simp only [List.getElem_cons_zero] at hne ⊢
    simp [Op.bytesLess, hne]
  | x :: l, y :: m, k + 1, h1, h2, h, hne => by
    have h0 := h 0 (by omega) (by simp) (by simp)
    simp only [List.getElem_cons_zero] at h0
    subst h0
    have ih := bytesLess_at l m k (by simpa using h1) (by simpa using h2) (fun j hj h1 h2 => by have := h (j + 1) (by omega) (by simpa using h1) (by simpa using h2); simpa using this) (by simpa using hne)
    simp [Op.bytesLess, ih]

theorem size_toList (s : ByteArray) : s.toList.length = s.size := by rw [Lib.toList_data]; simp
theorem toList_get (s : ByteArray) (i : Nat) (h : i < s.toList.length) : s.toList[i] = s[i]'(by rw [size_toList] at h; exact h) := by
  simp only [Lib.toList_data]; simp; rfl
set_option maxHeartbeats 1000000 in
theorem less_any (x y : Val) (w : World) (hx : x.s.size ≤ maxLen) (hy : y.s.size ≤ maxLen) : Calls Tryz.prog 86 #[x.v, y.v] w fun e w' => e = .returned (.bool (lessV x y)) ∧ Keep w w' := by
  obtain ⟨k, n, s⟩ := x
  obtain ⟨k', n', s'⟩ := y
  simp only [Val.v]
  simp only at hx hy
  unfold maxLen at hx hy
  by_cases h1 : k = k'
  · subst h1
    by_cases h2 : n = n'
    · subst h2
      simp only [lessV, bne_self_eq_false, Bool.false_eq_true, if_false]
      go_enter Tryz.func86, Tryz.ntmps86
      go_wp2
      go_loopw [5] (fun i wr => ∃ j : Nat, j ≤ s.size ∧ j ≤ s'.size ∧ i = .int .i64 j ∧ w.heap.size + 1 < wr.heap.size ∧ wr.cell? ⟨w.heap.size, 2, none⟩ = some (.string s) ∧ wr.cell? ⟨w.heap.size + 1, 2, none⟩ = some (.string s') ∧ Hid (Keep w wr) ∧
        Hid (∀ i, i < j → (h1 : i < s.size) → (h2 : i < s'.size) → s[i] = s'[i])) (fun i _ => s.size - (intOf i).toNat)
      case atStart => exact ⟨0, Nat.zero_le _, Nat.zero_le _, rfl, by simp, by simp [go_sem], by simp [go_sem], (by repeat (first | exact Keep.refl _ | apply Keep.alloc | apply Keep.gro | apply Keep.drew | apply Keep.drewN)), fun i hi => absurd hi (Nat.not_lt_zero _)⟩
      case round =>
        obtain ⟨j, hj, hj', rfl, hz, hc, hc', HK, HR⟩ := hrel
        have hz' : w.heap.size < wr.heap.size := by omega
        by_cases hlt : j < s.size ∧ j < s'.size
        · obtain ⟨hl, hl'⟩ := hlt
          by_cases he : s[j] = s'[j]
          · have hb : (((s[j].toNat : Nat) : Int) != (s'[j].toNat : Int)) = false := by rw [he]; simp
            have HE := Lib.hid he
            clear he
            go_wp2
            first | refine Zone.wp_region_all_gro (by kernel_rfl) (by kernel_rfl) ?_ | refine Zone.wp_region_all (by kernel_rfl) (by kernel_rfl) ?_
            repeat
              refine Zone.wpZ_step (fun K hK => ?_)
              go_simp
              first
              | (refine hK _ _ ?_; clear hK K)
              | (apply Exists.intro
                 refine ⟨fun p => ?_, hK _ _ ?_⟩
                 (fail)
                 clear hK K)
            refine Zone.wpZ_nil ?_
            intro p
            simp only [Zone.fill]
            go_wp2
            go_roundw
            case rel => exact ⟨j + 1, by omega, by omega, by go_num, by simp [Zone.size_gro]; omega, by simp [Zone.cell_gro, hz', hc], by simp [Zone.cell_gro, hz, hc'], HK.out.gro p, fun i hi h1 h2 => by
              by_cases e : i = j
              · subst e; exact HE.out
              · exact HR.out i (by omega) h1 h2⟩
            case measure => simp [intOf]; omega
          · have hb : (((s[j].toNat : Nat) : Int) != (s'[j].toNat : Int)) = true := by
              simp only [bne_iff_ne, ne_eq, Int.natCast_inj]
              exact fun e => he (UInt8.toNat_inj.1 e)
            have HV : Hid (Op.bytesLess s.toList s'.toList = decide (s[j].toNat < s'[j].toNat)) := by
              have h := bytesLess_at s.toList s'.toList j (by rw [size_toList]; exact hl) (by rw [size_toList]; exact hl') (fun i hi h1 h2 => by
                have := HR.out i hi (by rw [size_toList] at h1; exact h1) (by rw [size_toList] at h2; exact h2)
                simpa [toList_get] using this) (by simpa [toList_get] using he)
              show _ = _
              rw [h]
              simp [toList_get, UInt8.lt_iff_toNat_lt]
            clear he
            go_wp2
            first | refine Zone.wp_region_all_gro (by kernel_rfl) (by kernel_rfl) ?_ | refine Zone.wp_region_all (by kernel_rfl) (by kernel_rfl) ?_
            repeat
              refine Zone.wpZ_step (fun K hK => ?_)
              go_simp
              first
              | (refine hK _ _ ?_; clear hK K)
              | (apply Exists.intro
                 refine ⟨fun p => ?_, hK _ _ ?_⟩
                 (fail)
                 clear hK K)
            refine Zone.wpZ_nil ?_
            intro p
            simp only [Zone.fill]
            go_wp2
            first | refine Zone.wp_region_all_gro (by kernel_rfl) (by kernel_rfl) ?_ | refine Zone.wp_region_all (by kernel_rfl) (by kernel_rfl) ?_
            repeat
              refine Zone.wpZ_step (fun K hK => ?_)
              go_simp
              first
              | (refine hK _ _ ?_; clear hK K)
              | (apply Exists.intro
                 refine ⟨fun p => ?_, hK _ _ ?_⟩
                 (fail)
                 clear hK K)
            refine Zone.wpZ_nil ?_
            intro q
            simp only [Zone.fill]
            go_wp2
            go_ret
            exact ⟨ret_bool HV.out.symm, HK.out.gro _⟩
        · have HV : Hid (Op.bytesLess s.toList s'.toList = decide (s.size < s'.size)) := by
            have h := bytesLess_len s.toList s'.toList (fun i h1 h2 => by
              rw [size_toList] at h1 h2
              have := HR.out i (by omega) h1 h2
              simpa [toList_get] using this)
            show _ = _
            rw [h, size_toList, size_toList]
          by_cases hl : j < s.size
          all_goals
            go_wp2
            go_ret
            exact ⟨ret_bool HV.out.symm, HK.out⟩
    · have hn : (n != n') = true := by simpa using h2
      simp only [lessV, bne_self_eq_false, Bool.false_eq_true, if_false, hn, if_true]
      clear h2
      go_enter Tryz.func86, Tryz.ntmps86
      go_wp2
      go_ret
      exact ⟨rfl, (by repeat (first | exact Keep.refl _ | apply Keep.alloc | apply Keep.gro | apply Keep.drew | apply Keep.drewN))⟩
  · have hn : (k != k') = true := by simpa using h1
    simp only [lessV, hn, if_true]
    clear h1
    go_enter Tryz.func86, Tryz.ntmps86
    go_wp2
    go_ret
    exact ⟨rfl, (by repeat (first | exact Keep.refl _ | apply Keep.alloc | apply Keep.gro | apply Keep.drew | apply Keep.drewN))⟩

def rcmpV (x y : Val) : Int := if lessV x y then -1 else if lessV y x then 1 else 0
set_option maxHeartbeats 1000000 in
theorem rcompare_any (x y : Val) (w : World) (hx : x.s.size ≤ maxLen) (hy : y.s.size ≤ maxLen) : Calls Tryz.prog 101 #[x.v, y.v] w fun e w' => e = .returned (.int .i64 (rcmpV x y)) ∧ Keep w w' := by
  have hxy := fun W => less_any x y W hx hy
  have hyx := fun W => less_any y x W hy hx
  unfold rcmpV
  generalize lessV x y = a at hxy
  generalize lessV y x = b at hyx
  obtain ⟨k, n, s⟩ := x
  obtain ⟨k', n', s'⟩ := y
  simp only [Val.v] at hxy hyx ⊢
  have H1 := Lib.hid hxy
  have H2 := Lib.hid hyx
  clear hxy hyx
  cases a <;> cases b
  all_goals
    go_enter Tryz.func101, Tryz.ntmps101
    go_wp2_with fail
    refine (H1.out _).mono ?_; rintro e w' ⟨rfl, hk⟩; (first | obtain ⟨p, rfl⟩ := Zone.gro_of_gro _ _ hk | obtain ⟨p, rfl⟩ := Zone.gro_of_below _ hk); clear hk
    go_wp2_with (refine (H2.out _).mono ?_; rintro e w' ⟨rfl, hk⟩; (first | obtain ⟨q, rfl⟩ := Zone.gro_of_gro _ _ hk | obtain ⟨q, rfl⟩ := Zone.gro_of_below _ hk); clear hk)
    go_ret
    exact ⟨rfl, (by repeat (first | exact Keep.refl _ | apply Keep.alloc | apply Keep.gro | apply Keep.drew | apply Keep.drewN))⟩

def so3 (cmp c : Int) : Bool := if cmp == 1 then c == 0 else if cmp == 2 then c != 0 else if cmp == 3 then decide (c < 0) else if cmp == 4 then decide (c ≤ 0) else if cmp == 5 then decide (0 < c) else decide (0 ≤ c)
end Go.Proofs.YthigflnfccajoaaGreat
