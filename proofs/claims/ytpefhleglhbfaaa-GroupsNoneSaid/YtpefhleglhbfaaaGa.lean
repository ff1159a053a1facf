
/- groups: the small functions: ready, cmp.Compare, slices.Compare, Clone, Repeat. -/
import Derived.WalkKit
import Derived.Lib.Hide
import Derived.WalkSpells
import Derived.WalkLawsBesides
import Derived.BigQuiet
import Derived.Shelf.Abstract
import Derived.Lib.SliceRun
import Derived.Laws.CopyOwn
import Derived.Test.YtpefhleglhbfaaaProg
import Derived.Test.YtpefhleglhbfaaaBas
namespace Go.Proofs.Ytpefhleglhbfaaa
open Go.RowKit Go.Zone Go.Shelf
attribute [local go_sem] Zone.zone Zone.stepZ Zone.fill Zone.lookFs Zone.goes Zone.goesUpon Zone.dropFs Zone.cell_gro Zone.frozen_gro Zone.size_gro Zone.lt_add Zone.drew_gro Zone.tape_gro Zone.keep_refl
attribute [local go_sem] Zone.lt_add2 Zone.lt_add3 Zone.lt_add4 Zone.lt_add5 Zone.lt_add6 Zone.lt_add7 Zone.lt_add8 Zone.lt_add9 Zone.lt_add10 Zone.lt_add11 Zone.lt_add12
def intV (x : Int) : List Value := [.int .i64 x]
theorem int_len (x : Int) : (intV x).length = 1 := rfl
theorem int_one (x : Int) : ∀ u ∈ intV x, u.oneCell' = true := by simp [intV, Value.oneCell']
theorem info_i : (Try.prog.info? 3).map (fun i => (i.zero, i.size, i.bytes)) = some (some (.int .i64 0), 1, 8) := by kernel_rfl
theorem info_i64 : (Try.prog.info? 2).map (fun i => (i.zero, i.size, i.bytes)) = some (some (.int .i64 0), 1, 8) := by kernel_rfl
theorem info_partsK {P : Program} {e : TypeId} {z : Value} {n b : Nat} (h : (P.info? e).map (fun i => (i.zero, i.size, i.bytes)) = some (some z, n, b)) : ∃ i, P.info? e = some i ∧ i.zero = some z ∧ i.size = n ∧ i.bytes = b := by
  cases hi : P.info? e with
  | none => rw [hi] at h; cases h
  | some i =>
    rw [hi] at h
    simp only [Option.map_some, Option.some.injEq, Prod.mk.injEq] at h
    exact ⟨i, rfl, h.1, h.2.1, h.2.2⟩
theorem elt_i : Elt Try.prog 22 3 1 8 := by
  obtain ⟨i, hi, h1, h2, h3⟩ := info_partsK info_i
  exact ⟨i, _, Try.underlying22, hi, h1, h2, h3, rfl, by decide, by decide⟩
theorem elt_i64 : Elt Try.prog 23 2 1 8 := by
  obtain ⟨i, hi, h1, h2, h3⟩ := info_partsK info_i64
  exact ⟨i, _, Try.underlying23, hi, h1, h2, h3, rfl, by decide, by decide⟩
theorem sl_int {w : World} {c : Nat} {A : Option Addr} {xs : List Int} (h : Sl w 1 intV A c xs) (i : Nat) (hi : i < xs.length) : ∃ b off, A = some ⟨b, off, none⟩ ∧ b < w.heap.size ∧ w.cell? ⟨b, off + i, none⟩ = some (.int .i64 xs[i]) := by
  obtain ⟨b, off, hA, hc⟩ := h.at_ i hi
  have h0 := hc 0 _ rfl
  exact ⟨b, off, hA, World.block_lt_of_cell? w _ h0, by simpa using h0⟩
theorem ready_nil (w : World) : Calls Try.prog 13 #[.pointer none] w fun e w' => e = .returned (.bool false) ∧ w = w' := by
  have hm := fun (W : World) (r : Option Nat) => run_neq_map_nil W 30 48 45 r Try.underlying30
  go_enter Try.func13, Try.ntmps13
  go_wp2
  go_ret
  exact ⟨rfl, rfl⟩
theorem ready_zero (w : World) (b : Nat) (h : w.cell? ⟨b, 2, none⟩ = some (.map none)) : Calls Try.prog 13 #[.pointer (some ⟨b, 0, none⟩)] w fun e w' => e = .returned (.bool false) ∧ w = w' := by
  have hm := fun (W : World) (r : Option Nat) => run_neq_map_nil W 30 48 45 r Try.underlying30
  go_enter Try.func13, Try.ntmps13
  go_wp2
  go_ret
  exact ⟨rfl, rfl⟩
theorem ready_yes (w : World) (b m : Nat) (h : w.cell? ⟨b, 2, none⟩ = some (.map (some m))) : Calls Try.prog 13 #[.pointer (some ⟨b, 0, none⟩)] w fun e w' => e = .returned (.bool true) ∧ w = w' := by
  have hm := fun (W : World) (r : Option Nat) => run_neq_map_nil W 30 48 45 r Try.underlying30
  go_enter Try.func13, Try.ntmps13
  go_wp2
  go_ret
  exact ⟨rfl, rfl⟩
def cmpN (x y : Int) : Int := if x < y then -1 else if y < x then 1 else 0
theorem cmpI_any (x y : Int) (w : World) : Calls Try.prog 26 #[.int .i64 x, .int .i64 y] w fun e w' => e = .returned (.int .i64 (cmpN x y)) ∧ w = w' := by
  have hn : ∀ (x : Int) (W : World), Calls Try.prog 38 #[.int .i64 x] W fun e w' => e = .returned (.bool false) ∧ W = w' := fun x W => by
    go_enter Try.func38, Try.ntmps38
    go_wp2
    go_ret
    exact ⟨by simp, rfl⟩
  have HN := Lib.hid hn
  clear hn
  unfold cmpN
  rcases Int.lt_trichotomy x y with h | h | h
  · rw [if_pos h]
    go_enter Try.func26, Try.ntmps26
    go_wp2_with (go_at_call 38; refine (HN.out _ _).mono ?_; rintro e w' ⟨rfl, rfl⟩)
    go_ret
    exact ⟨rfl, rfl⟩
  · have h1 : ¬ x < y := by omega
    have h2 : ¬ y < x := by omega
    rw [if_neg h1, if_neg h2]
    clear h
    go_enter Try.func26, Try.ntmps26
    go_wp2_with (go_at_call 38; refine (HN.out _ _).mono ?_; rintro e w' ⟨rfl, rfl⟩)
    go_ret
    exact ⟨rfl, rfl⟩
  · have h1 : ¬ x < y := by omega
    rw [if_neg h1, if_pos h]
    go_enter Try.func26, Try.ntmps26
    go_wp2_with (go_at_call 38; refine (HN.out _ _).mono ?_; rintro e w' ⟨rfl, rfl⟩)
    go_ret
    exact ⟨rfl, rfl⟩
/-- of lists of one length -/
def cmpL : List Int → List Int → Int
  | x :: r, y :: s => if cmpN x y = 0 then cmpL r s else cmpN x y
  | _, _ => 0
theorem cmpL_drop (xs ys : List Int) (k : Nat) (hx : k < xs.length) (hy : k < ys.length) : cmpL (xs.drop k) (ys.drop k) = if cmpN xs[k] ys[k] = 0 then cmpL (xs.drop (k + 1)) (ys.drop (k + 1)) else cmpN xs[k] ys[k] := by
  rw [List.drop_eq_getElem_cons hx, List.drop_eq_getElem_cons hy]
  rfl
theorem cmpS_any (A B : Option Addr) (c d : Nat) (xs ys : List Int) (w : World) (hx : Sl w 1 intV A c xs) (hy : Sl w 1 intV B d ys) (hl : ys.length = xs.length) :
    Calls Try.prog 18 #[.slice A xs.length c, .slice B ys.length d] w fun e w' => e = .returned (.int .i64 (cmpL xs ys)) ∧ w = w' := by
  have hlx := hx.len
  have HX := Lib.hid hx
  have HY := Lib.hid hy
  have HL := Lib.hid hl
  rw [hl]
  clear hx hy hl
  obtain ⟨n, hn⟩ : ∃ n, xs.length = n := ⟨_, rfl⟩
  have HN := Lib.hid hn
  rw [hn] at hlx ⊢
  clear hn
  go_enter Try.func18, Try.ntmps18
  go_wp2
  go_loop [11] (fun i => ∃ k : Nat, k ≤ n ∧ i = .int .i64 k ∧ Hid (cmpL xs ys = cmpL (xs.drop k) (ys.drop k))) (fun i => n - (intOf i).toNat)
  case atStart => exact ⟨0, Nat.zero_le _, rfl, rfl⟩
  case round =>
    obtain ⟨k, hk, rfl, HE⟩ := hrel
    by_cases hlt : k < n
    · obtain ⟨g, off, hA, hg, x0⟩ := sl_int HX.out k (by rw [HN.out]; exact hlt)
      obtain ⟨g2, off2, hB, hg2, y0⟩ := sl_int HY.out k (by rw [HL.out, HN.out]; exact hlt)
      have HD := Lib.hid (cmpL_drop xs ys k (by rw [HN.out]; exact hlt) (by rw [HL.out, HN.out]; exact hlt))
      have hkx : k < xs.length := by rw [HN.out]; exact hlt
      have hky : k < ys.length := by rw [HL.out, HN.out]; exact hlt
      generalize xs[k] = x at x0 HD
      generalize ys[k] = y at y0 HD
      clear hkx hky
      subst hA hB
      by_cases hc : cmpN x y = 0
      · have HC := Lib.hid hc
        go_wp2_with (go_at_call 26; refine (cmpI_any x y _).mono ?_; rintro e w' ⟨rfl, rfl⟩; rw [hc])
        go_round
        case rel => exact ⟨k + 1, by omega, by go_num, by rw [HE.out, HD.out, if_pos HC.out]; rfl⟩
        case measure => simp [intOf]; omega
      · have HC := Lib.hid hc
        have hb : (cmpN x y == 0) = false := by simpa using hc
        obtain ⟨z, hz⟩ : ∃ z, cmpN x y = z := ⟨_, rfl⟩
        have HZ := Lib.hid hz
        rw [hz] at hb
        clear hc hz
        go_wp2_with (go_at_call 26; refine (cmpI_any x y _).mono ?_; rintro e w' ⟨rfl, rfl⟩; rw [HZ.out])
        go_ret
        exact ⟨by rw [HE.out, HD.out, if_neg HC.out, HZ.out]; rfl, rfl⟩
    · have : n = k := by omega
      subst this
      go_wp2
      go_ret
      exact ⟨by rw [HE.out, List.drop_of_length_le (by rw [HN.out]; exact Nat.le_refl _)]; rfl, rfl⟩
set_option maxRecDepth 100000 in
set_option maxHeartbeats 1000000 in
theorem cloneI_any (A : Option Addr) (c : Nat) (xs : List Int) (w : World) (h : Sl w 1 intV A c xs) (hl : xs.length ≤ 1000000000) :
    Calls Try.prog 21 #[.slice A xs.length c] w fun e w' => ∃ A' c', e = .returned (.slice A' xs.length c') ∧ Own w' w.heap.size 3 1 intV (.slice A' xs.length c') xs ∧ Keep w w' := by
  have hn := fun W : World => Lib.run_eql_slice_nil W 22 3 A xs.length c 0 0 Try.underlying22
  cases A with
  | none =>
    have hx : xs = [] := by
      rcases xs with _ | ⟨y, r⟩
      · rfl
      · obtain ⟨_, _, hA, _⟩ := h.at_ 0 (by simp)
        cases hA
    subst hx
    simp only [List.length_nil, Option.isNone_none] at hn ⊢
    go_enter Try.func21, Try.ntmps21
    go_wp2
    go_ret
    exact ⟨none, 0, rfl, Own.nil_ _ _ _ _ _, Keep.refl _⟩
  | some ad =>
    have H := Lib.hid h; clear h
    go_enter Try.func21, Try.ntmps21
    go_wp2_with (at_builtin; refine Zone.hold ?_)
    refine Zone.unhold ?_
    have HO1 : Own (w.alloc (.cells #[] 3)) w.heap.size 3 1 intV (.slice (some ⟨w.heap.size, 0, none⟩) 0 0) ([] : List Int) := World.ownsRow_made w #[] 0 (Nat.le_refl _) (by unfold maxLen; omega) rfl
    refine wpList_app elt_i int_len int_one rfl (.tmp 5) (.tmp 6) rfl (ys := xs) HO1 rfl rfl (H.out.keep (by repeat (first | exact Keep.refl _ | apply Keep.alloc | apply Keep.gro | apply Keep.drew | apply Keep.drewN))) (by simp; omega) (by simp) ?_
    intro v1 w1 hown1 hg1 _
    have ⟨a1, a2, a3⟩ := HO1.after (w := w) hg1 (by repeat (first | exact Keep.refl _ | apply Keep.alloc | apply Keep.gro | apply Keep.drew | apply Keep.drewN)) (Nat.le_refl _)
    clear hn a2 a3
    go_wp2
    go_ret
    simp only [List.nil_append] at hown1
    obtain ⟨A', c', hv⟩ : ∃ A c, v1 = .slice A xs.length c := by
      rcases hown1.2 with ⟨rfl, h0⟩ | ⟨g, cap, cur, rfl, _⟩
      · exact ⟨none, 0, by rw [h0]⟩
      · exact ⟨_, _, rfl⟩
    exact ⟨A', c', by rw [← hv]; rfl, by rw [← hv]; exact hown1, a1⟩
set_option maxRecDepth 100000 in
set_option maxHeartbeats 1000000 in
theorem clone64_any (A : Option Addr) (c : Nat) (xs : List Int) (w : World) (h : Sl w 1 intV A c xs) (hl : xs.length ≤ 1000000000) :
    Calls Try.prog 23 #[.slice A xs.length c] w fun e w' => ∃ A' c', e = .returned (.slice A' xs.length c') ∧ Own w' w.heap.size 2 1 intV (.slice A' xs.length c') xs ∧ Keep w w' := by
  have hn := fun W : World => Lib.run_eql_slice_nil W 23 2 A xs.length c 0 0 Try.underlying23
  cases A with
  | none =>
    have hx : xs = [] := by
      rcases xs with _ | ⟨y, r⟩
      · rfl
      · obtain ⟨_, _, hA, _⟩ := h.at_ 0 (by simp)
        cases hA
    subst hx
    simp only [List.length_nil, Option.isNone_none] at hn ⊢
    go_enter Try.func23, Try.ntmps23
    go_wp2
    go_ret
    exact ⟨none, 0, rfl, Own.nil_ _ _ _ _ _, Keep.refl _⟩
  | some ad =>
    have H := Lib.hid h; clear h
    go_enter Try.func23, Try.ntmps23
    go_wp2_with (at_builtin; refine Zone.hold ?_)
    refine Zone.unhold ?_
    have HO1 : Own (w.alloc (.cells #[] 2)) w.heap.size 2 1 intV (.slice (some ⟨w.heap.size, 0, none⟩) 0 0) ([] : List Int) := World.ownsRow_made w #[] 0 (Nat.le_refl _) (by unfold maxLen; omega) rfl
    refine wpList_app elt_i64 int_len int_one rfl (.tmp 5) (.tmp 6) rfl (ys := xs) HO1 rfl rfl (H.out.keep (by repeat (first | exact Keep.refl _ | apply Keep.alloc | apply Keep.gro | apply Keep.drew | apply Keep.drewN))) (by simp; omega) (by simp) ?_
    intro v1 w1 hown1 hg1 _
    have ⟨a1, a2, a3⟩ := HO1.after (w := w) hg1 (by repeat (first | exact Keep.refl _ | apply Keep.alloc | apply Keep.gro | apply Keep.drew | apply Keep.drewN)) (Nat.le_refl _)
    clear hn a2 a3
    go_wp2
    go_ret
    simp only [List.nil_append] at hown1
    obtain ⟨A', c', hv⟩ : ∃ A c, v1 = .slice A xs.length c := by
      rcases hown1.2 with ⟨rfl, h0⟩ | ⟨g, cap, cur, rfl, _⟩
      · exact ⟨none, 0, by rw [h0]⟩
      · exact ⟨_, _, rfl⟩
    exact ⟨A', c', by rw [← hv]; rfl, by rw [← hv]; exact hown1, a1⟩
end Go.Proofs.Ytpefhleglhbfaaa
