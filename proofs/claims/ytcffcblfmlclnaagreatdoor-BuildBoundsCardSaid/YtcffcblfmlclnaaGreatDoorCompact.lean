
/- Contracts of slices.Clone, slices.Compact at values. -/
import Derived.WalkKit
import Derived.Lib.Hide
import Derived.WalkSpells
import Derived.WalkLawsBesides
import Derived.BigQuiet
import Derived.Shelf.Abstract
import Derived.Lib.SliceRun
import Derived.Test.YtcffcblfmlclnaaGreatDoorSorted
namespace Go.Proofs.YtcffcblfmlclnaaGreatDoor
open Go.RowKit Go.Zone Go.Shelf
attribute [local go_sem] Zone.zone Zone.stepZ Zone.fill Zone.lookFs Zone.goes Zone.goesUpon Zone.dropFs Zone.cell_gro Zone.frozen_gro Zone.size_gro Zone.lt_add Zone.drew_gro Zone.tape_gro Zone.keep_refl
attribute [local go_sem high] run_eq_val run_ne_val run_eqG_val
theorem own_form {α : Type} {w : World} {base k : Nat} {e : TypeId} {enc : α → List Value} {v : Value} {xs : List α} (h : Own w base e k enc v xs) : ∃ A c, v = .slice A xs.length c := by
  rcases h.2 with ⟨rfl, h0⟩ | ⟨g, cap, cur, rfl, _⟩
  · exact ⟨none, 0, by rw [h0]⟩
  · exact ⟨_, _, rfl⟩
set_option maxRecDepth 100000 in
set_option maxHeartbeats 1000000 in
theorem clone_any (A : Option Addr) (c : Nat) (xs : List Val) (w : World) (h : Sl w 3 Val.cells A c xs) (hl : xs.length ≤ 1000000000) :
    Calls Tryz.prog 83 #[.slice A xs.length c] w fun e w' => ∃ A' c', e = .returned (.slice A' xs.length c') ∧ Own w' w.heap.size 76 3 Val.cells (.slice A' xs.length c') xs ∧ Keep w w' := by
  have hn := fun W : World => Lib.run_eql_slice_nil W 73 76 A xs.length c 0 0 Tryz.underlying73
  cases A with
  | none =>
    have hx : xs = [] := by
      rcases xs with _ | ⟨y, r⟩
      · rfl
      · obtain ⟨_, _, hA, _⟩ := h.at_ 0 (by simp)
        cases hA
    subst hx
    simp only [List.length_nil, Option.isNone_none] at hn ⊢
    go_enter Tryz.func83, Tryz.ntmps83
    go_wp2
    go_ret
    exact ⟨none, 0, rfl, Own.nil_ _ _ _ _ _, Keep.refl _⟩
  | some ad =>
    have H := Lib.hid h; clear h
    go_enter Tryz.func83, Tryz.ntmps83
    go_wp2_with (at_builtin; refine Zone.hold ?_)
    refine Zone.unhold ?_
    have HO1 : Own (w.alloc (.cells #[] 76)) w.heap.size 76 3 Val.cells (.slice (some ⟨w.heap.size, 0, none⟩) 0 0) ([] : List Val) := World.ownsRow_made w #[] 0 (Nat.le_refl _) (by unfold maxLen; omega) rfl
    refine wpList_app elt_val val_len val_one rfl (.tmp 5) (.tmp 6) rfl (ys := xs) HO1 rfl rfl (H.out.keep (by repeat (first | exact Keep.refl _ | apply Keep.alloc | apply Keep.gro | apply Keep.drew | apply Keep.drewN))) (by simp; omega) (by simp) ?_
    intro v1 w1 hown1 hg1 _
    have ⟨a1, a2, a3⟩ := HO1.after (w := w) hg1 (by repeat (first | exact Keep.refl _ | apply Keep.alloc | apply Keep.gro | apply Keep.drew | apply Keep.drewN)) (Nat.le_refl _)
    clear hn a2 a3
    go_wp2
    go_ret
    simp only [List.nil_append] at hown1
    obtain ⟨A', c', hv⟩ := own_form hown1
    exact ⟨A', c', by rw [← hv]; rfl, by rw [← hv]; exact hown1, a1⟩

def ddTo (xs : List Val) : Nat → List Val
  | 0 => []
  | m + 1 => if m = 0 ∨ eqV (xs.getD m default) (xs.getD (m - 1) default) = false then ddTo xs m ++ [xs.getD m default] else ddTo xs m
theorem ddTo_len (xs : List Val) : ∀ m, (ddTo xs m).length ≤ m
  | 0 => Nat.le_refl _
  | m + 1 => by
    have := ddTo_len xs m
    unfold ddTo
    split <;> simp <;> omega
theorem ddTo_all (xs : List Val) : ∀ m, m ≤ xs.length → (∀ j, 0 < j → j < m → eqV (xs.getD j default) (xs.getD (j - 1) default) = false) → ddTo xs m = xs.take m
  | 0, _, _ => by simp [ddTo]
  | m + 1, hm, h => by
    have ih := ddTo_all xs m (by omega) fun j h0 hj => h j h0 (by omega)
    have hc : m = 0 ∨ eqV (xs.getD m default) (xs.getD (m - 1) default) = false := by
      rcases Nat.eq_zero_or_pos m with h0 | h0
      · exact .inl h0
      · exact .inr (h m h0 (by omega))
    rw [ddTo, if_pos hc, ih, List.take_succ_eq_append_getElem (by omega)]
    simp [show m < xs.length by omega]
def compactV (xs : List Val) : List Val := ddTo xs xs.length

theorem flatMap_set : ∀ (L : List Val) (k : Nat) (y : Val), k < L.length → (L.set k y).flatMap Val.cells = (((L.flatMap Val.cells).set (k * 3) (.int .u8 y.k)).set (k * 3 + 1) (.int .i64 y.n)).set (k * 3 + 2) (.string y.s)
  | [], k, _, h => by simp at h
  | x :: r, 0, y, _ => by simp [Val.cells]
  | x :: r, k + 1, y, h => by
    have ih := flatMap_set r k y (by simpa using h)
    simp only [List.set_cons_succ, List.flatMap_cons, ih]
    rw [show (k + 1) * 3 = k * 3 + 3 by omega]
    simp [Val.cells, Nat.add_right_comm _ 3]
theorem own_set {w : World} {base g c k : Nat} {L : List Val} (h : Own w base 76 3 Val.cells (.slice (some ⟨g, 0, none⟩) L.length c) L) (hk : k < L.length) (y : Val) :
    Own (((w.setCell ⟨g, k * 3, none⟩ (.int .u8 y.k)).setCell ⟨g, k * 3 + 1, none⟩ (.int .i64 y.n)).setCell ⟨g, k * 3 + 2, none⟩ (.string y.s)) base 76 3 Val.cells (.slice (some ⟨g, 0, none⟩) L.length c) (L.set k y) ∧
    w.grownBy (((w.setCell ⟨g, k * 3, none⟩ (.int .u8 y.k)).setCell ⟨g, k * 3 + 1, none⟩ (.int .i64 y.n)).setCell ⟨g, k * 3 + 2, none⟩ (.string y.s)) (some g) := by
  rcases h.2 with ⟨h0, _⟩ | ⟨g', cap, cur, hv, hb, hg, hn, hm, hs, ht⟩
  · cases h0
  · injection hv with hA _ hc
    injection hA with hA
    injection hA with hA
    subst hA; subst hc
    rw [setCell_eq_setRow w g (k * 3) cur _ (0, 0) _ hg, setCell_eq_setRow _ g (k * 3 + 1) _ _ (0, 0) _ (setRow_heap w g cur _ _ _ hg), setRow_setRow, setCell_eq_setRow _ g (k * 3 + 2) _ _ (0, 0) _ (setRow_heap w g cur _ _ _ hg), setRow_setRow]
    refine ⟨⟨by rw [flat_len val_len], .inr ⟨g, c, _, by simp, hb, setRow_heap w g cur _ _ _ hg, by simpa using hn, hm, by simpa using hs, ?_⟩⟩, rfl, rfl, rfl, by simp, fun j _ hj => setRow_other w g j _ (fun e => hj (by rw [e]))⟩
    rw [flatMap_set L k y hk, ← ht]
    simp [List.take_set]
theorem own_frozen {w : World} {base g c n : Nat} {L : List Val} (h : Own w base 76 3 Val.cells (.slice (some ⟨g, 0, none⟩) n c) L) : ∀ i, w.frozen? ⟨g, i, none⟩ = false := by
  rcases h.2 with ⟨h0, _⟩ | ⟨g', cap, cur, hv, hb, hg, hn, hm, hs, ht⟩
  · cases h0
  · injection hv with hA _ hc
    injection hA with hA
    injection hA with hA
    subst hA
    intro i
    simp [World.frozen?, hg]

theorem wrap_pred {k : Nat} (h0 : 0 < k) (h : k ≤ 1000000000000) : IntKind.i64.wrap ((k : Int) - 1) = ((k - 1 : Nat) : Int) := by rw [IntWalk.i64_in _ ⟨by omega, by omega⟩]; omega
theorem zeroV (w : World) : (zeroValue 76).run Tryz.prog w = .ok (.agg #[.int .u8 0, .int .i64 0, .string ByteArray.empty]) w := by kernel_rfl
theorem take_set_succ {α : Type} : ∀ (L : List α) (q : Nat) (y : α), q < L.length → (L.set q y).take (q + 1) = L.take q ++ [y]
  | [], q, _, h => by simp at h
  | x :: r, 0, y, _ => by simp
  | x :: r, q + 1, y, h => by
    have := take_set_succ r q y (by simpa using h)
    simp only [List.set_cons_succ, List.take_succ_cons, List.cons_append, this]
theorem grownBy_trans {a b c : World} {g : Nat} (h : a.grownBy b (some g)) (k : b.grownBy c (some g)) : a.grownBy c (some g) :=
  ⟨k.os.trans h.os, k.tape.trans h.tape, k.output.trans h.output, Nat.le_trans h.size k.size, fun i hi hn => (k.block i (Nat.lt_of_lt_of_le hi h.size) hn).trans (h.block i hi hn)⟩
theorem grownBy_keep {a b : World} {g : Nat} (k : Keep a b) : a.grownBy b (some g) := ⟨k.os, k.tape, k.output, k.size, fun i hi _ => k.block i hi⟩
theorem own_clear {w : World} {base g c n q : Nat} {L : List Val} (hn : n = L.length) (h : Own w base 76 3 Val.cells (.slice (some ⟨g, 0, none⟩) n c) L) (hq : q < n) :
    ∃ w', (∀ ty, (Builtin.clear_ #[73] ty #[.slice (some ⟨g, q * 3, none⟩) (n - q) (c - q)]).run Tryz.prog w = .ok (.tuple #[]) w') ∧ Own w' base 76 3 Val.cells (.slice (some ⟨g, 0, none⟩) q c) (L.take q) ∧ w.grownBy w' (some g) := by
  subst hn
  rcases h.2 with ⟨h0, _⟩ | ⟨g', cap, cur, hv, hb, hg, hn, hm, hs, ht⟩
  · cases h0
  · injection hv with hA _ hc
    injection hA with hA
    injection hA with hA
    subst hA; subst hc
    have hzl : (Builtin.zeroCells #[.int .u8 0, .int .i64 0, .string ⟨#[]⟩] (L.length - q)).toList.length = (L.length - q) * 3 := by simp [Builtin.zeroCells]
    have hzo : ∀ v ∈ (Builtin.zeroCells #[.int .u8 0, .int .i64 0, .string ⟨#[]⟩] (L.length - q)).toList, v.oneCell' = true := by
      intro v hv
      simp only [Builtin.zeroCells, Array.toList_map, List.mem_map] at hv
      obtain ⟨i, _, rfl⟩ := hv
      have : i % 3 < 3 := Nat.mod_lt _ (by decide)
      show (#[Value.int .u8 0, .int .i64 0, .string ⟨#[]⟩][i % 3]!).oneCell' = true
      generalize i % 3 = m at this
      match m, this with
      | 0, _ => rfl
      | 1, _ => rfl
      | 2, _ => rfl
    have hst := run_storeCells_at (P := Tryz.prog) g (q * 3) 76 _ 0 cur w hg (by rw [hzl, hs]; omega) hzo
    simp only [Nat.add_zero] at hst
    generalize hX : (List.take (q * 3) cur.toList ++ (Builtin.zeroCells #[.int .u8 0, .int .i64 0, .string ⟨#[]⟩] (L.length - q)).toList ++ List.drop (q * 3 + (Builtin.zeroCells #[.int .u8 0, .int .i64 0, .string ⟨#[]⟩] (L.length - q)).toList.length) cur.toList).toArray = X at hst
    refine ⟨w.setRow g X, fun ty => ?_, ⟨?_, .inr ⟨g, c, X, ?_, hb, setRow_heap w g cur _ _ _ hg, ?_, hm, ?_, ?_⟩⟩, rfl, rfl, rfl, by simp, fun j _ hj => setRow_other w g j _ (fun e => hj (by rw [e]))⟩
    · obtain ⟨m, hm'⟩ : ∃ m, L.length - q = m + 1 := ⟨L.length - q - 1, by omega⟩
      rw [hm'] at hst ⊢
      simp only [Builtin.clear_]
      simp [run_underlying Tryz.underlying73, zeroV, Value.cells, hst]
    · rw [flat_len val_len]
    · simp [Nat.le_of_lt hq]
    · simp; omega
    · rw [← hX]; simp [hzl, hs]; omega
    · rw [← hX]; simp only [List.length_take, Nat.min_eq_left (Nat.le_of_lt hq)]
      have e1 : (L.take q).flatMap Val.cells = (L.flatMap Val.cells).take (q * 3) := by
        have := flat_len val_len (L.take q)
        conv => rhs; rw [← List.take_append_drop q L, List.flatMap_append]
        rw [List.take_left']
        rw [this]
        simp [Nat.min_eq_left (Nat.le_of_lt hq)]
      rw [e1, ← ht, List.take_take, Nat.min_eq_left (by omega)]
      simp only [List.append_assoc]
      rw [List.take_left']
      simp; omega

set_option maxRecDepth 100000 in
set_option maxHeartbeats 1000000 in
theorem compact_any (A : Option Addr) (c : Nat) (xs : List Val) (base : Nat) (w : World) (h : Own w base 76 3 Val.cells (.slice A xs.length c) xs) (hl : xs.length ≤ 1000000000) :
    Calls Tryz.prog 85 #[.slice A xs.length c] w fun e w' => ∃ A' c', e = .returned (.slice A' (compactV xs).length c') ∧ Own w' base 76 3 Val.cells (.slice A' (compactV xs).length c') (compactV xs) ∧ w.grownBy w' (Value.slice A xs.length c).ownBlock := by
  by_cases h2 : xs.length < 2
  · have hd : Hid (compactV xs = xs) := by
      show _ = _
      unfold compactV
      rw [ddTo_all xs xs.length (Nat.le_refl _) (fun j h0 hj => by omega), List.take_length]
    go_enter Tryz.func85, Tryz.ntmps85
    go_wp2
    go_ret
    exact ⟨A, c, by rw [hd.out]; rfl, by rw [hd.out]; exact h, rfl, rfl, rfl, Nat.le_refl _, fun _ _ _ => rfl⟩
  · rcases h.2 with ⟨_, h0⟩ | ⟨g, cap, cur, hv, hb, hg, hn, hm, hs, ht⟩
    · omega
    · injection hv with hA _ hc
      subst hA; subst hc
      clear hb hg hs ht cur
      unfold maxLen at hm
      have HO := Lib.hid h; clear h
      go_enter Tryz.func85, Tryz.ntmps85
      go_wp2
      go_loopw [3] (fun vk wr => ∃ (k : Nat), 0 < k ∧ k ≤ xs.length ∧ vk = .int .i64 k ∧ Hid (Keep w wr) ∧ Hid (∀ j, 0 < j → j < k → eqV (xs.getD j default) (xs.getD (j - 1) default) = false)) (fun vk _ => xs.length - (intOf vk).toNat)
      case atStart => exact ⟨1, by omega, by omega, rfl, Keep.refl _, fun j h0 hj => by omega⟩
      case round =>
        obtain ⟨k, hk0, hk, rfl, HK, HD⟩ := hrel
        have HO1 := Lib.hid (HO.out.keep HK.out)
        by_cases hlt : k < xs.length
        · obtain ⟨A1, c1, hv1, hsl⟩ := HO1.out.sl val_len (by omega)
          injection hv1 with hv1 _ hv2
          subst hv1; subst hv2
          obtain ⟨b, off, hA, hbx, c0, c1, c2⟩ := sl_val hsl k hlt
          obtain ⟨b', off', hA', hbx', d0, d1, d2⟩ := sl_val hsl (k - 1) (by omega)
          cases hA; cases hA'
          clear hsl
          simp only [Nat.zero_add] at c0 c1 c2 d0 d1 d2
          cases he : eqV xs[k] xs[k - 1]
          · unfold eqV at he
            have hw := wrap_pred hk0 (by omega)
            have hk1 : k - 1 < xs.length := by omega
            go_wp2
            first | refine Zone.wp_region_all_gro (by kernel_rfl) (by kernel_rfl) ?_ | refine Zone.wp_region_all (by kernel_rfl) (by kernel_rfl) ?_
            repeat
              refine Zone.wpZ_step (fun K hK => ?_)
              go_simp
              first
              | (refine hK _ _ ?_; clear hK K)
              | (apply Exists.intro
                 refine ⟨fun p => ?_, hK _ _ ?_⟩
                 (fail)
                 clear hK K)
            refine Zone.wpZ_nil ?_
            intro p
            simp only [Zone.fill]
            have HE := Lib.hid he
            clear hw he
            go_wp2
            go_roundw
            case rel => exact ⟨k + 1, by omega, by omega, by go_num, HK.out.gro _, fun j h0 hj => by
              by_cases e : j = k
              · subst e
                have := HE.out
                simpa [eqV, hlt, hk1] using this
              · exact HD.out j h0 (by omega)⟩
            case measure => simp [intOf]; omega
          · unfold eqV at he
            have hw := wrap_pred hk0 (by omega)
            have hk1 : k - 1 < xs.length := by omega
            have hkc : k < c := by omega
            go_wp2
            first | refine Zone.wp_region_all_gro (by kernel_rfl) (by kernel_rfl) ?_ | refine Zone.wp_region_all (by kernel_rfl) (by kernel_rfl) ?_
            repeat
              refine Zone.wpZ_step (fun K hK => ?_)
              go_simp
              first
              | (refine hK _ _ ?_; clear hK K)
              | (apply Exists.intro
                 refine ⟨fun p => ?_, hK _ _ ?_⟩
                 (fail)
                 clear hK K)
            refine Zone.wpZ_nil ?_
            intro p
            simp only [Zone.fill]
            have HE := Lib.hid he
            clear hw he
            have hdd : Hid (xs.take k = ddTo xs (k + 1)) := by
              show _ = _
              have h0 := ddTo_all xs k (by omega) HD.out
              rw [ddTo, if_neg, h0]
              intro h1
              rcases h1 with h1 | h1
              · omega
              · have h3 := HE.out
                simp only [eqV, List.getD_eq_getElem?_getD, List.getElem?_eq_getElem hlt, List.getElem?_eq_getElem hk1, Option.getD_some] at h1
                rw [h1] at h3
                cases h3
            clear HE HD c0 c1 c2 d0 d1 d2
            go_wp2
            go_loopw [3, 5] (fun vk vi wq => ∃ (q i : Nat) (L : List Val), 0 < i ∧ i ≤ xs.length - k ∧ q < k + i ∧ vk = .int .i64 q ∧ vi = .int .i64 i ∧ Hid (L.length = xs.length) ∧ Hid (Own wq base 76 3 Val.cells (.slice (some ⟨g, 0, none⟩) xs.length c) L) ∧ Hid (w.grownBy wq (some g)) ∧
              Hid (L.take q = ddTo xs (k + i)) ∧ Hid (∀ j, k + i - 1 ≤ j → L.getD j default = xs.getD j default)) (fun _ vi _ => xs.length - (intOf vi).toNat)
            case atStart => exact ⟨k, 1, xs, by omega, by omega, by omega, rfl, rfl, rfl, HO1.out.keep (below_gro _ _), ⟨HK.out.os, HK.out.tape, HK.out.output, by simp [size_gro]; have := HK.out.size; omega, fun j hj _ => (below_gro wr p).block j (Nat.lt_of_lt_of_le hj HK.out.size) |>.trans (HK.out.block j hj)⟩, hdd.out, fun j _ => rfl⟩
            case round =>
              obtain ⟨q, i, L, hi0, hi, hq, rfl, rfl, HL, HO2, HG, HT, HR⟩ := hrel
              by_cases hlt2 : i < xs.length - k
              · have hkL : k + i < L.length := by have := HL.out; omega
                have hkL1 : k + i - 1 < L.length := by omega
                have hqL : q < L.length := by omega
                have HO2' := HO2.out
                rw [← HL.out] at HO2'
                obtain ⟨A1, c1, hv1, hsl⟩ := HO2'.sl val_len (by have := HL.out; omega)
                injection hv1 with hv1 _ hv2
                subst hv1; subst hv2
                obtain ⟨b, off, hA, hbx1, c0, c1, c2⟩ := sl_val hsl (k + i) hkL
                obtain ⟨b', off', hA', _, d0, d1, d2⟩ := sl_val hsl (k + i - 1) hkL1
                obtain ⟨b'', off'', hA'', _, e0, e1, e2⟩ := sl_val hsl q hqL
                cases hA; cases hA'; cases hA''
                have hfz := own_frozen HO2'
                have g0 : L[k + i] = xs[k + i]'(by omega) := by
                  have := HR.out (k + i) (by omega)
                  simpa [hkL, show k + i < xs.length by omega] using this
                have g1 : L[k + i - 1] = xs[k + i - 1]'(by omega) := by
                  have := HR.out (k + i - 1) (by omega)
                  simpa [hkL1, show k + i - 1 < xs.length by omega] using this
                rw [g0] at c0 c1 c2
                rw [g1] at d0 d1 d2
                have f0 := hfz (q * 3)
                have f1 := hfz (q * 3 + 1)
                have f2 := hfz (q * 3 + 2)
                have hsd : ddTo xs (k + i + 1) = if k + i = 0 ∨ eqV (xs[k + i]'(by omega)) (xs[k + i - 1]'(by omega)) = false then ddTo xs (k + i) ++ [xs[k + i]'(by omega)] else ddTo xs (k + i) := by
                  rw [ddTo]
                  simp [show k + i < xs.length by omega, show k + i - 1 < xs.length by omega]
                clear hsl hfz g0 g1 HO2'
                rw [show 0 + (k + i) * 3 = k * 3 + i * 3 by omega] at c0 c1 c2
                rw [show 0 + (k + i - 1) * 3 = k * 3 + (i - 1) * 3 by omega] at d0 d1 d2
                simp only [Nat.zero_add] at e0 e1 e2
                have hw := wrap_pred hi0 (by omega)
                have hi1 : i - 1 < xs.length - k := by omega
                have hqn : q < xs.length := by omega
                cases he : eqV (xs[k + i]'(by omega)) (xs[k + i - 1]'(by omega))
                · have hs2 := hsd
                  rw [if_pos (.inr he)] at hs2
                  have HSD := Lib.hid hs2
                  clear hsd hs2
                  unfold eqV at he
                  generalize xs[k + i]'(by omega) = y at c0 c1 c2 he HSD
                  go_wp2
                  first | refine Zone.wp_region_all_gro (by kernel_rfl) (by kernel_rfl) ?_ | refine Zone.wp_region_all (by kernel_rfl) (by kernel_rfl) ?_
                  repeat
                    refine Zone.wpZ_step (fun K hK => ?_)
                    go_simp
                    first
                    | (refine hK _ _ ?_; clear hK K)
                    | (apply Exists.intro
                       refine ⟨fun p => ?_, hK _ _ ?_⟩
                       (fail)
                       clear hK K)
                  refine Zone.wpZ_nil ?_
                  intro p2
                  simp only [Zone.fill]
                  clear hw he
                  have HO3 := HO2.out.keep (below_gro wr p2)
                  rw [← HL.out] at HO3
                  obtain ⟨HO4, HG4⟩ := own_set HO3 hqL y
                  rw [HL.out] at HO4
                  have HO5 := Lib.hid HO4
                  have HG5 := Lib.hid HG4
                  clear HO3 HO4 HG4
                  go_wp2
                  go_roundw
                  case rel => exact ⟨q + 1, i + 1, L.set q y, by omega, by omega, by omega, by go_num, by go_num, (by show _ = _; simp [HL.out]), HO5.out, grownBy_trans (grownBy_trans HG.out (grownBy_keep (below_gro wr p2))) HG5.out,
                    (by show _ = _; rw [take_set_succ _ _ _ hqL, HT.out, ← Nat.add_assoc, HSD.out]), fun j hj => by
                      have := HR.out j (by omega)
                      rw [← this]
                      simp only [List.getD_eq_getElem?_getD]
                      rw [List.getElem?_set_ne (by omega)]⟩
                  case measure => simp [intOf]; omega
                · have hs2 := hsd
                  rw [if_neg (by simp [he]; omega)] at hs2
                  have HSD := Lib.hid hs2
                  clear hsd hs2
                  unfold eqV at he
                  go_wp2
                  first | refine Zone.wp_region_all_gro (by kernel_rfl) (by kernel_rfl) ?_ | refine Zone.wp_region_all (by kernel_rfl) (by kernel_rfl) ?_
                  repeat
                    refine Zone.wpZ_step (fun K hK => ?_)
                    go_simp
                    first
                    | (refine hK _ _ ?_; clear hK K)
                    | (apply Exists.intro
                       refine ⟨fun p => ?_, hK _ _ ?_⟩
                       (fail)
                       clear hK K)
                  refine Zone.wpZ_nil ?_
                  intro p2
                  simp only [Zone.fill]
                  clear hw he
                  go_wp2
                  go_roundw
                  case rel => exact ⟨q, i + 1, L, by omega, by omega, by omega, rfl, by go_num, HL.out, HO2.out.keep (below_gro wr p2), grownBy_trans HG.out (grownBy_keep (below_gro wr p2)),
                    (by show _ = _; rw [HT.out, ← Nat.add_assoc, HSD.out]), fun j hj => HR.out j (by omega)⟩
                  case measure => simp [intOf]; omega
              · have hil : k + i = xs.length := by omega
                have hqn : q < xs.length := by omega
                have hqc : q < c := by omega
                have hcv : Hid (L.take q = compactV xs) := by
                  show _ = _
                  rw [HT.out, hil]
                  rfl
                obtain ⟨w9, hrun, HO9, HG9⟩ := own_clear HL.out.symm HO2.out hqn
                have HO8 := Lib.hid HO9
                have HG8 := Lib.hid HG9
                have hql : Hid (q = (compactV xs).length) := by
                  show _ = _
                  rw [← hcv.out, List.length_take, HL.out]
                  omega
                clear hil HO9 HG9
                go_wp2
                go_ret
                refine ⟨some ⟨g, 0, none⟩, c, by rw [← hql.out]; rfl, ?_, grownBy_trans HG.out HG8.out⟩
                rw [← hql.out, ← hcv.out]
                exact HO8.out
        · go_wp2
          go_ret
          have hd : compactV xs = xs := by
            unfold compactV
            rw [ddTo_all xs xs.length (Nat.le_refl _) (fun j h0 hj => HD.out j h0 (by omega)), List.take_length]
          exact ⟨some ⟨g, 0, none⟩, c, by rw [hd]; rfl, by rw [hd]; exact HO1.out, HK.out.os, HK.out.tape, HK.out.output, HK.out.size, fun j hj _ => HK.out.block j hj⟩
end Go.Proofs.YtcffcblfmlclnaaGreatDoor
