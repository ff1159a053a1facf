
/- Contracts of the document's Of, Interval. -/
import Derived.WalkKit
import Derived.Lib.Hide
import Derived.WalkSpells
import Derived.WalkLawsBesides
import Derived.BigQuiet
import Derived.Shelf.Abstract
import Derived.Test.YthigflnfccajoaaGreatPut
namespace Go.Proofs.YthigflnfccajoaaGreat
open Go.RowKit Go.Zone Go.Shelf
attribute [local go_sem] Zone.zone Zone.stepZ Zone.fill Zone.lookFs Zone.goes Zone.goesUpon Zone.dropFs Zone.cell_gro Zone.frozen_gro Zone.size_gro Zone.lt_add Zone.drew_gro Zone.tape_gro Zone.keep_refl
attribute [local go_sem high] run_eq_val run_ne_val run_eqG_val

def pl (a : List Val × Bool) : Nat := if a.2 then a.1.length else a.1.length + 1
theorem stepPut_len (v : Val) (a : List Val × Bool) (x : Val) : pl (stepPut v a x) = pl a + 1 := by
  obtain ⟨l, b⟩ := a
  unfold stepPut pl
  cases b <;> cases lessV v x <;> simp
theorem putS_len (v : Val) (xs : List Val) : pl (putS v xs) = xs.length + 1 := by
  unfold putS
  suffices h : ∀ (xs : List Val) (a : List Val × Bool), pl (xs.foldl (stepPut v) a) = pl a + xs.length by
    have := h xs ([], false)
    rw [this]
    simp [pl]; omega
  intro xs
  induction xs with
  | nil => intro a; rfl
  | cons x r ih =>
    intro a
    rw [List.foldl_cons, ih, stepPut_len, List.length_cons]
    omega
theorem putV_len (xs : List Val) (v : Val) : (putV xs v).length ≤ xs.length + 1 := by
  have h := putS_len v xs
  unfold putV
  split
  · omega
  · split
    · rename_i hb; simp [pl, hb] at h; omega
    · rename_i hb; simp [pl, hb] at h; simp; omega
theorem putV_mem (xs : List Val) (v : Val) : ∀ x ∈ putV xs v, x ∈ xs ∨ x = v := by
  have hs : ∀ (ys : List Val) (a : List Val × Bool), ∀ x ∈ (ys.foldl (stepPut v) a).1, x ∈ ys ∨ x = v ∨ x ∈ a.1 := by
    intro ys
    induction ys with
    | nil => intro a x hx; exact .inr (.inr hx)
    | cons y r ih =>
      intro a x hx
      rcases ih _ x hx with h | h | h
      · exact .inl (List.mem_cons_of_mem _ h)
      · exact .inr (.inl h)
      · unfold stepPut at h
        split at h <;> simp at h
        · rcases h with h | h | h
          · exact .inr (.inr h)
          · exact .inr (.inl h)
          · exact .inl (by rw [h]; exact List.mem_cons_self)
        · rcases h with h | h
          · exact .inr (.inr h)
          · exact .inl (by rw [h]; exact List.mem_cons_self)
  intro x hx
  unfold putV at hx
  have h1 := hs xs ([], false)
  split at hx
  · exact .inl hx
  · split at hx
    · rcases h1 x hx with h | h | h
      · exact .inl h
      · exact .inr h
      · cases h
    · rcases List.mem_append.1 hx with hx | hx
      · rcases h1 x hx with h | h | h
        · exact .inl h
        · exact .inr h
        · cases h
      · exact .inr (by simpa using hx)

def putAll (xs : List Val) : List Val := xs.foldl putV []
theorem putAll_succ (xs : List Val) (k : Nat) (h : k < xs.length) : putAll (xs.take (k + 1)) = putV (putAll (xs.take k)) xs[k] := by
  unfold putAll
  rw [List.take_succ_eq_append_getElem h, List.foldl_append]
  rfl
theorem putAll_len : ∀ (xs : List Val), (putAll xs).length ≤ xs.length := by
  suffices h : ∀ (xs a : List Val), (xs.foldl putV a).length ≤ a.length + xs.length by
    intro xs; have := h xs []; simpa [putAll] using this
  intro xs
  induction xs with
  | nil => intro a; simp
  | cons x r ih => intro a; have := ih (putV a x); have := putV_len a x; simp only [List.foldl_cons, List.length_cons]; omega
theorem putAll_mem : ∀ (xs : List Val), ∀ x ∈ putAll xs, x ∈ xs := by
  suffices h : ∀ (xs a : List Val), ∀ x ∈ xs.foldl putV a, x ∈ xs ∨ x ∈ a by
    intro xs x hx; rcases h xs [] x hx with h | h
    · exact h
    · cases h
  intro xs
  induction xs with
  | nil => intro a x hx; exact .inr hx
  | cons y r ih =>
    intro a x hx
    rcases ih (putV a y) x hx with h | h
    · exact .inl (List.mem_cons_of_mem _ h)
    · rcases putV_mem a y x h with h | h
      · exact .inr h
      · exact .inl (by rw [h]; exact List.mem_cons_self)

def rOf (kind : Int) (xs : List Val) : List Val × Int :=
  if kind != 1 && kind != 2 then ([], 2) else if xs.any noMay then ([], 2) else if xs.any (fun x => x.k != kind) then ([], 9) else (putAll xs, 0)
theorem rOf_len (kind : Int) (xs : List Val) : (rOf kind xs).1.length ≤ xs.length := by
  unfold rOf
  (repeat' split) <;> first | exact Nat.zero_le _ | exact putAll_len xs

set_option maxRecDepth 100000 in
set_option maxHeartbeats 1000000 in
theorem rof_new (kind : Int) (A : Option Addr) (c : Nat) (xs : List Val) (w : World) (h : Sl w 3 Val.cells A c xs) (hs : ∀ x ∈ xs, x.s.size ≤ maxLen) (hl : xs.length ≤ 900000) :
    Calls Tryz.prog 25 #[.int .u8 kind, .slice A xs.length c] w fun e w' => ∃ A' c', e = .returned (.tuple #[.slice A' (rOf kind xs).1.length c', .int .i64 (rOf kind xs).2]) ∧ Sl w' 3 Val.cells A' c' (rOf kind xs).1 ∧ Keep w w' ∧ Fresh w.heap.size A' (rOf kind xs).1.length := by
  have HS := Lib.hid hs; clear hs
  by_cases hk : (kind != 1 && kind != 2) = true
  · have hv : rOf kind xs = ([], 2) := by unfold rOf; rw [if_pos hk]
    rw [hv]
    have hk1 : (kind != 1) = true := by simp at hk ⊢; exact hk.1
    have hk2 : (kind != 2) = true := by simp at hk ⊢; exact hk.2
    clear hk hv
    go_enter Tryz.func25, Tryz.ntmps25
    go_wp2
    go_ret2
    exact ⟨none, 0, rfl, Sl.nil_ _ (by omega), Keep.refl _, fun _ _ h => by cases h⟩
  · have hv : rOf kind xs = if xs.any noMay then ([], 2) else if xs.any (fun x => x.k != kind) then ([], 9) else (putAll xs, 0) := by unfold rOf; rw [if_neg hk]
    rw [hv]
    have hcase : ((kind != 1) = false) ∨ ((kind != 1) = true ∧ (kind != 2) = false) := by
      simp only [Bool.and_eq_true, bne_iff_ne, ne_eq, not_and, Decidable.not_not, bne_eq_false_iff_eq] at hk ⊢
      by_cases e : kind = 1
      · exact .inl e
      · exact .inr ⟨e, hk e⟩
    clear hk hv
    have hlen := h.len
    suffices hbody : ∀ _u : Unit, (Calls Tryz.prog 25 #[.int .u8 kind, .slice A xs.length c] w fun e w' => ∃ A' c', e = .returned (.tuple #[.slice A' (if xs.any noMay then (([] : List Val), (2 : Int)) else if xs.any (fun x => x.k != kind) then ([], 9) else (putAll xs, 0)).1.length c', .int .i64 (if xs.any noMay then (([] : List Val), (2 : Int)) else if xs.any (fun x => x.k != kind) then ([], 9) else (putAll xs, 0)).2]) ∧ Sl w' 3 Val.cells A' c' (if xs.any noMay then (([] : List Val), (2 : Int)) else if xs.any (fun x => x.k != kind) then ([], 9) else (putAll xs, 0)).1 ∧ Keep w w' ∧ Fresh w.heap.size A' (if xs.any noMay then (([] : List Val), (2 : Int)) else if xs.any (fun x => x.k != kind) then ([], 9) else (putAll xs, 0)).1.length) from hbody ()
    intro _
    generalize hR : (if xs.any noMay then (([] : List Val), (2 : Int)) else if xs.any (fun x => x.k != kind) then ([], 9) else (putAll xs, 0)) = R
    have HR := Lib.hid hR; clear hR
    rcases hcase with hk1 | ⟨hk1, hk2⟩
    all_goals
      go_enter Tryz.func25, Tryz.ntmps25
      go_wp2
      go_loopw [6] (fun i wr => ∃ k : Nat, k ≤ xs.length ∧ i = .int .i64 k ∧ Hid (Keep w wr) ∧ Hid (∀ j, (h : j < xs.length) → j < k → noMay xs[j] = false)) (fun i _ => xs.length - (intOf i).toNat)
      case atStart => exact ⟨0, Nat.zero_le _, rfl, Keep.refl _, fun j _ hj => absurd hj (Nat.not_lt_zero _)⟩
      case round =>
        obtain ⟨k, hk, rfl, HK, HN⟩ := hrel
        by_cases hlt : k < xs.length
        · have hcall := fun W => rmay_any xs[k] W
          obtain ⟨bx, off, rfl, hbx, c0, c1, c2⟩ := sl_val (h.keep HK.out) k hlt
          cases hm : mayV xs[k]
          · rw [hm] at hcall
            have HC := Lib.hid hcall; clear hcall
            go_wp2_with (go_at_call 59; refine (HC.out _).mono ?_; rintro e w' ⟨rfl, hk⟩; (first | obtain ⟨p, rfl⟩ := Zone.gro_of_gro _ _ hk | obtain ⟨p, rfl⟩ := Zone.gro_of_below _ hk); clear hk)
            go_ret2
            have hr : R = ([], 2) := by rw [← HR.out, if_pos (List.any_eq_true.2 ⟨xs[k], List.getElem_mem _, by simp [noMay, hm]⟩)]
            exact ⟨none, 0, by rw [hr]; rfl, by rw [hr]; exact Sl.nil_ _ (by omega), HK.out.gro _, fun _ _ h => by cases h⟩
          · rw [hm] at hcall
            have HC := Lib.hid hcall; clear hcall
            have HM : Hid (noMay xs[k] = false) := by show _ = _; simp [noMay, hm]
            clear hm
            go_wp2_with (go_at_call 59; refine (HC.out _).mono ?_; rintro e w' ⟨rfl, hk⟩; (first | obtain ⟨p, rfl⟩ := Zone.gro_of_gro _ _ hk | obtain ⟨p, rfl⟩ := Zone.gro_of_below _ hk); clear hk)
            go_roundw
            case rel => exact ⟨k + 1, by omega, by go_num, HK.out.gro _, fun j hj hjk => by
              by_cases e : j = k
              · subst e; exact HM.out
              · exact HN.out j hj (by omega)⟩
            case measure => simp [intOf]; omega
        · have HN' : Hid (xs.any noMay = false) := by
            show _ = _
            rw [List.any_eq_false]
            intro x hx
            obtain ⟨j, hj, rfl⟩ := List.getElem_of_mem hx
            simp [HN.out j hj (by omega)]
          clear HN
          go_wp2
          go_loopw [7, 8] (fun vo i wr => ∃ (k : Nat) (A' : Option Addr) (c' : Nat), k ≤ xs.length ∧ i = .int .i64 k ∧ vo = .slice A' (putAll (xs.take k)).length c' ∧ Hid (Sl wr 3 Val.cells A' c' (putAll (xs.take k))) ∧ Hid (Keep w wr) ∧ Hid (Fresh w.heap.size A' (putAll (xs.take k)).length) ∧ Hid (∀ j, (h : j < xs.length) → j < k → (xs[j].k != kind) = false)) (fun _ i _ => xs.length - (intOf i).toNat)
          case atStart => exact ⟨0, none, 0, Nat.zero_le _, rfl, rfl, Sl.nil_ _ (by omega), HK.out, (fun _ _ h => by cases h), fun j _ hj => absurd hj (Nat.not_lt_zero _)⟩
          case round =>
            obtain ⟨k, A', c', hk, rfl, rfl, HL, HK, HFR, HN⟩ := hrel
            by_cases hlt : k < xs.length
            · obtain ⟨bx, off, rfl, hbx, c0, c1, c2⟩ := sl_val (h.keep HK.out) k hlt
              cases hkk : xs[k].k != kind
              · have hcall := fun W (hW : Keep _ W) => put_new w.heap.size A' c' (putAll (xs.take k)) xs[k] W (Nat.le_trans HK.out.size hW.size) HFR.out (HL.out.keep hW) (fun x hx => HS.out x (List.mem_of_mem_take (putAll_mem _ x hx))) (HS.out _ (List.getElem_mem _)) (by have := putAll_len (xs.take k); simp at this; omega)
                rw [← putAll_succ xs k hlt] at hcall
                have HC := Lib.hid hcall; clear hcall
                have HKK := Lib.hid hkk
                go_wp2_with (go_at_call 60; refine (HC.out _ (Keep.refl _)).mono ?_; rintro e w' ⟨A2, c2', rfl, hsl, hk2', hfr2⟩)
                clear hkk
                go_roundw
                case rel => exact ⟨k + 1, A2, c2', by omega, by go_num, rfl, hsl, HK.out.trans hk2', hfr2, fun j hj hjk => by
                  by_cases e : j = k
                  · subst e; exact HKK.out
                  · exact HN.out j hj (by omega)⟩
                case measure => simp [intOf]; omega
              · go_wp2
                go_ret2
                have hr : R = ([], 9) := by rw [← HR.out, HN'.out, if_neg (by simp), if_pos (List.any_eq_true.2 ⟨xs[k], List.getElem_mem _, hkk⟩)]
                exact ⟨none, 0, by rw [hr]; rfl, by rw [hr]; exact Sl.nil_ _ (by omega), HK.out, fun _ _ h => by cases h⟩
            · have hkl : k = xs.length := by omega
              have hr : R = (putAll (xs.take k), 0) := by
                rw [← HR.out, HN'.out, if_neg (by simp), if_neg, hkl, List.take_length]
                rw [Bool.not_eq_true, List.any_eq_false]
                intro x hx
                obtain ⟨j, hj, rfl⟩ := List.getElem_of_mem hx
                simp [HN.out j hj (by omega)]
              have HR2 := Lib.hid hr
              clear hkl hr
              go_wp2
              go_ret2
              exact ⟨A', c', by rw [HR2.out]; rfl, by rw [HR2.out]; exact HL.out, HK.out, by rw [HR2.out]; exact HFR.out⟩
theorem rof_any (kind : Int) (A : Option Addr) (c : Nat) (xs : List Val) (w : World) (h : Sl w 3 Val.cells A c xs) (hs : ∀ x ∈ xs, x.s.size ≤ maxLen) (hl : xs.length ≤ 900000) :
    Calls Tryz.prog 25 #[.int .u8 kind, .slice A xs.length c] w fun e w' => ∃ A' c', e = .returned (.tuple #[.slice A' (rOf kind xs).1.length c', .int .i64 (rOf kind xs).2]) ∧ Sl w' 3 Val.cells A' c' (rOf kind xs).1 ∧ Keep w w' := by
  refine (rof_new kind A c xs w h hs hl).mono ?_
  rintro e w' ⟨A', c', he, h1, h2, _⟩
  exact ⟨A', c', he, h1, h2⟩
end Go.Proofs.YthigflnfccajoaaGreat
