
/- The contract of the document's Interval. -/
import Derived.WalkKit
import Derived.Lib.Hide
import Derived.WalkSpells
import Derived.WalkLawsBesides
import Derived.BigQuiet
import Derived.Shelf.Abstract
import Derived.Test.YtbblkabnijhdoaaOf
namespace Go.Proofs.Ytbblkabnijhdoaa
open Go.RowKit Go.Zone Go.Shelf
attribute [local go_sem] Zone.zone Zone.stepZ Zone.fill Zone.lookFs Zone.goes Zone.goesUpon Zone.dropFs Zone.cell_gro Zone.frozen_gro Zone.size_gro Zone.lt_add Zone.drew_gro Zone.tape_gro Zone.keep_refl
attribute [local go_sem high] run_eq_val run_ne_val run_eqG_val

structure Iv where
  lo : Int
  hi : Int
  first : Int
  behind : Int
def stepIv (cmp : Int) (v : Val) (st : Iv) (i : Nat) (x : Val) : Iv :=
  { lo := if so3 cmp (rcmpV x v) && decide (st.lo < 0) then (i : Int) else st.lo
    hi := if so3 cmp (rcmpV x v) then (i : Int) + 1 else st.hi
    first := if so3 3 (rcmpV x v) then (i : Int) + 1 else st.first
    behind := if so3 4 (rcmpV x v) then (i : Int) + 1 else st.behind }
def ivTo (cmp : Int) (v : Val) (xs : List Val) : Nat → Iv
  | 0 => ⟨-1, 0, 0, 0⟩
  | k + 1 => stepIv cmp v (ivTo cmp v xs k) k (xs.getD k default)
theorem ivTo_bd (cmp : Int) (v : Val) (xs : List Val) : ∀ k, -1 ≤ (ivTo cmp v xs k).lo ∧ (ivTo cmp v xs k).lo ≤ k ∧ 0 ≤ (ivTo cmp v xs k).hi ∧ (ivTo cmp v xs k).hi ≤ k ∧ 0 ≤ (ivTo cmp v xs k).first ∧ (ivTo cmp v xs k).first ≤ k ∧ 0 ≤ (ivTo cmp v xs k).behind ∧ (ivTo cmp v xs k).behind ≤ k
  | 0 => by simp [ivTo]
  | k + 1 => by
    have ih := ivTo_bd cmp v xs k
    simp only [ivTo, stepIv]
    refine ⟨?_, ?_, ?_, ?_, ?_, ?_, ?_, ?_⟩ <;> split <;> omega
def ivEnd (cmp : Int) (st : Iv) : Int × Int := if st.lo < 0 then (if cmp == 3 || cmp == 4 then (0, 0) else if cmp == 5 then (st.behind, st.behind) else (st.first, st.first)) else (st.lo, st.hi)
def badCmp (v : Val) (cmp : Int) : Bool := !mayV v || decide (cmp < 1) || cmp == 2 || decide (6 < cmp)
def rIval (kind : Int) (xs : List Val) (cmp : Int) (v : Val) : Int × Int × Int :=
  if badCmp v cmp then (0, 0, 2) else if v.k != kind then (0, 0, 9) else ((ivEnd cmp (ivTo cmp v xs xs.length)).1, (ivEnd cmp (ivTo cmp v xs xs.length)).2, 0)
theorem ret_iii {a b c a' b' c' : Int} (h : (a, b, c) = (a', b', c')) : Ending.returned (.tuple #[.int .i64 a, .int .i64 b, .int .i64 c]) = .returned (.tuple #[.int .i64 a', .int .i64 b', .int .i64 c']) := by
  simp only [Prod.mk.injEq] at h
  obtain ⟨rfl, rfl, rfl⟩ := h
  rfl

set_option maxRecDepth 100000 in
set_option maxHeartbeats 2000000 in
theorem rival_any (kind : Int) (A : Option Addr) (c : Nat) (xs : List Val) (cmp : Int) (v : Val) (w : World) (h : Sl w 3 Val.cells A c xs) (hs : ∀ x ∈ xs, x.s.size ≤ maxLen) (hv : v.s.size ≤ maxLen) :
    Calls Try.prog 14 #[.int .u8 kind, .slice A xs.length c, .int .u8 cmp, v.v] w fun e w' => e = .returned (.tuple #[.int .i64 (rIval kind xs cmp v).1, .int .i64 (rIval kind xs cmp v).2.1, .int .i64 (rIval kind xs cmp v).2.2]) ∧ Keep w w' := by
  have HS := Lib.hid hs; clear hs
  have hlen := h.len
  have hmay := fun W => rmay_any v W
  generalize hR : rIval kind xs cmp v = R
  have HR := Lib.hid hR; clear hR
  by_cases hb : badCmp v cmp = true
  · have hr : R = (0, 0, 2) := by rw [← HR.out]; unfold rIval; rw [if_pos hb]
    have HR2 := Lib.hid hr; clear hr
    unfold badCmp at hb
    generalize mayV v = m at hmay hb
    obtain ⟨k0, n0, s0⟩ := v
    have HM := Lib.hid hmay; clear hmay
    cases m
    · go_enter Try.func14, Try.ntmps14
      go_wp2_with (go_at_call 33; refine (HM.out _).mono ?_; rintro e w' ⟨rfl, hk⟩; (first | obtain ⟨p, rfl⟩ := Zone.gro_of_gro _ _ hk | obtain ⟨p, rfl⟩ := Zone.gro_of_below _ hk); clear hk)
      go_ret3
      exact ⟨ret_iii HR2.out.symm, (by repeat (first | exact Keep.refl _ | apply Keep.alloc | apply Keep.gro | apply Keep.drew | apply Keep.drewN))⟩
    · by_cases h1 : cmp < 1
      · clear hb
        go_enter Try.func14, Try.ntmps14
        go_wp2_with (go_at_call 33; refine (HM.out _).mono ?_; rintro e w' ⟨rfl, hk⟩; (first | obtain ⟨p, rfl⟩ := Zone.gro_of_gro _ _ hk | obtain ⟨p, rfl⟩ := Zone.gro_of_below _ hk); clear hk)
        go_ret3
        exact ⟨ret_iii HR2.out.symm, (by repeat (first | exact Keep.refl _ | apply Keep.alloc | apply Keep.gro | apply Keep.drew | apply Keep.drewN))⟩
      · by_cases h2 : (cmp == 2) = true
        · clear hb
          go_enter Try.func14, Try.ntmps14
          go_wp2_with (go_at_call 33; refine (HM.out _).mono ?_; rintro e w' ⟨rfl, hk⟩; (first | obtain ⟨p, rfl⟩ := Zone.gro_of_gro _ _ hk | obtain ⟨p, rfl⟩ := Zone.gro_of_below _ hk); clear hk)
          go_ret3
          exact ⟨ret_iii HR2.out.symm, (by repeat (first | exact Keep.refl _ | apply Keep.alloc | apply Keep.gro | apply Keep.drew | apply Keep.drewN))⟩
        · have h2' : (cmp == 2) = false := by simpa using h2
          have h6 : 6 < cmp := by simp [h1, h2'] at hb; exact hb
          clear hb h2
          go_enter Try.func14, Try.ntmps14
          go_wp2_with (go_at_call 33; refine (HM.out _).mono ?_; rintro e w' ⟨rfl, hk⟩; (first | obtain ⟨p, rfl⟩ := Zone.gro_of_gro _ _ hk | obtain ⟨p, rfl⟩ := Zone.gro_of_below _ hk); clear hk)
          go_ret3
          exact ⟨ret_iii HR2.out.symm, (by repeat (first | exact Keep.refl _ | apply Keep.alloc | apply Keep.gro | apply Keep.drew | apply Keep.drewN))⟩
  · have hb' : badCmp v cmp = false := by simpa using hb
    have hm : mayV v = true ∧ 1 ≤ cmp ∧ (cmp == 2) = false ∧ cmp ≤ 6 := by
      unfold badCmp at hb'
      simp only [Bool.or_eq_false_iff, Bool.not_eq_false', decide_eq_false_iff_not] at hb'
      exact ⟨hb'.1.1.1, by omega, hb'.1.2, by omega⟩
    obtain ⟨hm0, h1, h2, h6⟩ := hm
    rw [hm0] at hmay
    have HM := Lib.hid hmay; clear hmay
    cases hkk : v.k != kind
    · have hr : R = ((ivEnd cmp (ivTo cmp v xs xs.length)).1, (ivEnd cmp (ivTo cmp v xs xs.length)).2, 0) := by rw [← HR.out]; unfold rIval; rw [if_neg hb, if_neg (by simp [hkk])]
      have HR2 := Lib.hid hr; clear hr hb hb' hm0
      have hso := fun (x : Val) (cm : Int) W hx => so_any x v cm W hx hv
      have HB := Lib.hid (ivTo_bd cmp v xs)
      obtain ⟨k0, n0, s0⟩ := v
      have HSO := Lib.hid hso; clear hso
      go_enter Try.func14, Try.ntmps14
      go_wp2_with (go_at_call 33; refine (HM.out _).mono ?_; rintro e w' ⟨rfl, hk⟩; (first | obtain ⟨p, rfl⟩ := Zone.gro_of_gro _ _ hk | obtain ⟨p, rfl⟩ := Zone.gro_of_below _ hk); clear hk)
      go_loopw [11, 12, 13, 14, 15] (fun vlo vhi vf vb i wr => ∃ (k : Nat) (st : Iv), k ≤ xs.length ∧ i = .int .i64 k ∧ Hid (ivTo cmp ⟨k0, n0, s0⟩ xs k = st) ∧ vlo = .int .i64 st.lo ∧ vhi = .int .i64 st.hi ∧ vf = .int .i64 st.first ∧ vb = .int .i64 st.behind ∧ Hid (Keep w wr) ∧
        w.heap.size < wr.heap.size ∧ wr.cell? ⟨w.heap.size, 0, none⟩ = some (.int .u8 k0) ∧ wr.cell? ⟨w.heap.size, 1, none⟩ = some (.int .i64 n0) ∧ wr.cell? ⟨w.heap.size, 2, none⟩ = some (.string s0)) (fun _ _ _ _ i _ => xs.length - (intOf i).toNat)
      case atStart => exact ⟨0, ⟨-1, 0, 0, 0⟩, Nat.zero_le _, rfl, rfl, rfl, rfl, rfl, rfl, (by repeat (first | exact Keep.refl _ | apply Keep.alloc | apply Keep.gro | apply Keep.drew | apply Keep.drewN)), by simp [size_gro]; omega, by simp [go_sem], by simp [go_sem], by simp [go_sem]⟩
      case round =>
        obtain ⟨k, ⟨lo, hi, fi, bh⟩, hk, rfl, HT, rfl, rfl, rfl, rfl, HK, hz, b0, b1, b2⟩ := hrel
        have hbd := HB.out k
        rw [HT.out] at hbd
        simp only at hbd ⊢
        obtain ⟨d1, d2, d3, d4, d5, d6, d7, d8⟩ := hbd
        by_cases hlt : k < xs.length
        · obtain ⟨bx, off, rfl, hbx, c0, c1, c2⟩ := sl_val (h.keep HK.out) k hlt
          have HX := Lib.hid (HS.out _ (List.getElem_mem hlt))
          have HST : Hid (ivTo cmp ⟨k0, n0, s0⟩ xs (k + 1) = stepIv cmp ⟨k0, n0, s0⟩ ⟨lo, hi, fi, bh⟩ k xs[k]) := by
            show _ = _
            rw [ivTo, HT.out]
            congr 1
            simp [hlt]
          have hso3 := fun W => HSO.out xs[k] cmp W HX.out
          have hso4 := fun W => HSO.out xs[k] 3 W HX.out
          have hso5 := fun W => HSO.out xs[k] 4 W HX.out
          simp only [stepIv] at HST
          generalize so3 cmp (rcmpV xs[k] ⟨k0, n0, s0⟩) = q1 at hso3 HST
          generalize so3 3 (rcmpV xs[k] ⟨k0, n0, s0⟩) = q2 at hso4 HST
          generalize so3 4 (rcmpV xs[k] ⟨k0, n0, s0⟩) = q3 at hso5 HST
          have C1 := Lib.hid hso3
          have C2 := Lib.hid hso4
          have C3 := Lib.hid hso5
          clear hso3 hso4 hso5 HSO HB HM HR HR2 HS
          by_cases hlo : lo < 0 <;> cases q1 <;> cases q2 <;> cases q3
          all_goals
            simp [hlo] at HST
            go_wp2
            first | refine Zone.wp_region_all_gro (by kernel_rfl) (by kernel_rfl) ?_ | refine Zone.wp_region_all (by kernel_rfl) (by kernel_rfl) ?_
            repeat
              refine Zone.wpZ_step (fun K hK => ?_)
              go_simp
              first
              | (refine hK _ _ ?_; clear hK K)
              | (apply Exists.intro
                 refine ⟨fun p => ?_, hK _ _ ?_⟩
                 ((go_at_call 37; exact Zone.zc (C1.out _)))
                 clear hK K)
            refine Zone.wpZ_nil ?_
            intro p1
            simp only [Zone.fill]
            go_wp2
            first | refine Zone.wp_region_all_gro (by kernel_rfl) (by kernel_rfl) ?_ | refine Zone.wp_region_all (by kernel_rfl) (by kernel_rfl) ?_
            repeat
              refine Zone.wpZ_step (fun K hK => ?_)
              go_simp
              first
              | (refine hK _ _ ?_; clear hK K)
              | (apply Exists.intro
                 refine ⟨fun p => ?_, hK _ _ ?_⟩
                 ((go_at_call 37; exact Zone.zc (C2.out _)))
                 clear hK K)
            refine Zone.wpZ_nil ?_
            intro p2
            simp only [Zone.fill]
            go_wp2
            first | refine Zone.wp_region_all_gro (by kernel_rfl) (by kernel_rfl) ?_ | refine Zone.wp_region_all (by kernel_rfl) (by kernel_rfl) ?_
            repeat
              refine Zone.wpZ_step (fun K hK => ?_)
              go_simp
              first
              | (refine hK _ _ ?_; clear hK K)
              | (apply Exists.intro
                 refine ⟨fun p => ?_, hK _ _ ?_⟩
                 ((go_at_call 37; exact Zone.zc (C3.out _)))
                 clear hK K)
            refine Zone.wpZ_nil ?_
            intro p3
            simp only [Zone.fill]
            go_wp2
            go_roundw
            case rel => exact ⟨k + 1, _, by omega, by go_num, HST, rfl, rfl, rfl, rfl, HK.out.gro _, by simp [size_gro]; omega, by simp [cell_gro, hz, b0], by simp [cell_gro, hz, b1], by simp [cell_gro, hz, b2]⟩
            case measure => simp [intOf]; omega
        · have hkl : k = xs.length := by omega
          rw [hkl] at HT
          have HE : Hid (R = ((ivEnd cmp ⟨lo, hi, fi, bh⟩).1, (ivEnd cmp ⟨lo, hi, fi, bh⟩).2, 0)) := by show _ = _; rw [HR2.out, HT.out]
          simp only [ivEnd] at HE
          clear hkl HSO HB HM HR HR2 HS HT
          by_cases hlo : lo < 0
          · by_cases e3 : (cmp == 3) = true
            · simp only [hlo, if_true, e3, Bool.true_or] at HE
              go_wp2
              go_ret3
              exact ⟨ret_iii HE.out.symm, HK.out⟩
            · have e3' : (cmp == 3) = false := by simpa using e3
              by_cases e4 : (cmp == 4) = true
              · simp only [hlo, if_true, e4, Bool.or_true] at HE
                clear e3
                go_wp2
                go_ret3
                exact ⟨ret_iii HE.out.symm, HK.out⟩
              · have e4' : (cmp == 4) = false := by simpa using e4
                simp only [hlo, if_true, e3', e4', Bool.or_false, Bool.false_eq_true, if_false] at HE
                clear e3 e4
                cases e5 : cmp == 5
                · simp only [e5, Bool.false_eq_true, if_false] at HE
                  go_wp2
                  go_ret3
                  exact ⟨ret_iii HE.out.symm, HK.out⟩
                · simp only [e5, if_true] at HE
                  go_wp2
                  go_ret3
                  exact ⟨ret_iii HE.out.symm, HK.out⟩
          · simp only [hlo, if_false] at HE
            go_wp2
            go_ret3
            exact ⟨ret_iii HE.out.symm, HK.out⟩
    · have hr : R = (0, 0, 9) := by rw [← HR.out]; unfold rIval; rw [if_neg hb, if_pos (by simp [hkk])]
      have HR2 := Lib.hid hr; clear hr hb hb' hm0
      obtain ⟨k0, n0, s0⟩ := v
      go_enter Try.func14, Try.ntmps14
      go_wp2_with (go_at_call 33; refine (HM.out _).mono ?_; rintro e w' ⟨rfl, hk⟩; (first | obtain ⟨p, rfl⟩ := Zone.gro_of_gro _ _ hk | obtain ⟨p, rfl⟩ := Zone.gro_of_below _ hk); clear hk)
      go_ret3
      exact ⟨ret_iii HR2.out.symm, (by repeat (first | exact Keep.refl _ | apply Keep.alloc | apply Keep.gro | apply Keep.drew | apply Keep.drewN))⟩
end Go.Proofs.Ytbblkabnijhdoaa
