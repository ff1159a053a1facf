
/- Contracts of schema: flagged, Fits. -/
import Derived.WalkKit
import Derived.Lib.Hide
import Derived.WalkSpells
import Derived.WalkLawsBesides
import Derived.BigQuiet
import Derived.Shelf.Abstract
import Derived.Test.YtmcaednlilhnoaaGreatDoorJd
import Derived.Deep.Cut
import Derived.Deep.CutRange
namespace Go.Proofs.YtmcaednlilhnoaaGreatDoor
open Go.RowKit Go.Zone Go.Shelf
attribute [local go_sem] Zone.zone Zone.stepZ Zone.fill Zone.lookFs Zone.goes Zone.goesUpon Zone.dropFs Zone.cell_gro Zone.frozen_gro Zone.size_gro Zone.lt_add Zone.drew_gro Zone.tape_gro Zone.keep_refl
attribute [local go_sem] Zone.lt_add2 Zone.lt_add3 Zone.lt_add4 Zone.lt_add5 Zone.lt_add6 Zone.lt_add7 Zone.lt_add8 Zone.lt_add9 Zone.lt_add10 Zone.lt_add11 Zone.lt_add12
theorem indexI_any (A : Option Addr) (c : Nat) (xs : List Int) (n : Int) (w : World) (h : Sl w 1 i64V A c xs) :
    Calls Tryz.prog 170 #[.slice A xs.length c, .int .i64 n] w fun e w' => e = .returned (.int .i64 (idxP (fun x => n == x) xs 0)) ∧ Keep w w' := by
  have hl := sl_len h
  go_enter Tryz.func170, Tryz.ntmps170
  go_wp2
  go_loop [5, 8] (fun _ i => ∃ k : Nat, k ≤ xs.length ∧ i = .int .i64 k ∧ Hid (∀ j, (h : j < xs.length) → j < k → (n == xs[j]) = false)) (fun _ i => xs.length - (intOf i).toNat)
  case atStart => exact ⟨0, Nat.zero_le _, rfl, fun j _ hj => absurd hj (Nat.not_lt_zero _)⟩
  case round =>
    obtain ⟨k, hk, rfl, HR⟩ := hrel
    by_cases hlt : k < xs.length
    · obtain ⟨b, off, rfl, hb, h0⟩ := sl_i64 h k hlt
      clear h
      cases hq : (n == xs[k])
      · have hq2 := hq
        have HQ := Lib.hid hq
        clear hq
        go_wp2
        go_round
        case rel => exact ⟨k + 1, by omega, by go_num, fun j hj hjk => by
          by_cases e : j = k
          · subst e; exact HQ.out
          · exact HR.out j hj (by omega)⟩
        case measure => simp [intOf]; omega
      · have hq2 := hq
        have HQ := Lib.hid hq
        clear hq
        go_wp2
        go_ret
        exact ⟨ret_int (by rw [idxP_at _ xs 0 k HR.out, List.drop_eq_getElem_cons hlt]; simp only [idxP, HQ.out, if_true]; omega), (by repeat (first | exact Keep.refl _ | apply Keep.alloc | apply Keep.gro | apply Keep.drew | apply Keep.drewN))⟩
    · go_wp2
      go_ret
      exact ⟨ret_int (by rw [idxP_at _ xs 0 xs.length fun j hj _ => HR.out j hj (by omega)]; simp [idxP]), (by repeat (first | exact Keep.refl _ | apply Keep.alloc | apply Keep.gro | apply Keep.drew | apply Keep.drewN))⟩
theorem contI_any (A : Option Addr) (c : Nat) (xs : List Int) (n : Int) (w : World) (h : Sl w 1 i64V A c xs) :
    Calls Tryz.prog 106 #[.slice A xs.length c, .int .i64 n] w fun e w' => e = .returned (.bool (xs.any fun x => n == x)) ∧ Keep w w' := by
  have HH := Lib.hid h; clear h
  rw [← idxP_any _ xs 0]
  go_enter Tryz.func106, Tryz.ntmps106
  go_wp2_with (go_at_call 170; refine (indexI_any A c xs n _ HH.out).mono ?_; rintro e w' ⟨rfl, hk⟩; (first | obtain ⟨p, rfl⟩ := Zone.gro_of_gro _ _ hk | obtain ⟨p, rfl⟩ := Zone.gro_of_below _ hk); clear hk)
  go_ret
  exact ⟨rfl, (by repeat (first | exact Keep.refl _ | apply Keep.alloc | apply Keep.gro | apply Keep.drew | apply Keep.drewN))⟩
set_option maxHeartbeats 1000000 in
theorem flagged_any (A B : Option Addr) (c d : Nat) (cs : List Col) (fs : List Bool) (w : World) (h : Sl w 2 Col.cells A c cs) (hf : Sl w 1 flV B d fs) :
    Calls Tryz.prog 105 #[.slice A cs.length c, .slice B fs.length d] w fun e w' => e = .returned (.bool (pB (FlagP cs fs))) ∧ Keep w w' := by
  have hl := sl_len h
  have hl2 := sl_len hf
  have H := Lib.hid h
  have HF := Lib.hid hf
  clear h hf
  go_enter Tryz.func105, Tryz.ntmps105
  go_wp2
  go_loopw [9] (fun i wr => ∃ k : Nat, k ≤ fs.length ∧ i = .int .i64 k ∧ Hid (Keep w wr) ∧ Hid (∀ j, (h : j < fs.length) → j < k → fs[j] = true → dimP cs (j : Int) = true)) (fun i _ => fs.length - (intOf i).toNat)
  case atStart => exact ⟨0, Nat.zero_le _, rfl, Keep.refl _, fun j _ hj => absurd hj (Nat.not_lt_zero _)⟩
  case round =>
    obtain ⟨k, hk, rfl, HK, HR⟩ := hrel
    by_cases hlt : k < fs.length
    · obtain ⟨b, off, hA, hb, h0⟩ := sl_fl (HF.out.keep HK.out) k hlt
      have HD := Lib.hid (fun W (hW : Keep w W) => dim_any A c cs (k : Int) W (H.out.keep hW))
      subst hA
      cases hq : fs[k]
      · have HQ := Lib.hid hq
        rw [hq] at h0
        clear hq
        go_wp2
        go_roundw
        case rel => exact ⟨k + 1, by omega, by go_num, HK.out, fun j hj hjk hx => by
          by_cases e : j = k
          · subst e
            have := HQ.out
            rw [hx] at this
            cases this
          · exact HR.out j hj (by omega) hx⟩
        case measure => simp [intOf]; omega
      · have HQ := Lib.hid hq
        rw [hq] at h0
        clear hq
        cases hd : dimP cs (k : Int)
        · have HX := Lib.hid hd
          go_wp2_with (go_at_call 37; refine (HD.out _ (HK.out.trans (by repeat (first | exact Keep.refl _ | apply Keep.alloc | apply Keep.gro | apply Keep.drew | apply Keep.drewN)))).mono ?_; rintro e w' ⟨rfl, hk⟩; (first | obtain ⟨p, rfl⟩ := Zone.gro_of_gro _ _ hk | obtain ⟨p, rfl⟩ := Zone.gro_of_below _ hk); clear hk)
          go_ret
          exact ⟨ret_bool (pB_no fun m => by
            have := HX.out
            rw [m.ok k (by simp [hlt, HQ.out])] at this
            cases this).symm, HK.out.trans (by repeat (first | exact Keep.refl _ | apply Keep.alloc | apply Keep.gro | apply Keep.drew | apply Keep.drewN))⟩
        · have HX := Lib.hid hd
          go_wp2_with (go_at_call 37; refine (HD.out _ (HK.out.trans (by repeat (first | exact Keep.refl _ | apply Keep.alloc | apply Keep.gro | apply Keep.drew | apply Keep.drewN)))).mono ?_; rintro e w' ⟨rfl, hk⟩; (first | obtain ⟨p, rfl⟩ := Zone.gro_of_gro _ _ hk | obtain ⟨p, rfl⟩ := Zone.gro_of_below _ hk); clear hk)
          go_roundw
          case rel => exact ⟨k + 1, by omega, by go_num, HK.out.trans (by repeat (first | exact Keep.refl _ | apply Keep.alloc | apply Keep.gro | apply Keep.drew | apply Keep.drewN)), fun j hj hjk hx => by
            by_cases e : j = k
            · subst e; exact HX.out
            · exact HR.out j hj (by omega) hx⟩
          case measure => simp [intOf]; omega
    · have hok : Hid (∀ i : Nat, fs.getD i false = true → dimP cs (i : Int) = true) := fun i hi => by
        by_cases hil : i < fs.length
        · exact HR.out i hil (by omega) (by simpa [hil] using hi)
        · simp [Nat.le_of_not_lt hil] at hi
      have hp : Hid (FlagP cs fs ↔ (fs.length = 0 ∨ fs.length = cs.length)) := ⟨fun m => m.len, fun m => ⟨m, hok.out⟩⟩
      go_wp2
      all_goals go_ret
      all_goals refine ⟨?_, HK.out⟩
      · exact ret_bool (pB_yes (hp.out.2 (.inl (by simp_all)))).symm
      · exact ret_bool (by rw [Bool.eq_iff_iff, pB_iff, hp.out]; simp only [Bool.or_eq_true, beq_iff_eq]; omega)
/-- A configuration. -/
structure Cfg where
  sort : Int
  iA : Option Addr
  ic : Nat
  inv : List Bool
  rA : Option Addr
  rc : Nat
  rng : List Bool
  sA : Option Addr
  sc : Nat
  split : List Int
  leaf : Int
def Cfg.cells (c : Cfg) : List Value := [.int .i64 c.sort, .slice c.iA c.inv.length c.ic, .slice c.rA c.rng.length c.rc, .slice c.sA c.split.length c.sc, .int .i64 c.leaf]
@[reducible] def Cfg.v (c : Cfg) : Value := .agg #[.int .i64 c.sort, .slice c.iA c.inv.length c.ic, .slice c.rA c.rng.length c.rc, .slice c.sA c.split.length c.sc, .int .i64 c.leaf]
structure CfgAt (w : World) (c : Cfg) : Prop where
  i : Sl w 1 flV c.iA c.ic c.inv
  r : Sl w 1 flV c.rA c.rc c.rng
  s : Sl w 1 i64V c.sA c.sc c.split
theorem CfgAt.keep {w w' : World} {c : Cfg} (h : CfgAt w c) (hk : Keep w w') : CfgAt w' c := ⟨h.i.keep hk, h.r.keep hk, h.s.keep hk⟩
def Fits (l : List Col) (c : Cfg) : Prop := FitsP l c.sort c.inv c.rng c.split c.leaf
theorem fits_iff (l : List Col) (c : Cfg) : Fits l c ↔ MayP l ∧ (c.sort = -1 ∨ dimP l c.sort = true) ∧ FlagP l c.inv ∧ FlagP l c.rng ∧ (∀ j, (h : j < c.split.length) → dimP l c.split[j] = true ∧ (c.split.take j).any (fun x => c.split[j] == x) = false) ∧ c.split.length ≤ 8 ∧ 1 ≤ c.leaf ∧ c.leaf ≤ 1000000 := by
  constructor
  · intro f
    refine ⟨f.may, f.sort, f.inv, f.rng, fun j h => ⟨f.split j h, ?_⟩, f.few, f.lo, f.hi⟩
    rw [List.any_eq_false]
    intro x hx
    obtain ⟨k, hk, rfl⟩ := List.getElem_of_mem hx
    simp only [List.length_take] at hk
    have := f.one j k h (by omega)
    simp only [List.getElem_take, beq_iff_eq]
    exact fun e => this e.symm
  · rintro ⟨h1, h2, h3, h4, h5, h6, h7, h8⟩
    refine ⟨h1, h2, h3, h4, fun j h => (h5 j h).1, fun j k h hk e => ?_, h6, h7, h8⟩
    have := (h5 j h).2
    rw [List.any_eq_false] at this
    have hm : c.split[k]'(by omega) ∈ c.split.take j := by
      rw [List.mem_take_iff_getElem]
      exact ⟨k, by omega, rfl⟩
    have := this _ hm
    simp [e] at this
/-- a boxed configuration's last two fields -/
structure BoxC (w W : World) (d e : Value) : Prop where
  keep : Keep w W
  lt : w.heap.size < W.heap.size
  c3 : W.cell? ⟨w.heap.size, 3, none⟩ = some d
  c4 : W.cell? ⟨w.heap.size, 4, none⟩ = some e
theorem BoxC.start {w W : World} {a b c d e : Value} {t : TypeId} (hW : Keep (w.alloc (.cells #[a, b, c, d, e] t)) W) : BoxC w W d e :=
  ⟨(Keep.alloc (Keep.refl w) _).trans hW, Nat.lt_of_lt_of_le (by simp) hW.size, (hW.cell (p := ⟨w.heap.size, 3, none⟩) (by simp [go_sem])).trans (by simp [go_sem]), (hW.cell (p := ⟨w.heap.size, 4, none⟩) (by simp [go_sem])).trans (by simp [go_sem])⟩
theorem BoxC.next {w W W' : World} {d e : Value} (h : BoxC w W d e) (hk : Keep W W') : BoxC w W' d e :=
  ⟨h.keep.trans hk, Nat.lt_of_lt_of_le h.lt hk.size, (hk.cell (p := ⟨w.heap.size, 3, none⟩) h.lt).trans h.c3, (hk.cell (p := ⟨w.heap.size, 4, none⟩) h.lt).trans h.c4⟩
set_option maxRecDepth 100000 in
set_option maxHeartbeats 1000000 in
theorem fits_any (A : Option Addr) (n : Nat) (cs : List Col) (c : Cfg) (w : World) (h : Sl w 2 Col.cells A n cs) (hz : ∀ x ∈ cs, x.name.size ≤ 140737488355328) (hc : CfgAt w c) :
    Calls Tryz.prog 53 #[.slice A cs.length n, c.v] w fun e w' => e = .returned (.bool (pB (Fits cs c))) ∧ Keep w w' := by
  obtain ⟨s0, iA, ic, iv, rA, rc, rv, sA, sc, sp, lf⟩ := c
  have hl := sl_len h
  have hl2 := sl_len hc.s
  have hl3 := sl_len hc.i
  have hl4 := sl_len hc.r
  have HI := Lib.hid (fits_iff cs ⟨s0, iA, ic, iv, rA, rc, rv, sA, sc, sp, lf⟩)
  have HM := Lib.hid (fun W (hW : Keep w W) => smay_any A n cs W (h.keep hW) hz)
  have HD := Lib.hid (fun W (hW : Keep w W) (i : Int) => dim_any A n cs i W (h.keep hW))
  have HF1 := Lib.hid (fun W (hW : Keep w W) => flagged_any A iA n ic cs iv W (h.keep hW) (hc.i.keep hW))
  have HF2 := Lib.hid (fun W (hW : Keep w W) => flagged_any A rA n rc cs rv W (h.keep hW) (hc.r.keep hW))
  have HS := Lib.hid hc.s
  have hcap := hc.s.cap
  have hbig := hc.s.big
  simp only [Cfg.v]
  clear h hc
  cases hq1 : pB (MayP cs)
  · have HQ := Lib.hid hq1
    go_enter Tryz.func53, Tryz.ntmps53
    go_wp2_with (go_at_call 104; refine (HM.out _ (by repeat (first | exact Keep.refl _ | apply Keep.alloc | apply Keep.gro | apply Keep.drew | apply Keep.drewN))).mono ?_; rintro e w' ⟨rfl, hk⟩; (first | obtain ⟨p, rfl⟩ := Zone.gro_of_gro _ _ hk | obtain ⟨p, rfl⟩ := Zone.gro_of_below _ hk); clear hk)
    go_ret
    exact ⟨ret_bool (pB_no fun f => by have := HQ.out; rw [pB_yes (HI.out.1 f).1] at this; cases this).symm, (by repeat (first | exact Keep.refl _ | apply Keep.alloc | apply Keep.gro | apply Keep.drew | apply Keep.drewN))⟩
  · have HQ := Lib.hid hq1
    by_cases hs : s0 = -1 ∨ dimP cs s0 = true
    · have HSO := Lib.hid hs
      have hs' : s0 = -1 ∨ (¬ s0 = -1 ∧ dimP cs s0 = true) := by
        by_cases e : s0 = -1
        · exact .inl e
        · exact .inr ⟨e, hs.resolve_left e⟩
      clear hs
      cases hq2 : pB (FlagP cs iv)
      · have HQ2 := Lib.hid hq2
        rcases hs' with hs | ⟨hs1, hs2⟩
        · go_enter Tryz.func53, Tryz.ntmps53
          go_wp2_with (first | (go_at_call 104; refine (HM.out _ (by repeat (first | exact Keep.refl _ | apply Keep.alloc | apply Keep.gro | apply Keep.drew | apply Keep.drewN))).mono ?_; rintro e w' ⟨rfl, hk⟩; (first | obtain ⟨p, rfl⟩ := Zone.gro_of_gro _ _ hk | obtain ⟨p, rfl⟩ := Zone.gro_of_below _ hk); clear hk) | (go_at_call 105; with_reducible refine (HF1.out _ (by repeat (first | exact Keep.refl _ | apply Keep.alloc | apply Keep.gro | apply Keep.drew | apply Keep.drewN))).mono ?_; rintro e w' ⟨rfl, hk⟩; (first | obtain ⟨p, rfl⟩ := Zone.gro_of_gro _ _ hk | obtain ⟨p, rfl⟩ := Zone.gro_of_below _ hk); clear hk))
          go_ret
          exact ⟨ret_bool (pB_no fun f => by have := HQ2.out; rw [pB_yes (HI.out.1 f).2.2.1] at this; cases this).symm, (by repeat (first | exact Keep.refl _ | apply Keep.alloc | apply Keep.gro | apply Keep.drew | apply Keep.drewN))⟩
        · go_enter Tryz.func53, Tryz.ntmps53
          go_wp2_with (first | (go_at_call 104; refine (HM.out _ (by repeat (first | exact Keep.refl _ | apply Keep.alloc | apply Keep.gro | apply Keep.drew | apply Keep.drewN))).mono ?_; rintro e w' ⟨rfl, hk⟩; (first | obtain ⟨p, rfl⟩ := Zone.gro_of_gro _ _ hk | obtain ⟨p, rfl⟩ := Zone.gro_of_below _ hk); clear hk) | (go_at_call 37; refine (HD.out _ (by repeat (first | exact Keep.refl _ | apply Keep.alloc | apply Keep.gro | apply Keep.drew | apply Keep.drewN)) _).mono ?_; rintro e w' ⟨rfl, hk⟩; (first | obtain ⟨p, rfl⟩ := Zone.gro_of_gro _ _ hk | obtain ⟨p, rfl⟩ := Zone.gro_of_below _ hk); clear hk) | (go_at_call 105; with_reducible refine (HF1.out _ (by repeat (first | exact Keep.refl _ | apply Keep.alloc | apply Keep.gro | apply Keep.drew | apply Keep.drewN))).mono ?_; rintro e w' ⟨rfl, hk⟩; (first | obtain ⟨p, rfl⟩ := Zone.gro_of_gro _ _ hk | obtain ⟨p, rfl⟩ := Zone.gro_of_below _ hk); clear hk))
          go_ret
          exact ⟨ret_bool (pB_no fun f => by have := HQ2.out; rw [pB_yes (HI.out.1 f).2.2.1] at this; cases this).symm, (by repeat (first | exact Keep.refl _ | apply Keep.alloc | apply Keep.gro | apply Keep.drew | apply Keep.drewN))⟩
      · have HQ2 := Lib.hid hq2
        cases hq3 : pB (FlagP cs rv)
        · have HQ3 := Lib.hid hq3
          rcases hs' with hs | ⟨hs1, hs2⟩
          · go_enter Tryz.func53, Tryz.ntmps53
            go_wp2_with (first | (go_at_call 104; refine (HM.out _ (by repeat (first | exact Keep.refl _ | apply Keep.alloc | apply Keep.gro | apply Keep.drew | apply Keep.drewN))).mono ?_; rintro e w' ⟨rfl, hk⟩; (first | obtain ⟨p, rfl⟩ := Zone.gro_of_gro _ _ hk | obtain ⟨p, rfl⟩ := Zone.gro_of_below _ hk); clear hk) | (go_at_call 105; with_reducible refine (HF1.out _ (by repeat (first | exact Keep.refl _ | apply Keep.alloc | apply Keep.gro | apply Keep.drew | apply Keep.drewN))).mono ?_; rintro e w' ⟨rfl, hk⟩; (first | obtain ⟨p, rfl⟩ := Zone.gro_of_gro _ _ hk | obtain ⟨p, rfl⟩ := Zone.gro_of_below _ hk); clear hk) | (go_at_call 105; with_reducible refine (HF2.out _ (by repeat (first | exact Keep.refl _ | apply Keep.alloc | apply Keep.gro | apply Keep.drew | apply Keep.drewN))).mono ?_; rintro e w' ⟨rfl, hk⟩; (first | obtain ⟨p, rfl⟩ := Zone.gro_of_gro _ _ hk | obtain ⟨p, rfl⟩ := Zone.gro_of_below _ hk); clear hk))
            go_ret
            exact ⟨ret_bool (pB_no fun f => by have := HQ3.out; rw [pB_yes (HI.out.1 f).2.2.2.1] at this; cases this).symm, (by repeat (first | exact Keep.refl _ | apply Keep.alloc | apply Keep.gro | apply Keep.drew | apply Keep.drewN))⟩
          · go_enter Tryz.func53, Tryz.ntmps53
            go_wp2_with (first | (go_at_call 104; refine (HM.out _ (by repeat (first | exact Keep.refl _ | apply Keep.alloc | apply Keep.gro | apply Keep.drew | apply Keep.drewN))).mono ?_; rintro e w' ⟨rfl, hk⟩; (first | obtain ⟨p, rfl⟩ := Zone.gro_of_gro _ _ hk | obtain ⟨p, rfl⟩ := Zone.gro_of_below _ hk); clear hk) | (go_at_call 37; refine (HD.out _ (by repeat (first | exact Keep.refl _ | apply Keep.alloc | apply Keep.gro | apply Keep.drew | apply Keep.drewN)) _).mono ?_; rintro e w' ⟨rfl, hk⟩; (first | obtain ⟨p, rfl⟩ := Zone.gro_of_gro _ _ hk | obtain ⟨p, rfl⟩ := Zone.gro_of_below _ hk); clear hk) | (go_at_call 105; with_reducible refine (HF1.out _ (by repeat (first | exact Keep.refl _ | apply Keep.alloc | apply Keep.gro | apply Keep.drew | apply Keep.drewN))).mono ?_; rintro e w' ⟨rfl, hk⟩; (first | obtain ⟨p, rfl⟩ := Zone.gro_of_gro _ _ hk | obtain ⟨p, rfl⟩ := Zone.gro_of_below _ hk); clear hk) | (go_at_call 105; with_reducible refine (HF2.out _ (by repeat (first | exact Keep.refl _ | apply Keep.alloc | apply Keep.gro | apply Keep.drew | apply Keep.drewN))).mono ?_; rintro e w' ⟨rfl, hk⟩; (first | obtain ⟨p, rfl⟩ := Zone.gro_of_gro _ _ hk | obtain ⟨p, rfl⟩ := Zone.gro_of_below _ hk); clear hk))
            go_ret
            exact ⟨ret_bool (pB_no fun f => by have := HQ3.out; rw [pB_yes (HI.out.1 f).2.2.2.1] at this; cases this).symm, (by repeat (first | exact Keep.refl _ | apply Keep.alloc | apply Keep.gro | apply Keep.drew | apply Keep.drewN))⟩
        · have HQ3 := Lib.hid hq3
          rcases hs' with hs1 | ⟨hs1, hs2⟩
          all_goals
            go_enter Tryz.func53, Tryz.ntmps53
            go_wp2_with (first | (go_at_call 104; refine (HM.out _ (by repeat (first | exact Keep.refl _ | apply Keep.alloc | apply Keep.gro | apply Keep.drew | apply Keep.drewN))).mono ?_; rintro e w' ⟨rfl, hk⟩; (first | obtain ⟨p, rfl⟩ := Zone.gro_of_gro _ _ hk | obtain ⟨p, rfl⟩ := Zone.gro_of_below _ hk); clear hk) | (go_at_call 37; refine (HD.out _ (by repeat (first | exact Keep.refl _ | apply Keep.alloc | apply Keep.gro | apply Keep.drew | apply Keep.drewN)) _).mono ?_; rintro e w' ⟨rfl, hk⟩; (first | obtain ⟨p, rfl⟩ := Zone.gro_of_gro _ _ hk | obtain ⟨p, rfl⟩ := Zone.gro_of_below _ hk); clear hk) | (go_at_call 105; with_reducible refine (HF1.out _ (by repeat (first | exact Keep.refl _ | apply Keep.alloc | apply Keep.gro | apply Keep.drew | apply Keep.drewN))).mono ?_; rintro e w' ⟨rfl, hk⟩; (first | obtain ⟨p, rfl⟩ := Zone.gro_of_gro _ _ hk | obtain ⟨p, rfl⟩ := Zone.gro_of_below _ hk); clear hk) | (go_at_call 105; with_reducible refine (HF2.out _ (by repeat (first | exact Keep.refl _ | apply Keep.alloc | apply Keep.gro | apply Keep.drew | apply Keep.drewN))).mono ?_; rintro e w' ⟨rfl, hk⟩; (first | obtain ⟨p, rfl⟩ := Zone.gro_of_gro _ _ hk | obtain ⟨p, rfl⟩ := Zone.gro_of_below _ hk); clear hk))

            go_loopw [39] (fun i wr => ∃ k : Nat, k ≤ sp.length ∧ i = .int .i64 k ∧ Hid (BoxC w wr (.slice sA sp.length sc) (.int .i64 lf)) ∧ Hid (∀ j, (h : j < sp.length) → j < k → dimP cs sp[j] = true ∧ (sp.take j).any (fun x => sp[j] == x) = false)) (fun i _ => sp.length - (intOf i).toNat)
            case atStart =>
              refine ⟨0, Nat.zero_le _, rfl, BoxC.start (t := 26) (by repeat (first | exact Keep.refl _ | apply Keep.alloc | apply Keep.gro | apply Keep.drew | apply Keep.drewN)), fun j _ hj => absurd hj (Nat.not_lt_zero _)⟩
            case round =>
              obtain ⟨k, hk, rfl, HK, HR⟩ := hrel
              obtain ⟨hk0, hbs, c3, c4⟩ := HK.out
              have HK0 := Lib.hid hk0
              clear hk0
              by_cases hlt : k < sp.length
              · obtain ⟨b, off, hA, hb2, h0⟩ := sl_i64 (HS.out.keep HK0.out) k hlt
                have HC := Lib.hid (fun W (hW : Keep w W) => contI_any sA sc (sp.take k) sp[k] W ((HS.out.keep hW).cut_front k hk))
                have hlk : (sp.take k).length = k := by simp; omega
                rw [hlk] at HC
                subst hA
                cases hd : dimP cs sp[k]
                · have HX := Lib.hid hd
                  go_wp2_with (first | (go_at_call 37; refine (HD.out _ (HK0.out.trans (by repeat (first | exact Keep.refl _ | apply Keep.alloc | apply Keep.gro | apply Keep.drew | apply Keep.drewN))) _).mono ?_; rintro e w' ⟨rfl, hk⟩; (first | obtain ⟨p, rfl⟩ := Zone.gro_of_gro _ _ hk | obtain ⟨p, rfl⟩ := Zone.gro_of_below _ hk); clear hk))
                  go_ret
                  exact ⟨ret_bool (pB_no fun f => by have := HX.out; rw [((HI.out.1 f).2.2.2.2.1 k hlt).1] at this; cases this).symm, HK0.out.trans (by repeat (first | exact Keep.refl _ | apply Keep.alloc | apply Keep.gro | apply Keep.drew | apply Keep.drewN))⟩
                · have HX := Lib.hid hd
                  cases hc : (sp.take k).any fun x => sp[k] == x
                  · have HY := Lib.hid hc
                    rw [hc] at HC
                    go_wp2_with (first | (go_at_call 37; refine (HD.out _ (HK0.out.trans (by repeat (first | exact Keep.refl _ | apply Keep.alloc | apply Keep.gro | apply Keep.drew | apply Keep.drewN))) _).mono ?_; rintro e w' ⟨rfl, hk⟩; (first | obtain ⟨p, rfl⟩ := Zone.gro_of_gro _ _ hk | obtain ⟨p, rfl⟩ := Zone.gro_of_below _ hk); clear hk) | (go_at_call 106; refine (HC.out _ (HK0.out.trans (by repeat (first | exact Keep.refl _ | apply Keep.alloc | apply Keep.gro | apply Keep.drew | apply Keep.drewN)))).mono ?_; rintro e w' ⟨rfl, hk⟩; (first | obtain ⟨p, rfl⟩ := Zone.gro_of_gro _ _ hk | obtain ⟨p, rfl⟩ := Zone.gro_of_below _ hk); clear hk))
                    go_roundw
                    case rel => exact ⟨k + 1, by omega, by go_num, HK.out.next (by repeat (first | exact Keep.refl _ | apply Keep.alloc | apply Keep.gro | apply Keep.drew | apply Keep.drewN)), fun j hj hjk => by
                      by_cases e : j = k
                      · subst e; exact ⟨HX.out, HY.out⟩
                      · exact HR.out j hj (by omega)⟩
                    case measure => simp [intOf]; omega
                  · have HY := Lib.hid hc
                    rw [hc] at HC
                    go_wp2_with (first | (go_at_call 37; refine (HD.out _ (HK0.out.trans (by repeat (first | exact Keep.refl _ | apply Keep.alloc | apply Keep.gro | apply Keep.drew | apply Keep.drewN))) _).mono ?_; rintro e w' ⟨rfl, hk⟩; (first | obtain ⟨p, rfl⟩ := Zone.gro_of_gro _ _ hk | obtain ⟨p, rfl⟩ := Zone.gro_of_below _ hk); clear hk) | (go_at_call 106; refine (HC.out _ (HK0.out.trans (by repeat (first | exact Keep.refl _ | apply Keep.alloc | apply Keep.gro | apply Keep.drew | apply Keep.drewN)))).mono ?_; rintro e w' ⟨rfl, hk⟩; (first | obtain ⟨p, rfl⟩ := Zone.gro_of_gro _ _ hk | obtain ⟨p, rfl⟩ := Zone.gro_of_below _ hk); clear hk))
                    go_ret
                    exact ⟨ret_bool (pB_no fun f => by have := HY.out; rw [((HI.out.1 f).2.2.2.2.1 k hlt).2] at this; cases this).symm, HK0.out.trans (by repeat (first | exact Keep.refl _ | apply Keep.alloc | apply Keep.gro | apply Keep.drew | apply Keep.drewN))⟩
              · have HP := Lib.hid (show Fits cs ⟨s0, iA, ic, iv, rA, rc, rv, sA, sc, sp, lf⟩ ↔ sp.length ≤ 8 ∧ 1 ≤ lf ∧ lf ≤ 1000000 from
                  ⟨fun f => (HI.out.1 f).2.2.2.2.2, fun h => HI.out.2 ⟨pB_iff.1 HQ.out, HSO.out, pB_iff.1 HQ2.out, pB_iff.1 HQ3.out, fun j hj => HR.out j hj (by omega), h⟩⟩)
                go_wp2
                all_goals go_ret
                all_goals refine ⟨?_, HK0.out⟩
                all_goals (have HG := HP.out; simp only [hs1] at HG ⊢; clear HP HI)
                all_goals first
                | exact ret_bool (pB_no fun f => by have := HG.1 f; omega).symm
                | (refine ret_bool ?_
                   rw [Bool.eq_iff_iff, pB_iff, HG, decide_eq_true_iff]
                   omega)
    · have hs1 : s0 ≠ -1 := fun e => hs (.inl e)
      have hs2 : dimP cs s0 = false := by simpa using fun e => hs (.inr e)
      have HX := Lib.hid hs
      clear hs
      go_enter Tryz.func53, Tryz.ntmps53
      go_wp2_with (first | (go_at_call 104; refine (HM.out _ (by repeat (first | exact Keep.refl _ | apply Keep.alloc | apply Keep.gro | apply Keep.drew | apply Keep.drewN))).mono ?_; rintro e w' ⟨rfl, hk⟩; (first | obtain ⟨p, rfl⟩ := Zone.gro_of_gro _ _ hk | obtain ⟨p, rfl⟩ := Zone.gro_of_below _ hk); clear hk) | (go_at_call 37; refine (HD.out _ (by repeat (first | exact Keep.refl _ | apply Keep.alloc | apply Keep.gro | apply Keep.drew | apply Keep.drewN)) _).mono ?_; rintro e w' ⟨rfl, hk⟩; (first | obtain ⟨p, rfl⟩ := Zone.gro_of_gro _ _ hk | obtain ⟨p, rfl⟩ := Zone.gro_of_below _ hk); clear hk))
      go_ret
      exact ⟨ret_bool (pB_no fun f => HX.out (HI.out.1 f).2.1).symm, (by repeat (first | exact Keep.refl _ | apply Keep.alloc | apply Keep.gro | apply Keep.drew | apply Keep.drewN))⟩
end Go.Proofs.YtmcaednlilhnoaaGreatDoor
namespace Go.Proofs.YtmcaednlilhnoaaGreatDoor
open Go.RowKit Go.Zone Go.Shelf
attribute [local go_sem] Zone.zone Zone.stepZ Zone.fill Zone.lookFs Zone.goes Zone.goesUpon Zone.dropFs Zone.cell_gro Zone.frozen_gro Zone.size_gro Zone.lt_add Zone.drew_gro Zone.tape_gro Zone.keep_refl
attribute [local go_sem] Zone.lt_add2 Zone.lt_add3 Zone.lt_add4 Zone.lt_add5 Zone.lt_add6 Zone.lt_add7 Zone.lt_add8 Zone.lt_add9 Zone.lt_add10 Zone.lt_add11 Zone.lt_add12
theorem rhas_any (A : Option Addr) (c : Nat) (fs : List Bool) (i : Int) (w : World) (h : Sl w 1 flV A c fs) :
    Calls Tryz.prog 22 #[.slice A fs.length c, .int .i64 i] w fun e w' => e = .returned (.bool (hasP fs i)) ∧ Keep w w' := by
  have hl := sl_len h
  cases i with
  | ofNat k =>
    by_cases hk : k < fs.length
    · obtain ⟨b, off, rfl, hb, h0⟩ := sl_fl h k hk
      have HD := Lib.hid (show hasP fs (Int.ofNat k) = fs[k] by simp [hasP, hk])
      clear h
      go_enter Tryz.func22, Tryz.ntmps22
      go_wp2
      go_ret
      exact ⟨by rw [HD.out]; rfl, (by repeat (first | exact Keep.refl _ | apply Keep.alloc | apply Keep.gro | apply Keep.drew | apply Keep.drewN))⟩
    · have HD := Lib.hid (show hasP fs (Int.ofNat k) = false by simp [hasP, Nat.le_of_not_lt hk])
      clear h
      go_enter Tryz.func22, Tryz.ntmps22
      go_wp2
      go_ret
      exact ⟨by rw [HD.out]; rfl, (by repeat (first | exact Keep.refl _ | apply Keep.alloc | apply Keep.gro | apply Keep.drew | apply Keep.drewN))⟩
  | negSucc k =>
    have HD := Lib.hid (show hasP fs (Int.negSucc k) = false by simp [hasP])
    clear h
    go_enter Tryz.func22, Tryz.ntmps22
    go_wp2
    go_ret
    exact ⟨by rw [HD.out]; rfl, (by repeat (first | exact Keep.refl _ | apply Keep.alloc | apply Keep.gro | apply Keep.drew | apply Keep.drewN))⟩
end Go.Proofs.YtmcaednlilhnoaaGreatDoor
namespace Go.Proofs.YtmcaednlilhnoaaGreatDoor
open Go.RowKit Go.Zone Go.Shelf
attribute [local go_sem] Zone.zone Zone.stepZ Zone.fill Zone.lookFs Zone.goes Zone.goesUpon Zone.dropFs Zone.cell_gro Zone.frozen_gro Zone.size_gro Zone.lt_add Zone.drew_gro Zone.tape_gro Zone.keep_refl
attribute [local go_sem] Zone.lt_add2 Zone.lt_add3 Zone.lt_add4 Zone.lt_add5 Zone.lt_add6 Zone.lt_add7 Zone.lt_add8 Zone.lt_add9 Zone.lt_add10 Zone.lt_add11 Zone.lt_add12
/-- what a call boxed first -/
structure BoxA (w W : World) (vs : List Value) : Prop where
  keep : Keep w W
  lt : w.heap.size < W.heap.size
  at_ : ∀ j u, vs[j]? = some u → W.cell? ⟨w.heap.size, j, none⟩ = some u
theorem BoxA.start {w W : World} {vs : List Value} {t : TypeId} (hW : Keep (w.alloc (.cells vs.toArray t)) W) : BoxA w W vs :=
  ⟨(Keep.alloc (Keep.refl w) _).trans hW, Nat.lt_of_lt_of_le (by simp) hW.size, fun j u h => (hW.cell (p := ⟨w.heap.size, j, none⟩) (by simp [go_sem])).trans (by rw [← h]; simp [go_sem])⟩
theorem BoxA.next {w W W' : World} {vs : List Value} (h : BoxA w W vs) (hk : Keep W W') : BoxA w W' vs :=
  ⟨h.keep.trans hk, Nat.lt_of_lt_of_le h.lt hk.size, fun j u hu => (hk.cell (p := ⟨w.heap.size, j, none⟩) h.lt).trans (h.at_ j u hu)⟩
theorem hasP_nat (f : List Bool) (i : Nat) : hasP f (i : Int) = f.getD i false := rfl
theorem flags_iff (l : List Col) (f : List Bool) (h : f.length = 0 ∨ f.length = l.length) : FlagP l f ↔ ∀ i, i < l.length → hasP f (i : Int) = true → dimP l (i : Int) = true :=
  ⟨fun m i _ hi => m.ok i hi, fun m => ⟨h, fun i hi => by
    by_cases hl : i < l.length
    · exact m i hl hi
    · have : f.length ≤ i := by omega
      simp [this] at hi⟩⟩
theorem fits_iff2 (l : List Col) (c : Cfg) : Fits l c ↔ (MayP l ∧ (c.sort = -1 ∨ dimP l c.sort = true)) ∧ ((c.inv.length = 0 ∨ c.inv.length = l.length) ∧ (c.rng.length = 0 ∨ c.rng.length = l.length)) ∧
    (∀ i, i < l.length → (hasP c.inv (i : Int) = true ∨ hasP c.rng (i : Int) = true) → dimP l (i : Int) = true) ∧ (∀ j, (h : j < c.split.length) → dimP l c.split[j] = true ∧ ∀ k, (hk : k < j) → c.split[k]'(by omega) ≠ c.split[j]) ∧ c.split.length ≤ 8 ∧ 1 ≤ c.leaf ∧ c.leaf ≤ 1000000 := by
  constructor
  · intro f
    exact ⟨⟨f.may, f.sort⟩, ⟨f.inv.len, f.rng.len⟩, fun i _ hi => hi.elim (f.inv.ok i) (f.rng.ok i), fun j h => ⟨f.split j h, fun k hk => f.one j k h hk⟩, f.few, f.lo, f.hi⟩
  · rintro ⟨⟨h1, h2⟩, ⟨h3, h4⟩, h5, h6, h7, h8, h9⟩
    exact ⟨h1, h2, (flags_iff l _ h3).2 fun i hi hx => h5 i hi (.inl hx), (flags_iff l _ h4).2 fun i hi hx => h5 i hi (.inr hx), fun j h => (h6 j h).1, fun j k h hk => (h6 j h).2 k hk, h7, h8, h9⟩
def SomeB (e : Ending) : Prop := ∃ g, e = .returned (.bool g)
end Go.Proofs.YtmcaednlilhnoaaGreatDoor
