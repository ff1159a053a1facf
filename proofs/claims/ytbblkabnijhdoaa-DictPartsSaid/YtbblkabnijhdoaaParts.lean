
/- The walk of the law DictParts: it answers true. -/
import Derived.WalkKit
import Derived.Lib.Hide
import Derived.WalkSpells
import Derived.WalkLawsBesides
import Derived.BigQuiet
import Derived.Shelf.Abstract
import Derived.Test.YtbblkabnijhdoaaAsks
namespace Go.Proofs.Ytbblkabnijhdoaa
open Go.RowKit Go.Zone Go.Shelf
attribute [local go_sem] Zone.zone Zone.stepZ Zone.fill Zone.lookFs Zone.goes Zone.goesUpon Zone.dropFs Zone.cell_gro Zone.frozen_gro Zone.size_gro Zone.lt_add Zone.drew_gro Zone.tape_gro Zone.keep_refl
/-- what the intervals of the comparisons are, where they are -/
theorem iv_good (kind : Int) (ys : List Val) (v : Val) (hk : kind ≠ 0) (hm : mayV v = true) (he : v.k = kind) :
    dIval kind ys 0 v = (0, 0, 2) ∧ dIval kind ys 1 v = ((lower ys v : Int), (behindV ys v : Int), (0 : Int)) ∧ dIval kind ys 2 v = (0, 0, 2) ∧ dIval kind ys 3 v = ((0 : Int), (lower ys v : Int), (0 : Int)) ∧ dIval kind ys 4 v = ((0 : Int), (behindV ys v : Int), (0 : Int)) ∧
    dIval kind ys 5 v = ((behindV ys v : Int), (ys.length : Int), (0 : Int)) ∧ dIval kind ys 6 v = ((lower ys v : Int), (ys.length : Int), (0 : Int)) := by
  have hbe : (if hits ys v then (lower ys v : Int) + 1 else (lower ys v : Int)) = (behindV ys v : Int) := by unfold behindV; split <;> simp
  have hkk : (v.k != kind) = false := by simp [he]
  simp only [dIval, if_neg hk, hbe, badCmp, hm, hkk]
  simp
theorem iv_bad (kind : Int) (ys : List Val) (v : Val) (hk : kind ≠ 0) (h : ¬ (mayV v = true ∧ v.k = kind)) : (dIval kind ys 0 v).2.2 = 2 ∧ (dIval kind ys 1 v).2.2 ≠ 0 := by
  constructor
  · simp [dIval, hk, badCmp]
  · by_cases hm : mayV v = true
    · have : (v.k != kind) = true := by simp; exact fun e => h ⟨hm, e⟩
      simp [dIval, hk, badCmp, hm, this]
    · simp [dIval, hk, badCmp, hm]
theorem behind_one (ys : List Val) (v : Val) : behindV ys v ≤ lower ys v + 1 := by unfold behindV; split <;> omega

theorem parts_pack (kind : Int) (ys : List Val) (v : Val) (hk : kind ≠ 0) (hs : ys.Pairwise LtV) : ∃ (LO HI ER : Nat → Int) (bad : Prop) (l m : Nat), (∀ c : Nat, dIval kind ys c v = (LO c, HI c, ER c)) ∧
    (∀ k : Nat, k < 7 → ER k = 0 ∨ k = 0 ∨ k = 2 ∨ bad ∧ 1 ≤ k) ∧ (bad → ER 1 ≠ 0) ∧
    (¬ bad → LO 3 = 0 ∧ HI 3 = l ∧ LO 1 = l ∧ HI 1 = m ∧ LO 5 = m ∧ HI 5 = ys.length ∧ LO 4 = 0 ∧ HI 4 = m ∧ LO 6 = l ∧ HI 6 = ys.length) ∧ l ≤ m ∧ m ≤ l + 1 ∧ m ≤ ys.length := by
  refine ⟨fun c => (dIval kind ys (c : Int) v).1, fun c => (dIval kind ys (c : Int) v).2.1, fun c => (dIval kind ys (c : Int) v).2.2, ¬ (mayV v = true ∧ v.k = kind), lower ys v, behindV ys v, fun c => rfl, ?_, fun h => (iv_bad kind ys v hk h).2, ?_, (behind_le hs).1, behind_one ys v, (behind_le hs).2⟩
  · intro k hk7
    by_cases hh : mayV v = true ∧ v.k = kind
    · obtain ⟨g0, g1, g2, g3, g4, g5, g6⟩ := iv_good kind ys v hk hh.1 hh.2
      match k, hk7 with
      | 0, _ => exact .inr (.inl rfl)
      | 1, _ => exact .inl (by show (dIval kind ys 1 v).2.2 = 0; rw [g1])
      | 2, _ => exact .inr (.inr (.inl rfl))
      | 3, _ => exact .inl (by show (dIval kind ys 3 v).2.2 = 0; rw [g3])
      | 4, _ => exact .inl (by show (dIval kind ys 4 v).2.2 = 0; rw [g4])
      | 5, _ => exact .inl (by show (dIval kind ys 5 v).2.2 = 0; rw [g5])
      | 6, _ => exact .inl (by show (dIval kind ys 6 v).2.2 = 0; rw [g6])
    · by_cases h0 : k = 0
      · exact .inr (.inl h0)
      · exact .inr (.inr (.inr ⟨hh, by omega⟩))
  · intro hh
    have hh' : mayV v = true ∧ v.k = kind := Classical.not_not.1 hh
    obtain ⟨g0, g1, g2, g3, g4, g5, g6⟩ := iv_good kind ys v hk hh'.1 hh'.2
    refine ⟨?_, ?_, ?_, ?_, ?_, ?_, ?_, ?_, ?_, ?_⟩
    · show (dIval kind ys 3 v).1 = 0; rw [g3]
    · show (dIval kind ys 3 v).2.1 = _; rw [g3]
    · show (dIval kind ys 1 v).1 = _; rw [g1]
    · show (dIval kind ys 1 v).2.1 = _; rw [g1]
    · show (dIval kind ys 5 v).1 = _; rw [g5]
    · show (dIval kind ys 5 v).2.1 = _; rw [g5]
    · show (dIval kind ys 4 v).1 = _; rw [g4]
    · show (dIval kind ys 4 v).2.1 = _; rw [g4]
    · show (dIval kind ys 6 v).1 = _; rw [g6]
    · show (dIval kind ys 6 v).2.1 = _; rw [g6]
theorem parts_step {w w2 wr : World} {LO HI : Nat → Int} {k : Nat} {vk vn : Int} {vs : ByteArray} (p : GB) (hK : Keep w2 wr) (_h0 : w.heap.size ≤ w2.heap.size) (hz : w2.heap.size + 2 ≤ wr.heap.size) (hs : w.heap.size < w2.heap.size) (hk : k < 7)
    (hb : wr.cell? ⟨w.heap.size, 0, none⟩ = some (.int .u8 vk) ∧ wr.cell? ⟨w.heap.size, 1, none⟩ = some (.int .i64 vn) ∧ wr.cell? ⟨w.heap.size, 2, none⟩ = some (.string vs))
    (hLO : ∀ j : Nat, j < 7 → wr.cell? ⟨w2.heap.size, j, none⟩ = some (.int .i64 (if j < k then LO j else 0))) (hHI : ∀ j : Nat, j < 7 → wr.cell? ⟨w2.heap.size + 1, j, none⟩ = some (.int .i64 (if j < k then HI j else 0)))
    (hF0 : ∀ j : Nat, wr.frozen? ⟨w2.heap.size, j, none⟩ = false) (hF1 : ∀ j : Nat, wr.frozen? ⟨w2.heap.size + 1, j, none⟩ = false) {W : World} (hW : W = ((wr.gro p).setCell ⟨w2.heap.size, k, none⟩ (.int .i64 (LO k))).setCell ⟨w2.heap.size + 1, k, none⟩ (.int .i64 (HI k))) :
    Keep w2 W ∧ w2.heap.size + 2 ≤ W.heap.size ∧ (W.cell? ⟨w.heap.size, 0, none⟩ = some (.int .u8 vk) ∧ W.cell? ⟨w.heap.size, 1, none⟩ = some (.int .i64 vn) ∧ W.cell? ⟨w.heap.size, 2, none⟩ = some (.string vs)) ∧
    (∀ j : Nat, j < 7 → W.cell? ⟨w2.heap.size, j, none⟩ = some (.int .i64 (if j < k + 1 then LO j else 0))) ∧ (∀ j : Nat, j < 7 → W.cell? ⟨w2.heap.size + 1, j, none⟩ = some (.int .i64 (if j < k + 1 then HI j else 0))) ∧
    (∀ j : Nat, W.frozen? ⟨w2.heap.size, j, none⟩ = false) ∧ (∀ j : Nat, W.frozen? ⟨w2.heap.size + 1, j, none⟩ = false) := by
  subst hW
  have hbox : ∀ j u, wr.cell? ⟨w.heap.size, j, none⟩ = some u → (((wr.gro p).setCell ⟨w2.heap.size, k, none⟩ (.int .i64 (LO k))).setCell ⟨w2.heap.size + 1, k, none⟩ (.int .i64 (HI k))).cell? ⟨w.heap.size, j, none⟩ = some u := fun j u hu => by
    rw [World.cell?_setCell_other, World.cell?_setCell_other, cell_gro _ _ _ (by show w.heap.size < _; omega)]
    · exact hu
    · intro e; injection e; omega
    · intro e; injection e; omega
  refine ⟨Keep.setCell (Keep.setCell (hK.gro p) (Nat.le_refl _) _) (Nat.le_succ _) _, by simp [size_gro]; omega, ⟨hbox _ _ hb.1, hbox _ _ hb.2.1, hbox _ _ hb.2.2⟩, fun j hj => ?_, fun j hj => ?_, fun j => ?_, fun j => ?_⟩
  · rw [World.cell?_setCell_other _ _ _ _ (by intro e; injection e; omega)]
    have hc := hLO j hj
    by_cases e : j = k
    · subst e
      rw [World.cell?_setCell_same _ _ _ ((cell_gro _ _ _ (by show w2.heap.size < _; omega)).trans hc), if_pos (by omega)]
    · rw [World.cell?_setCell_other _ _ _ _ (by intro e'; injection e' with _ e''; exact e e''.symm), cell_gro _ _ _ (by show w2.heap.size < _; omega), hc]
      by_cases h1 : j < k
      · rw [if_pos h1, if_pos (by omega)]
      · rw [if_neg h1, if_neg (by omega)]
  · have hc := hHI j hj
    have hc2 : ((wr.gro p).setCell ⟨w2.heap.size, k, none⟩ (.int .i64 (LO k))).cell? ⟨w2.heap.size + 1, j, none⟩ = some (.int .i64 (if j < k then HI j else 0)) := by
      rw [World.cell?_setCell_other _ _ _ _ (by intro e; injection e; omega), cell_gro _ _ _ (by show w2.heap.size + 1 < _; omega), hc]
    by_cases e : j = k
    · subst e
      rw [World.cell?_setCell_same _ _ _ hc2, if_pos (by omega)]
    · rw [World.cell?_setCell_other _ _ _ _ (by intro e'; injection e' with _ e''; exact e e''.symm), hc2]
      by_cases h1 : j < k
      · rw [if_pos h1, if_pos (by omega)]
      · rw [if_neg h1, if_neg (by omega)]
  · rw [World.frozen?_setCell, World.frozen?_setCell, frozen_gro _ _ _ (by show w2.heap.size < _; omega)]
    exact hF0 j
  · rw [World.frozen?_setCell, World.frozen?_setCell, frozen_gro _ _ _ (by show w2.heap.size + 1 < _; omega)]
    exact hF1 j
set_option maxRecDepth 100000 in
set_option maxHeartbeats 4000000 in
theorem parts_any (kind : Int) (A : Option Addr) (c : Nat) (xs : List Val) (v : Val) (w : World) (h : Sl w 3 Val.cells A c xs) :
    Calls Try.prog 4 #[.int .u8 kind, .slice A xs.length c, v.v] w fun e w' => e = .returned (.bool true) ∧ Keep w w' := by
  have hgr := fun W (hW : Keep w W) => great_any A c xs 200 W (h.keep hW)
  have KN := Lib.hid (fun W => known_any W)
  cases hg : greatV xs 200 with
  | true =>
    rw [hg] at hgr
    have HG := Lib.hid hgr; clear hgr h hg
    obtain ⟨vk, vn, vs⟩ := v
    go_enter Try.func4, Try.ntmps4
    go_wp2_with (first | (go_at_call 9; refine (HG.out _ (by repeat (first | exact Keep.refl _ | apply Keep.alloc | apply Keep.gro | apply Keep.drew | apply Keep.drewN))).mono ?_; rintro e w' ⟨rfl, rfl⟩) | (go_at_call 10; refine (KN.out _).mono ?_; rintro e w' ⟨rfl, hk⟩; (first | obtain ⟨p, rfl⟩ := Zone.gro_of_gro _ _ hk | obtain ⟨p, rfl⟩ := Zone.gro_of_below _ hk); clear hk))
    go_ret
    exact ⟨rfl, (by repeat (first | exact Keep.refl _ | apply Keep.alloc | apply Keep.gro | apply Keep.drew | apply Keep.drewN))⟩
  | false =>
    rw [hg] at hgr
    have HG := Lib.hid hgr; clear hgr
    have hl : xs.length ≤ 200 := by
      simp only [greatV, Bool.or_eq_false_iff, decide_eq_false_iff_not] at hg
      omega
    by_cases hlong : 70000 < (v.s.size : Int)
    · clear h hg
      obtain ⟨vk, vn, vs⟩ := v
      simp only at hlong
      go_enter Try.func4, Try.ntmps4
      go_wp2_with (first | (go_at_call 9; refine (HG.out _ (by repeat (first | exact Keep.refl _ | apply Keep.alloc | apply Keep.gro | apply Keep.drew | apply Keep.drewN))).mono ?_; rintro e w' ⟨rfl, rfl⟩) | (go_at_call 10; refine (KN.out _).mono ?_; rintro e w' ⟨rfl, hk⟩; (first | obtain ⟨p, rfl⟩ := Zone.gro_of_gro _ _ hk | obtain ⟨p, rfl⟩ := Zone.gro_of_below _ hk); clear hk))
      go_ret
      exact ⟨rfl, (by repeat (first | exact Keep.refl _ | apply Keep.alloc | apply Keep.gro | apply Keep.drew | apply Keep.drewN))⟩
    · have hof := fun W (hW : Keep w W) => of_any kind A c xs W (h.keep hW) (by omega)
      by_cases he : dErr kind xs = 0
      · have hk0 := dErr_zero he
        have hso := (dOwn_sorted xs).1
        have hyl := dOwn_len xs
        rw [he] at hof
        generalize dOwn xs = ys at hof hso hyl
        obtain ⟨LO, HI, ER, bad, l, m, hival, hround, hbad, hgood, hlm, hml, hmn⟩ := parts_pack kind ys v hk0 hso
        have HO := Lib.hid hof
        have HV := Lib.hid hival
        have HROUND := Lib.hid hround
        have HBAD := Lib.hid hbad
        have HGOOD := Lib.hid hgood
        have HSO := Lib.hid hso
        clear hof h hg hso hival hround hbad hgood
        obtain ⟨vk, vn, vs⟩ := v
        simp only at hlong
        go_enter Try.func4, Try.ntmps4
        go_wp2_with (first | (go_at_call 9; refine (HG.out _ (by repeat (first | exact Keep.refl _ | apply Keep.alloc | apply Keep.gro | apply Keep.drew | apply Keep.drewN))).mono ?_; rintro e w' ⟨rfl, rfl⟩) | (go_at_call 11; refine Zone.hold ?_))
        refine Zone.unhold ?_
        refine (HO.out _ (by repeat (first | exact Keep.refl _ | apply Keep.alloc | apply Keep.gro | apply Keep.drew | apply Keep.drewN))).mono ?_
        rintro e w2 ⟨v1, rfl, hres, hk1⟩
        rcases hres with ⟨hh, _⟩ | ⟨_, b, A1, c1, rfl, hD⟩
        · exact absurd rfl hh
        have hdi := fun (C : Nat) W (hW : Keep w2 W) => interval_at C ⟨vk, vn, vs⟩ W (hD.keep hW) HSO.out
        simp only [HV.out] at hdi
        have hlen := fun W (hW : Keep w2 W) => len_at W (hD.keep hW)
        rw [if_neg hk0] at hlen
        have HDI := Lib.hid hdi
        have HLEN := Lib.hid hlen
        clear hdi hlen hD hk0 HV HSO
        have hbox0 : w2.cell? ⟨w.heap.size, 0, none⟩ = some (.int .u8 vk) := by rw [hk1.cell (by simp [go_sem])]; simp [go_sem]
        have hbox1 : w2.cell? ⟨w.heap.size, 1, none⟩ = some (.int .i64 vn) := by rw [hk1.cell (by simp [go_sem])]; simp [go_sem]
        have hbox2 : w2.cell? ⟨w.heap.size, 2, none⟩ = some (.string vs) := by rw [hk1.cell (by simp [go_sem])]; simp [go_sem]
        have hsz2 : w.heap.size < w2.heap.size := World.block_lt_of_cell? w2 _ hbox0
        have hwk : Keep w w2 := Keep.trans (Keep.alloc (Keep.refl w) _) hk1
        have HWK := Lib.hid hwk
        clear hk1 hwk
        go_wp2
        go_loopw [37, 11, 12, 13, 14] (fun vi _ _ _ _ wr => ∃ k : Nat, k ≤ 7 ∧ vi = .int .u8 k ∧ Hid (bad → k ≤ 1) ∧ Hid (Keep w2 wr) ∧ w2.heap.size + 2 ≤ wr.heap.size ∧ wr.cell? ⟨w.heap.size, 0, none⟩ = some (.int .u8 vk) ∧ wr.cell? ⟨w.heap.size, 1, none⟩ = some (.int .i64 vn) ∧ wr.cell? ⟨w.heap.size, 2, none⟩ = some (.string vs) ∧
          Hid (∀ j : Nat, j < 7 → wr.cell? ⟨w2.heap.size, j, none⟩ = some (.int .i64 (if j < k then LO j else 0))) ∧ Hid (∀ j : Nat, j < 7 → wr.cell? ⟨w2.heap.size + 1, j, none⟩ = some (.int .i64 (if j < k then HI j else 0))) ∧ Hid (∀ j : Nat, wr.frozen? ⟨w2.heap.size, j, none⟩ = false) ∧ Hid (∀ j : Nat, wr.frozen? ⟨w2.heap.size + 1, j, none⟩ = false)) (fun vi _ _ _ _ _ => 7 - (intOf vi).toNat)
        case atStart =>
          refine ⟨0, by omega, rfl, fun _ => Nat.zero_le _, (by repeat (first | exact Keep.refl _ | apply Keep.alloc | apply Keep.gro | apply Keep.drew | apply Keep.drewN)), by simp, by simp [go_sem, *], by simp [go_sem, *], by simp [go_sem, *], fun j hj => ?_, fun j hj => ?_, fun j => by simp [go_sem], fun j => by simp [go_sem]⟩
          · match j, hj with
            | 0, _ | 1, _ | 2, _ | 3, _ | 4, _ | 5, _ | 6, _ => simp [go_sem]
          · match j, hj with
            | 0, _ | 1, _ | 2, _ | 3, _ | 4, _ | 5, _ | 6, _ => simp [go_sem]
        case round =>
          obtain ⟨k, hk, rfl, HB, HK, hz, b0, b1, b2, HLO, HHI, HF0, HF1⟩ := hrel
          by_cases hlt : k < 7
          · have l0 := HLO.out k hlt
            have l1 := HHI.out k hlt
            simp only [Nat.lt_irrefl, if_false] at l0 l1
            have f0 := HF0.out k
            have z0 : w.heap.size < wr.heap.size := by omega
            have z1 : w2.heap.size < wr.heap.size := by omega
            have z2 : w2.heap.size + 1 < wr.heap.size := by omega
            have f1 := HF1.out k
            have HSTEP := Lib.hid (fun (p : GB) => parts_step (LO := LO) (HI := HI) (k := k) p HK.out HWK.out.size hz hsz2 hlt ⟨b0, b1, b2⟩ HLO.out HHI.out HF0.out HF1.out rfl)
            cases he0 : decide (ER k = 0)
            · have he1 : ¬ ER k = 0 := by simpa using he0
              rcases HROUND.out k hlt with hh | hh | hh | hh
              · exact absurd hh he1
              · subst hh
                have hdi := HDI.out 0
                generalize ER 0 = er at hdi he1
                have HD2 := Lib.hid hdi
                clear hdi he0
                simp only [Int.natCast_zero] at *
                go_wp2_with (go_at_call 13; refine (HD2.out _ (by repeat (first | exact HK.out | apply Keep.gro | apply Keep.drew))).mono ?_; rintro e w' ⟨rfl, hk⟩; (first | obtain ⟨p, rfl⟩ := Zone.gro_of_gro _ _ hk | obtain ⟨p, rfl⟩ := Zone.gro_of_below _ hk); clear hk)
                go_roundw
                case rel =>
                  obtain ⟨q0, q1, ⟨q2, q3, q4⟩, q5, q6, q7, q8⟩ := HSTEP.out p
                  exact ⟨1, by omega, rfl, fun _ => Nat.le_refl 1, q0, q1, q2, q3, q4, q5, q6, q7, q8⟩
                case measure => simp [intOf]
              · subst hh
                have hnb : ¬ bad := fun hb => by have := HB.out hb; omega
                have hdi := HDI.out 2
                generalize ER 2 = er at hdi he1
                have HD2 := Lib.hid hdi
                clear hdi he0
                go_wp2_with (go_at_call 13; refine (HD2.out _ (by repeat (first | exact HK.out | apply Keep.gro | apply Keep.drew))).mono ?_; rintro e w' ⟨rfl, hk⟩; (first | obtain ⟨p, rfl⟩ := Zone.gro_of_gro _ _ hk | obtain ⟨p, rfl⟩ := Zone.gro_of_below _ hk); clear hk)
                go_roundw
                case rel =>
                  obtain ⟨q0, q1, ⟨q2, q3, q4⟩, q5, q6, q7, q8⟩ := HSTEP.out p
                  exact ⟨3, by omega, rfl, fun hb => absurd hb hnb, q0, q1, q2, q3, q4, q5, q6, q7, q8⟩
                case measure => simp [intOf]
              · have hk1 : k = 1 := by have := HB.out hh.1; omega
                subst hk1
                have hdi := HDI.out 1
                generalize ER 1 = er at hdi he1
                have HD2 := Lib.hid hdi
                clear hdi he0 HSTEP
                go_wp2_with (first | (go_at_call 13; refine (HD2.out _ (by repeat (first | exact HK.out | apply Keep.gro | apply Keep.drew))).mono ?_; rintro e w' ⟨rfl, hk⟩; (first | obtain ⟨p, rfl⟩ := Zone.gro_of_gro _ _ hk | obtain ⟨p, rfl⟩ := Zone.gro_of_below _ hk); clear hk) | (go_at_call 10; refine (KN.out _).mono ?_; rintro e w' ⟨rfl, hk⟩; (first | obtain ⟨p, rfl⟩ := Zone.gro_of_gro _ _ hk | obtain ⟨p, rfl⟩ := Zone.gro_of_below _ hk); clear hk))
                go_ret
                exact ⟨rfl, by repeat (first | exact HWK.out.trans HK.out | apply Keep.gro | apply Keep.drew)⟩
            · have he1 : ER k = 0 := by simpa using he0
              have hdi := HDI.out k
              rw [he1] at hdi
              have HD2 := Lib.hid hdi
              clear hdi
              have HB2 := Lib.hid (show bad → k + 1 ≤ 1 from fun hb => by
                have h1 := HB.out hb
                rcases Nat.lt_or_ge k 1 with h2 | h2
                · omega
                · have h3 : k = 1 := by omega
                  subst h3
                  exact absurd he1 (HBAD.out hb))
              go_wp2_with (go_at_call 13; refine (HD2.out _ (by repeat (first | exact HK.out | apply Keep.gro | apply Keep.drew))).mono ?_; rintro e w' ⟨rfl, hk⟩; (first | obtain ⟨p, rfl⟩ := Zone.gro_of_gro _ _ hk | obtain ⟨p, rfl⟩ := Zone.gro_of_below _ hk); clear hk)
              go_roundw
              case rel =>
                obtain ⟨q0, q1, ⟨q2, q3, q4⟩, q5, q6, q7, q8⟩ := HSTEP.out p
                exact ⟨k + 1, by omega, by go_num, HB2.out, q0, q1, q2, q3, q4, q5, q6, q7, q8⟩
              case measure => simp [intOf]; omega
          · have hk7 : k = 7 := by omega
            subst hk7
            have hnb : ¬ bad := fun hb => by have := HB.out hb; omega
            obtain ⟨g1, g2, g3, g4, g5, g6, g7, g8, g9, g10⟩ := HGOOD.out hnb
            have l3 := HLO.out 3 (by omega)
            have l1 := HLO.out 1 (by omega)
            have l5 := HLO.out 5 (by omega)
            have l4 := HLO.out 4 (by omega)
            have l6 := HLO.out 6 (by omega)
            have h3 := HHI.out 3 (by omega)
            have h1 := HHI.out 1 (by omega)
            have h5 := HHI.out 5 (by omega)
            have h4 := HHI.out 4 (by omega)
            have h6 := HHI.out 6 (by omega)
            rw [if_pos (by omega), g1] at l3
            rw [if_pos (by omega), g3] at l1
            rw [if_pos (by omega), g5] at l5
            rw [if_pos (by omega), g7] at l4
            rw [if_pos (by omega), g9] at l6
            rw [if_pos (by omega), g2] at h3
            rw [if_pos (by omega), g4] at h1
            rw [if_pos (by omega), g6] at h5
            rw [if_pos (by omega), g8] at h4
            rw [if_pos (by omega), g10] at h6
            have z1 : w2.heap.size < wr.heap.size := by omega
            have z2 : w2.heap.size + 1 < wr.heap.size := by omega
            have hw0 : IntKind.i64.wrap ((m : Int) - (l : Int)) = (m : Int) - l := by rw [IntWalk.i64_in _ ⟨by omega, by omega⟩]
            have hle : ((m : Int) - (l : Int) ≤ 1) := by omega
            clear g1 g2 g3 g4 g5 g6 g7 g8 g9 g10 HGOOD HBAD HROUND HLO HHI HF0 HF1
            generalize ys.length = n at *
            go_wp2
            first | refine Zone.wp_region_all_gro (by kernel_rfl) (by kernel_rfl) ?_ | refine Zone.wp_region_all (by kernel_rfl) (by kernel_rfl) ?_
            repeat
              refine Zone.wpZ_step (fun K hK => ?_)
              go_simp
              first
              | (refine hK _ _ ?_; clear hK K)
              | (apply Exists.intro
                 refine ⟨fun p => ?_, hK _ _ ?_⟩
                 ((first | (go_at_call 16; exact Zone.zs (HLEN.out _ (by repeat (first | exact HK.out | apply Keep.gro | apply Keep.drew)))) | (go_at_call 10; exact Zone.zc (KN.out _))))
                 clear hK K)
            refine Zone.wpZ_nil ?_
            intro p
            simp only [Zone.fill]
            go_wp2
            go_ret
            exact ⟨rfl, by repeat (first | exact HWK.out.trans HK.out | apply Keep.gro | apply Keep.drew)⟩
      · generalize dErr kind xs = er at hof he
        have HO := Lib.hid hof
        clear hof h hg
        obtain ⟨vk, vn, vs⟩ := v
        simp only at hlong
        go_enter Try.func4, Try.ntmps4
        go_wp2_with (first | (go_at_call 9; refine (HG.out _ (by repeat (first | exact Keep.refl _ | apply Keep.alloc | apply Keep.gro | apply Keep.drew | apply Keep.drewN))).mono ?_; rintro e w' ⟨rfl, rfl⟩) | (go_at_call 11; refine Zone.hold ?_))
        refine Zone.unhold ?_
        refine (HO.out _ (by repeat (first | exact Keep.refl _ | apply Keep.alloc | apply Keep.gro | apply Keep.drew | apply Keep.drewN))).mono ?_
        rintro e w1 ⟨v1, rfl, _, hk1⟩
        obtain ⟨p1, rfl⟩ := Zone.gro_of_below _ hk1
        clear hk1
        go_wp2_with (go_at_call 10; refine (KN.out _).mono ?_; rintro e w' ⟨rfl, hk⟩; (first | obtain ⟨p, rfl⟩ := Zone.gro_of_gro _ _ hk | obtain ⟨p, rfl⟩ := Zone.gro_of_below _ hk); clear hk)
        go_ret
        exact ⟨rfl, (by repeat (first | exact Keep.refl _ | apply Keep.alloc | apply Keep.gro | apply Keep.drew | apply Keep.drewN))⟩
end Go.Proofs.Ytbblkabnijhdoaa
