
/- The walk of DictOrder. -/
import Derived.WalkKit
import Derived.Lib.Hide
import Derived.WalkSpells
import Derived.WalkLawsBesides
import Derived.BigQuiet
import Derived.Shelf.Abstract
import Derived.LoopN
import Derived.TacticsInMore
import Derived.LoopNIn
import Derived.LoopIn
import Derived.Test.YtbblkabnijhdoaaNone
import Derived.Test.YtbblkabnijhdoaaVRead
namespace Go.Proofs.Ytbblkabnijhdoaa
open Go.RowKit Go.Zone Go.Shelf
attribute [local go_sem] Zone.zone Zone.stepZ Zone.fill Zone.lookFs Zone.goes Zone.goesUpon Zone.dropFs Zone.cell_gro Zone.frozen_gro Zone.size_gro Zone.lt_add Zone.drew_gro Zone.tape_gro Zone.keep_refl
attribute [local go_sem] Zone.lt_add2 Zone.lt_add3 Zone.lt_add4 Zone.lt_add5 Zone.lt_add6 Zone.lt_add7 Zone.lt_add8 Zone.lt_add9 Zone.lt_add10 Zone.lt_add11 Zone.lt_add12
attribute [local go_sem] Oper.semAt_some Zone.wide_fn Zone.wide_depth Zone.wide_round Fence.inRound_fn Fence.inRound_depth Fence.inRound_round
attribute [local go_sem high] run_eq_nilfn
/-- three cells of a box are written -/
def set3 (W : World) (g : Nat) (x : Val) : World := ((W.setCell ⟨g, 0, none⟩ (.int .u8 x.k)).setCell ⟨g, 1, none⟩ (.int .i64 x.n)).setCell ⟨g, 2, none⟩ (.string x.s)
section
variable {W W' w : World} {g : Nat} {x y : Val}
theorem ne_off {g i j : Nat} (h : i ≠ j) : (⟨g, i, none⟩ : Addr) ≠ ⟨g, j, none⟩ := fun e => h (Addr.mk.inj e).2.1
theorem ne_blk {g i : Nat} {a : Addr} (h : a.block ≠ g) : (⟨g, i, none⟩ : Addr) ≠ a := fun e => h (by rw [← e])
theorem cell_ne {W : World} {a b : Addr} {v : Value} (h : a ≠ b) : (W.setCell a v).cell? b = W.cell? b := World.cell?_setCell_other _ _ _ _ h
theorem Box3.set (h : Box3 W g y) (x : Val) : Box3 (set3 W g x) g x := by
  have e1 : (W.setCell ⟨g, 0, none⟩ (.int .u8 x.k)).cell? ⟨g, 1, none⟩ = some (.int .i64 y.n) := (cell_ne (ne_off (by decide))).trans h.c1
  have e2 : ((W.setCell ⟨g, 0, none⟩ (.int .u8 x.k)).setCell ⟨g, 1, none⟩ (.int .i64 x.n)).cell? ⟨g, 2, none⟩ = some (.string y.s) := (cell_ne (ne_off (by decide))).trans ((cell_ne (ne_off (by decide))).trans h.c2)
  unfold set3
  refine ⟨(cell_ne (ne_off (by decide))).trans ((cell_ne (ne_off (by decide))).trans (World.cell?_setCell_same _ _ _ h.c0)), (cell_ne (ne_off (by decide))).trans (World.cell?_setCell_same _ _ _ e1), World.cell?_setCell_same _ _ _ e2, ?_, ?_, ?_⟩
  · rw [World.frozen?_setCell, World.frozen?_setCell, World.frozen?_setCell]; exact h.f0
  · rw [World.frozen?_setCell, World.frozen?_setCell, World.frozen?_setCell]; exact h.f1
  · rw [World.frozen?_setCell, World.frozen?_setCell, World.frozen?_setCell]; exact h.f2
theorem Box3.keep (h : Box3 W g y) (hk : Keep W W') : Box3 W' g y :=
  ⟨(hk.cell (p := ⟨g, 0, none⟩) h.lt).trans h.c0, (hk.cell (p := ⟨g, 1, none⟩) h.lt).trans h.c1, (hk.cell (p := ⟨g, 2, none⟩) h.lt).trans h.c2, (hk.frozen (p := ⟨g, 0, none⟩) h.lt).trans h.f0, (hk.frozen (p := ⟨g, 1, none⟩) h.lt).trans h.f1, (hk.frozen (p := ⟨g, 2, none⟩) h.lt).trans h.f2⟩
theorem Stable.box3 {B : Nat} (g : Nat) (y : Val) : Stable B fun W => Box3 W g y :=
  ⟨fun _ _ h hk => h.keep hk, fun W l o o' h hb hl ho => by
    have k := fun (j : Nat) (u : Value) (hu : W.cell? ⟨g, j, none⟩ = some u) => cell_kept hu (grownBy_putObj' W l o') (put_row (o' := o') hl ho)
    have f := fun (j : Nat) (u : Value) (hu : W.cell? ⟨g, j, none⟩ = some u) => frozen_kept hu (grownBy_putObj' W l o') (put_row (o' := o') hl ho)
    exact ⟨k _ _ h.c0, k _ _ h.c1, k _ _ h.c2, (f _ _ h.c0).trans h.f0, (f _ _ h.c1).trans h.f1, (f _ _ h.c2).trans h.f2⟩⟩
theorem set3_keep (h : Keep w W) (hg : w.heap.size ≤ g) : Keep w (set3 W g x) := ((h.setCell (by exact hg) _).setCell (by exact hg) _).setCell (by exact hg) _
theorem set3_cell {a : Addr} {u : Value} (h : W.cell? a = some u) (ha : a.block ≠ g) : (set3 W g x).cell? a = some u :=
  (cell_ne (ne_blk ha)).trans ((cell_ne (ne_blk ha)).trans ((cell_ne (ne_blk ha)).trans h))
theorem set3_from {B : Nat} : KeepsFrom B W (set3 W g x) := ((KeepsFrom.set _ _ _).trans (KeepsFrom.set _ _ _)).trans (KeepsFrom.set _ _ _)
end
theorem may_size {x : Val} (h : mayV x = true) : x.s.size ≤ 65535 := by
  unfold mayV at h
  split at h
  · have h0 : x.s.toList.length = 0 := by rw [List.isEmpty_iff.1 h]; rfl
    rw [Lib.toList_data] at h0
    have : x.s.size = 0 := h0
    omega
  · split at h
    · simp only [Bool.and_eq_true, decide_eq_true_eq] at h
      omega
    · cases h
theorem err_may {kind : Int} {xs : List Val} (h : dErr kind xs = 0) : ∀ x ∈ dOwn xs, x.s.size ≤ 65535 := fun x hx => by
  have hm := ((dOwn_sorted xs).2 x).1 hx
  unfold dErr at h
  split at h
  · cases h
  · split at h
    · cases h
    · rename_i h2
      refine may_size ?_
      have : xs.any noMay = false := by simpa using h2
      have := List.any_eq_false.1 this x hm
      simpa [noMay] using this
theorem err_kind {kind : Int} {xs : List Val} (h : dErr kind xs = 0) : kind = 1 ∨ kind = 2 := by
  unfold dErr at h
  split at h
  · cases h
  · rename_i h1
    simp only [badKind, Bool.not_eq_true, Bool.not_eq_false', Bool.or_eq_true, beq_iff_eq] at h1
    exact h1
/-- turned round, so many times -/
def turned (xs : List Val) : Nat → List Val
  | 0 => []
  | k + 1 => turned xs k ++ xs.reverse
theorem turned_len (xs : List Val) : ∀ k, (turned xs k).length = k * xs.length
  | 0 => by simp [turned]
  | k + 1 => by simp [turned, turned_len xs k, Nat.add_mul]
theorem turned_mem (xs : List Val) (x : Val) : x ∈ turned xs 2 ↔ x ∈ xs := by simp [turned]
theorem own_turned (xs : List Val) : dOwn (turned xs 2) = dOwn xs :=
  sorted_unique _ _ (dOwn_sorted _).1 (dOwn_sorted _).1 fun x => by rw [(dOwn_sorted _).2, (dOwn_sorted _).2, turned_mem]
theorem err_turned (kind : Int) (xs : List Val) : dErr kind (turned xs 2) = dErr kind xs := by
  unfold dErr
  rw [own_turned]
  have : (turned xs 2).any noMay = xs.any noMay := by
    rw [Bool.eq_iff_iff, List.any_eq_true, List.any_eq_true]
    constructor
    · rintro ⟨x, hx, h⟩; exact ⟨x, (turned_mem xs x).1 hx, h⟩
    · rintro ⟨x, hx, h⟩; exact ⟨x, (turned_mem xs x).2 hx, h⟩
  rw [this]
/-- the last value so far -/
def lastOf (pre : List (Nat × Val)) : Val := ((pre.getLast?).map (·.2)).getD zeroVal
theorem turned_drop (xs : List Val) (j : Nat) (h : j < xs.length) : (xs.drop j).reverse = (xs.drop (j + 1)).reverse ++ [xs[j]] := by
  rw [List.drop_eq_getElem_cons h, List.reverse_cons]
set_option maxRecDepth 100000 in
set_option maxHeartbeats 4000000 in
theorem order_any (kind : Int) (A : Option Addr) (c : Nat) (xs : List Val) (w : World) (h : Sl w 3 Val.cells A c xs) :
    Calls Try.prog 5 #[.int .u8 kind, .slice A xs.length c] w fun e w' => e = .returned (.bool true) ∧ Keep w w' := by
  have hgr := fun W (hW : Keep w W) => great_any A c xs 200 W (h.keep hW)
  have KN := Lib.hid (fun W => known_any W)
  cases hg : greatV xs 200 with
  | true =>
    rw [hg] at hgr
    have HG := Lib.hid hgr; clear hgr h hg
    refine Zone.calls_of_marks Try.func5 rfl ?_
    simp only [Try.ntmps5, List.size_toArray, List.length_cons, List.length_nil, Nat.reduceAdd, Nat.reduceSub, Array.replicate_succ, Array.replicate_zero, List.push_toArray, List.append_toArray, List.nil_append, List.cons_append]
    go_wp2_with (first | (go_at_call 9; refine (HG.out _ (by repeat (first | exact Keep.refl _ | apply Keep.alloc | apply Keep.gro | apply Keep.drew | apply Keep.drewN))).mono ?_; rintro e w' ⟨rfl, rfl⟩) | (go_at_call 10; refine (KN.out _).mono ?_; rintro e w' ⟨rfl, hk⟩; (first | obtain ⟨p, rfl⟩ := Zone.gro_of_gro _ _ hk | obtain ⟨p, rfl⟩ := Zone.gro_of_below _ hk); clear hk))
    refine postM_of_body (v := .bool true) (.inl rfl) rfl ?_ ⟨rfl, ?_⟩
    · simp [results, Try.results5, go_sem]
    · exact Keep.setCell (by repeat (first | exact Keep.refl _ | apply Keep.alloc | apply Keep.gro | apply Keep.drew | apply Keep.drewN)) (by simp) _
  | false =>
    rw [hg] at hgr
    have HG := Lib.hid hgr; clear hgr
    have hl : xs.length ≤ 200 := by
      simp only [greatV, Bool.or_eq_false_iff, decide_eq_false_iff_not] at hg
      omega
    have HS := Lib.hid h
    clear h hg
    refine Zone.calls_of_marks Try.func5 rfl ?_
    simp only [Try.ntmps5, List.size_toArray, List.length_cons, List.length_nil, Nat.reduceAdd, Nat.reduceSub, Array.replicate_succ, Array.replicate_zero, List.push_toArray, List.append_toArray, List.nil_append, List.cons_append]
    go_wp2_with (go_at_call 9; refine (HG.out _ (by repeat (first | exact Keep.refl _ | apply Keep.alloc | apply Keep.gro | apply Keep.drew | apply Keep.drewN))).mono ?_; rintro e w' ⟨rfl, rfl⟩)
    go_loopw [17, 6, 5] (fun ki _ vo wr => ∃ (k : Nat), k ≤ 2 ∧ ki = .int .i64 k ∧ Hid (Zone.Own wr (w.heap.size + 1) 24 3 Val.cells vo (turned xs k)) ∧ Hid (Keep w wr) ∧ w.heap.size < wr.heap.size ∧ wr.cell? ⟨w.heap.size, 0, none⟩ = some (.bool false) ∧ wr.frozen? ⟨w.heap.size, 0, none⟩ = false) (fun ki _ _ _ => 2 - (intOf ki).toNat)
    case atStart => exact ⟨0, by omega, rfl, Own.nil_ _ _ _ _ _, (by repeat (first | exact Keep.refl _ | apply Keep.alloc | apply Keep.gro | apply Keep.drew | apply Keep.drewN)), by simp, by simp [go_sem], by simp [go_sem]⟩
    case round =>
      obtain ⟨k, hk, rfl, HO, HK, hz, c0, f0⟩ := hrel
      by_cases hlt : k < 2
      · obtain ⟨wo, rfl⟩ : ∃ wo : World, wo = wr := ⟨_, rfl⟩
        have hkb : decide ((k : Int) < 2) = true := decide_eq_true (by omega)
        have hw1 : IntKind.i64.wrap ((xs.length : Int) - 1) = (xs.length : Int) - 1 := by rw [IntWalk.i64_in _ ⟨by omega, by omega⟩]
        go_wp2
        go_loopw [6, 5] (fun vi vo wr => ∃ (j : Nat), j ≤ xs.length ∧ vi = .int .i64 ((j : Int) - 1) ∧ Hid (Zone.Own wr (w.heap.size + 1) 24 3 Val.cells vo (turned xs k ++ (xs.drop j).reverse)) ∧ Hid (Keep w wr) ∧ w.heap.size < wr.heap.size ∧ wr.cell? ⟨w.heap.size, 0, none⟩ = some (.bool false) ∧ wr.frozen? ⟨w.heap.size, 0, none⟩ = false) (fun vi _ _ => (intOf vi + 1).toNat)
        case atStart => exact ⟨xs.length, Nat.le_refl _, rfl, by rw [List.drop_length, List.reverse_nil, List.append_nil]; exact HO, HK, hz, c0, f0⟩
        case round =>
          obtain ⟨j, hj, rfl, HO2, HK2, hz2, d0, g0⟩ := hrel
          by_cases hj0 : j = 0
          · subst hj0
            have HO3 := Lib.hid (show Zone.Own wr (w.heap.size + 1) 24 3 Val.cells _ (turned xs (k + 1)) from HO2.out)
            go_wp2
            exact ⟨⟨k + 1, by omega, by go_num, HO3, HK2, hz2, d0, g0⟩, by simp [intOf]; omega⟩
          · obtain ⟨m, rfl⟩ : ∃ m, j = m + 1 := ⟨j - 1, by omega⟩
            rw [show (((m + 1 : Nat) : Int) - 1) = (m : Int) by omega]
            obtain ⟨bx, off, rfl, hbx, e0, e1, e2⟩ := sl_val (HS.out.keep HK2.out) m (by omega)
            have HT := Lib.hid (turned_drop xs m (by omega))
            obtain ⟨y, hy⟩ : ∃ y, xs[m] = y := ⟨_, rfl⟩
            rw [hy] at HT e0 e1 e2
            have hkl : k * xs.length ≤ 400 := by have := Nat.mul_le_mul hk hl; omega
            have hm1 : (m : Int) < (xs.length : Int) := by omega
            have hm2 : (0 : Int) ≤ (m : Int) := by omega
            have hw2 : IntKind.i64.wrap ((m : Int) - 1) = (m : Int) - 1 := by rw [IntWalk.i64_in _ ⟨by omega, by omega⟩]
            obtain ⟨yk, yn, ys⟩ := y
            clear hy
            go_wp2_with (at_builtin; refine Zone.hold ?_)
            refine Zone.unhold ?_
            have HO1 := HO2.out.keep (Keep.alloc (Keep.refl _) (.cells #[.int .u8 yk, .int .i64 yn, .string ys] 24))
            refine wpList_app elt_val val_len val_one rfl (.tmp 26) (.tmp 31) rfl (ys := [⟨yk, yn, ys⟩]) HO1 rfl rfl (sl_one _ (by omega) (by omega) (val_at _ (by simp [go_sem]) (by simp [go_sem]) (by simp [go_sem]))) (by simp [turned_len]; omega) (by simp; omega) ?_
            intro v' w1 hown1 hg1 _
            have ⟨a1, a2, a3⟩ := HO1.after (w := w) hg1 (HK2.out.trans (by repeat (first | exact Keep.refl _ | apply Keep.alloc | apply Keep.gro | apply Keep.drew | apply Keep.drewN))) (Nat.le_succ _)
            have hrow : ∀ k, u5.ownBlock = some k → w.heap.size + 1 ≤ k := fun k hk => (HO1.lt k hk).1
            have gf : w1.frozen? ⟨w.heap.size, 0, none⟩ = false := by
              have hb := hg1.block w.heap.size (by simp; omega) (fun e => by have := hrow _ e.symm; omega)
              have hb3 : (wr.alloc (.cells #[.int .u8 yk, .int .i64 yn, .string ys] 24)).frozen? ⟨w.heap.size, 0, none⟩ = false := by simp [go_sem, hz2, g0]
              unfold World.frozen? at hb3 ⊢
              rw [hb]
              exact hb3
            have g1 := a3 ⟨w.heap.size, 0, none⟩ (.bool false) (by simp) (by simp [go_sem, hz2, d0])
            have HOW := Lib.hid (show Zone.Own w1 (w.heap.size + 1) 24 3 Val.cells v' (turned xs k ++ (xs.drop m).reverse) by rw [HT.out, ← List.append_assoc]; exact hown1)
            have HA1 := Lib.hid a1
            have hz3 : w.heap.size < w1.heap.size := by simp at a2; omega
            clear a1 a2 a3 hown1 hg1 HO1 hrow HT
            go_wp2
            go_roundw
            case rel => exact ⟨m, by omega, rfl, HOW, HA1, hz3, g1, gf⟩
            case measure => simp [intOf]
      · have hk2 : k = 2 := by omega
        subst hk2
        obtain ⟨A2, c2, rfl, hsl2⟩ := HO.out.sl val_len (by rw [turned_len]; omega)
        have hof1 := of_any kind A c xs wr (HS.out.keep HK.out) (by omega)
        have hof2 := fun W (hW : Keep wr W) => of_any kind A2 c2 (turned xs 2) W (hsl2.keep hW) (by rw [turned_len]; omega)
        simp only [err_turned, own_turned] at hof2
        have HM := Lib.hid (err_may (kind := kind) (xs := xs))
        have HKK := Lib.hid (err_kind (kind := kind) (xs := xs))
        have HYL := Lib.hid (show (dOwn xs).length ≤ 200 by have := dOwn_len xs; omega)
        have HSO := Lib.hid (dOwn_sorted xs).1
        generalize dErr kind xs = er at *
        generalize dOwn xs = ys at *
        have HOF1 := Lib.hid hof1
        have HOF2 := Lib.hid hof2
        clear hof1 hof2 hsl2
        go_wp2_with (go_at_call 11; refine Zone.hold ?_)
        refine Zone.unhold ?_
        refine HOF1.out.mono ?_
        rintro e w1 ⟨v1, rfl, hres1, hk1⟩
        have HR1 := Lib.hid hres1
        have HK1 := Lib.hid hk1
        clear hres1 hk1
        go_wp2_with (go_at_call 11; refine Zone.hold ?_)
        refine Zone.unhold ?_
        refine (HOF2.out _ HK1.out).mono ?_
        rintro e w2 ⟨v2, rfl, hres2, hk2⟩
        have hkk := HK1.out.trans hk2
        have hz2 : w.heap.size < w2.heap.size := Nat.lt_of_lt_of_le hz hkk.size
        have d0 := (hkk.cell (p := ⟨w.heap.size, 0, none⟩) hz).trans c0
        have g0 := (hkk.frozen (p := ⟨w.heap.size, 0, none⟩) hz).trans f0
        have HKW := Lib.hid (HK.out.trans hkk)
        by_cases her : er = 0
        · subst her
          rcases HR1.out with ⟨h0, _⟩ | ⟨_, b1, A1, e1, rfl, hat1⟩
          · exact absurd rfl h0
          rcases hres2 with ⟨h0, _⟩ | ⟨_, b2, A3, e3, rfl, hat2⟩
          · exact absurd rfl h0
          have hk12 := HKK.out rfl
          have hkr : 0 < kind ∧ kind < 256 := by omega
          have HAT1 := Lib.hid (hat1.keep hk2)
          have HAT2 := Lib.hid hat2
          obtain ⟨bs, hbs⟩ : ∃ bs, dBytes kind ys = bs := ⟨_, rfl⟩
          have hb1 := fun W (hW : Keep w2 W) => bytes_at kind W (HAT1.out.keep hW) hkr.1 hkr.2 (by have := HYL.out; omega) (fun x hx => by have := HM.out rfl x hx; omega)
          have hb2 := fun W (hW : Keep w2 W) => bytes_at kind W (HAT2.out.keep hW) hkr.1 hkr.2 (by have := HYL.out; omega) (fun x hx => by have := HM.out rfl x hx; omega)
          rw [hbs] at hb1 hb2
          have hbl : bs.length ≤ 140737488355328 := by
            have h1 := flat_vB ys 65535 (HM.out rfl)
            have h2 : ys.length * (65535 + 10) ≤ 200 * (65535 + 10) := Nat.mul_le_mul HYL.out (Nat.le_refl _)
            rw [← hbs]
            simp only [dBytes, List.length_append, List.length_cons, List.length_nil, le_len]
            omega
          have HB1 := Lib.hid hb1
          have HB2 := Lib.hid hb2
          clear hb1 hb2 hbs hkk c0 f0 hz hk2 hat1 hat2 HR1
          go_wp2
          first | refine Zone.wp_region_all_gro (by kernel_rfl) (by kernel_rfl) ?_ | refine Zone.wp_region_all (by kernel_rfl) (by kernel_rfl) ?_
          iterate 8
            refine Zone.wpZ_step (fun K hK => ?_)
            go_simp
            (refine hK _ _ ?_; clear hK K)
          refine Zone.wpZ_free 67 (fun u W => ∃ A c, u = .slice A bs.length c ∧ SlB W A c bs) rfl (fun _ _ _ hk ⟨A, c, h1, h2⟩ => ⟨A, c, h1, h2.keep hk⟩) ?_ ?_
          · intro p
            rw [Zone.lookFs_nil (by rfl)]
            simp only [Zone.fill]
            go_simp
            go_at_call 17
            refine (HB1.out _ (by repeat (first | exact Keep.refl _ | apply Keep.alloc | apply Keep.gro | apply Keep.drew | apply Keep.drewN))).mono ?_
            rintro e w5 ⟨u, rfl, hown, hk⟩
            obtain ⟨A5, c5, hv5, hsl5⟩ := hown.sl b8_len hbl
            exact ⟨u, rfl, ⟨A5, c5, hv5, hsl5⟩, hk⟩
          refine Zone.wpZ_step (fun K hK => ?_)
          refine Zone.zone_free1 (.string ⟨bs.toArray⟩) (d := 67) (by rfl) (fun p u hu => ?_) (hK _ _ ?_)
          · obtain ⟨A5, c5, rfl, hsl5⟩ := hu
            have hstr := str_of hsl5
            go_simp
          clear hK K
          refine Zone.wpZ_step (fun K hK => ?_)
          unfold Zone.zone Zone.stepZ
          rw [Zone.lookFs_nil (by rfl)]
          go_simp
          (refine hK _ _ ?_; clear hK K)
          refine Zone.wpZ_free 70 (fun u W => ∃ A c, u = .slice A bs.length c ∧ SlB W A c bs) rfl (fun _ _ _ hk ⟨A, c, h1, h2⟩ => ⟨A, c, h1, h2.keep hk⟩) ?_ ?_
          · intro p
            rw [Zone.lookFs_nil (by rfl)]
            simp only [Zone.fill]
            go_simp
            go_at_call 17
            refine (HB2.out _ (by repeat (first | exact Keep.refl _ | apply Keep.alloc | apply Keep.gro | apply Keep.drew | apply Keep.drewN))).mono ?_
            rintro e w5 ⟨u, rfl, hown, hk⟩
            obtain ⟨A5, c5, hv5, hsl5⟩ := hown.sl b8_len hbl
            exact ⟨u, rfl, ⟨A5, c5, hv5, hsl5⟩, hk⟩
          refine Zone.wpZ_step (fun K hK => ?_)
          refine Zone.zone_free1 (.string ⟨bs.toArray⟩) (d := 70) (by rfl) (fun p u hu => ?_) (hK _ _ ?_)
          · obtain ⟨A5, c5, rfl, hsl5⟩ := hu
            have hstr := str_of hsl5
            go_simp
          clear hK K
          refine Zone.wpZ_step (fun K hK => ?_)
          unfold Zone.zone Zone.stepZ
          rw [Zone.lookFs_nil (by rfl)]
          go_simp
          (refine hK _ _ ?_; clear hK K)
          refine Zone.wpZ_step (fun K hK => ?_)
          unfold Zone.zone Zone.stepZ
          rw [Zone.lookFs_nil (by rfl)]
          go_simp
          (refine hK _ _ ?_; clear hK K)
          refine Zone.wpZ_nil ?_
          intro p
          simp only [Zone.fill]
          intro u2 hu2 u1 hu1
          clear hu1 hu2
          obtain ⟨w7, hw7⟩ : ∃ w7, w2.gro p = w7 := ⟨_, rfl⟩
          have hk7 : Keep w2 w7 := by rw [← hw7]; exact below_gro w2 p
          rw [hw7]
          have HAT7 := Lib.hid (HAT1.out.keep hk7)
          have r0 := (hk7.cell (p := ⟨w.heap.size, 0, none⟩) hz2).trans d0
          have rf := (hk7.frozen (p := ⟨w.heap.size, 0, none⟩) hz2).trans g0
          have hz7 : w.heap.size < w7.heap.size := Nat.lt_of_lt_of_le hz2 hk7.size
          have HK7 := Lib.hid (HKW.out.trans hk7)
          have hkne : kind ≠ 0 := by omega
          have HKN := Lib.hid hkne
          clear hw7 hk7 d0 g0 hz2 HAT1 HAT2 HB1 HB2 hk12 hkr hkne HKK HM HOF1 HOF2 HO HK HS HK1 HKW hlt hk
          go_wp2_with (go_at_call 18; refine (all_any _ _).mono ?_; rintro e w' ⟨rfl, rfl⟩)
          refine Zone.wp_range_frame ?frame (gf := 40) (lb := #[.pointer (some ⟨w7.heap.size + 1 + 1, 0, none⟩)]) rfl (enters_of Try.func40 (by kernel_rfl) rfl) (all_iter (w7.heap.size + 1 + 1) b1 kind A1 e1 ys HKN.out) (fun _ => rfl)
            (fun pre W => Keep w7 W ∧ Box3 W w7.heap.size (lastOf pre) ∧ W.cell? ⟨w7.heap.size + 1 + 1, 0, none⟩ = some (.pointer (some ⟨b1, 0, none⟩))) (fun _ _ _ => False)
            (fun x Bx W => w7.heap.size + 1 + 1 < Bx ∧ Box3 W Bx x.2)
            (fun s => (Stable.below w7 (by simp; omega)).and ((Stable.box3 _ _).and (Stable.cell _ _))) (fun _ _ => Stable.pure False) (fun x Bx => Stable.hpure (Stable.box3 _ _))
            (fun s A h => ⟨h.2.2, HAT7.out.keep h.1⟩) ⟨(by repeat (first | exact Keep.refl _ | apply Keep.alloc | apply Keep.gro | apply Keep.drew | apply Keep.drewN)), ⟨by simp [go_sem, lastOf, zeroVal], by simp [go_sem, lastOf, zeroVal], by simp [go_sem, lastOf, zeroVal], by simp [go_sem], by simp [go_sem], by simp [go_sem]⟩, by simp [go_sem]⟩ ?assign ?body ?done ?stop
          case assign =>
            rintro r pre x suf W K hx ⟨hkw, hbx, hcl⟩ hK
            have hlt2 := World.block_lt_of_cell? W _ hcl
            obtain ⟨Bx, hBx⟩ : ∃ Bx, W.heap.size = Bx := ⟨_, rfl⟩
            simp only [encIV]
            gi_wp2
            refine hK Bx _ ?_ ?_
            rotate_left
            · exact (by repeat (first | exact Keep.refl _ | apply Keep.alloc | apply Keep.gro | apply Keep.drew | apply Keep.drewN))
            exact ⟨by omega, ⟨by rw [← hBx]; simp [go_sem], by rw [← hBx]; simp [go_sem], by rw [← hBx]; simp [go_sem], by rw [← hBx]; simp [go_sem], by rw [← hBx]; simp [go_sem], by rw [← hBx]; simp [go_sem]⟩⟩
          case body =>
            rintro r pre x suf Bx W hx ⟨hkw, hbx, hcl⟩ ⟨hltB, hbX⟩
            obtain ⟨hi, hxe⟩ := idx_at hx
            obtain ⟨n, y⟩ := x
            simp only [Prod.mk.injEq] at hxe
            obtain ⟨rfl, hy⟩ := hxe
            have HCMP := Lib.hid (show 0 < pre.length → cmpV (lastOf pre) y < 0 from fun h0 => by
              have h1 : lastOf pre = ys[pre.length - 1] := by
                have h2 : pre.getLast? = some (pre.length - 1, ys[pre.length - 1]) := by
                  rw [List.getLast?_eq_getElem?]
                  have h3 := idx_get 0 ys (pre.length - 1) (by omega)
                  rw [hx, List.getElem?_append_left (by omega), Nat.zero_add] at h3
                  exact h3
                unfold lastOf
                rw [h2]
                rfl
              rw [h1, hy, cmpV_lt]
              exact List.pairwise_iff_getElem.1 HSO.out _ _ (by omega) hi (by omega))
            have HLAST := Lib.hid (show lastOf (pre ++ [(pre.length, y)]) = y by simp [lastOf])
            obtain ⟨z, hz⟩ : ∃ z, lastOf pre = z := ⟨_, rfl⟩
            rw [hz] at hbx HCMP
            have HBX := Lib.hid hbx
            have HKW := Lib.hid hkw
            have HCL := Lib.hid hcl
            obtain ⟨zk, zn, zs⟩ := z
            obtain ⟨yk, yn, ysx⟩ := y
            have l0 := hbx.c0
            have l1 := hbx.c1
            have l2 := hbx.c2
            have l3 := hbx.f0
            have l4 := hbx.f1
            have l5 := hbx.f2
            have m0 := hbX.c0
            have m1 := hbX.c1
            have m2 := hbX.c2
            have hg1 := hbx.lt
            have hg2 := hbX.lt
            simp only at l0 l1 l2 m0 m1 m2
            have hcall := fun W => compare_any ⟨zk, zn, zs⟩ ⟨yk, yn, ysx⟩ W
            obtain ⟨cc, hcc⟩ : ∃ cc, cmpV ⟨zk, zn, zs⟩ ⟨yk, yn, ysx⟩ = cc := ⟨_, rfl⟩
            rw [hcc] at hcall HCMP
            have HCALL := Lib.hid hcall
            clear hcall hcc hz hy hbx hkw hcl hbX
            have hfin : ∀ (B : Nat) (W' : World), Keep W W' → RoundQ B (fun pre W => Keep w7 W ∧ Box3 W w7.heap.size (lastOf pre) ∧ W.cell? ⟨w7.heap.size + 1 + 1, 0, none⟩ = some (.pointer (some ⟨b1, 0, none⟩))) (fun _ _ _ => False) (pre ++ [(pre.length, ⟨yk, yn, ysx⟩)]) W .normal ⟨#[], []⟩ (set3 W' w7.heap.size ⟨yk, yn, ysx⟩) := fun B W' hk =>
              ⟨(KeepsFrom.keep hk).trans set3_from, set3_keep (HKW.out.trans hk) (Nat.le_refl _), by rw [HLAST.out]; exact (HBX.out.keep hk).set _, set3_cell ((hk.cell (World.block_lt_of_cell? W _ HCL.out)).trans HCL.out) (by show w7.heap.size + 1 + 1 ≠ w7.heap.size; omega)⟩
            by_cases h0 : pre.length = 0
            · have h0' : ¬ (0 < (pre.length : Int)) := by omega
              have h0b : decide (0 < (pre.length : Int)) = false := decide_eq_false h0'
              have HFIN := Lib.hid hfin
              clear h0 hfin
              gi_wp2
              exact HFIN.out _ _ (Keep.refl W)
            · have h0' : 0 < (pre.length : Int) := by omega
              have h0b : decide (0 < (pre.length : Int)) = true := decide_eq_true h0'
              have hneg : ¬ 0 ≤ cc := by have := HCMP.out (by omega); omega
              have HFIN := Lib.hid hfin
              clear h0 hfin
              gi_wp2_with (gi_at_call 19; refine (Zone.calls_in (HCALL.out _)).mono ?_; rintro e w' ⟨rfl, hk⟩; (first | obtain ⟨p, rfl⟩ := Zone.gro_of_gro _ _ hk | obtain ⟨p, rfl⟩ := Zone.gro_of_below _ hk); clear hk)
              exact HFIN.out _ _ (below_gro W _)
          case done =>
            rintro E W hE ⟨hkw, _, _⟩ hb
            obtain ⟨p, rfl⟩ := gro_of_below w7 hkw
            have HE := Lib.hid hb
            have hE2 : w7.heap.size ≤ E := by simp at hE; omega
            generalize hW : World.gro _ _ = w8 at HE ⊢
            have hk8 : Keep w7 w8 := by rw [← hW]; exact (by repeat (first | exact Keep.refl _ | apply Keep.alloc | apply Keep.gro | apply Keep.drew | apply Keep.drewN))
            have t0 := (hk8.cell (p := ⟨w.heap.size, 0, none⟩) hz7).trans r0
            have tf := (hk8.frozen (p := ⟨w.heap.size, 0, none⟩) hz7).trans rf
            have hx1 : w.heap.size < w8.heap.size := Nat.lt_of_lt_of_le hz7 hk8.size
            have HK8 := Lib.hid (HK7.out.trans hk8)
            have HZ7 := Lib.hid hz7
            clear hb hkw hW hk8 hE r0 rf hz7
            go_wp2_with (go_at_call 10; refine (KN.out _).mono ?_; rintro e w' ⟨rfl, hk⟩; (first | obtain ⟨p, rfl⟩ := Zone.gro_of_gro _ _ hk | obtain ⟨p, rfl⟩ := Zone.gro_of_below _ hk); clear hk)
            have hkp := below_gro w8 p
            have g1 : (((w8.gro p).setCell ⟨w.heap.size, 0, none⟩ (.bool true)).heap[E]? = some (.deferred (some []))) := (heap_set_ne (by have := HZ7.out; show w.heap.size ≠ E; omega)).trans (heap_keep hkp HE.out)
            have gc : ((w8.gro p).setCell ⟨w.heap.size, 0, none⟩ (.bool true)).cell? ⟨w.heap.size, 0, none⟩ = some (.bool true) := World.cell?_setCell_same _ _ _ ((hkp.cell (p := ⟨w.heap.size, 0, none⟩) hx1).trans t0)
            have gc2 := cell_put (o' := .deferred none) gc g1 rfl
            refine postM_mark (.inl rfl) rfl g1 (postM_of_body (v := .bool true) (.inl rfl) rfl ?_ ⟨rfl, ?_⟩)
            · simp [results, Try.results5, go_sem, gc2]
            · exact keep_put _ ((HK8.out.gro p).setCell (by simp) _) (by have := HZ7.out; omega)
          case stop => exact fun _ _ _ _ _ h => h.elim
        · have her' : (er == 0) = false := by simpa using her
          have her2 : (er != 0) = true := by simpa using her
          clear hkk c0 f0 hz her hres2 hk2
          go_wp2_with (go_at_call 10; refine (KN.out _).mono ?_; rintro e w' ⟨rfl, hk⟩; (first | obtain ⟨p, rfl⟩ := Zone.gro_of_gro _ _ hk | obtain ⟨p, rfl⟩ := Zone.gro_of_below _ hk); clear hk)
          refine postM_of_body (v := .bool true) (.inl rfl) rfl ?_ ⟨rfl, ?_⟩
          · simp [results, Try.results5, go_sem, *]
          · exact Keep.setCell (HKW.out.trans (by repeat (first | exact Keep.refl _ | apply Keep.alloc | apply Keep.gro | apply Keep.drew | apply Keep.drewN))) (by simp) _
end Go.Proofs.Ytbblkabnijhdoaa
