
/- schema.Read of a schema's bytes. -/
import Derived.WalkKit
import Derived.Lib.Hide
import Derived.WalkSpells
import Derived.WalkLawsBesides
import Derived.BigQuiet
import Derived.Shelf.Abstract
import Derived.Deep.Cut
import Derived.Deep.CutRange
import Derived.Test.YtmcaednlilhnoaaGreatDoorRc
namespace Go.Proofs.YtmcaednlilhnoaaGreatDoor
open Go.RowKit Go.Zone Go.Shelf
attribute [local go_sem] Zone.zone Zone.stepZ Zone.fill Zone.lookFs Zone.goes Zone.goesUpon Zone.dropFs Zone.cell_gro Zone.frozen_gro Zone.size_gro Zone.lt_add Zone.drew_gro Zone.tape_gro Zone.keep_refl
attribute [local go_sem] Zone.lt_add2 Zone.lt_add3 Zone.lt_add4 Zone.lt_add5 Zone.lt_add6 Zone.lt_add7 Zone.lt_add8 Zone.lt_add9 Zone.lt_add10 Zone.lt_add11 Zone.lt_add12
theorem flagsR_get (f : List Bool) (n i : Nat) : (flagsR f n).getD i false = (decide (i < n) && f.getD i false) := by
  unfold flagsR
  by_cases h : i < n
  · simp [List.getD_eq_getElem?_getD, h, hasP]
  · simp [List.getD_eq_getElem?_getD, h]
theorem flagsR_flag {l : List Col} {f : List Bool} (h : FlagP l f) : FlagP l (flagsR f l.length) :=
  ⟨.inr (by simp [flagsR]), fun i hi => h.ok i (by rw [flagsR_get] at hi; simp only [Bool.and_eq_true] at hi; exact hi.2)⟩
theorem flagsR_has (f : List Bool) (n : Nat) {i : Nat} (h : i < n) : hasP (flagsR f n) i = hasP f i := by
  show (flagsR f n).getD i false = f.getD i false
  rw [flagsR_get]
  simp [h]
theorem own_setne {α : Type} {W : World} {base k q j : Nat} {e : TypeId} {enc : α → List Value} {v u : Value} {xs : List α} (h : Own W base e k enc v xs) (hne : v.ownBlock ≠ some q) : Own (W.setCell ⟨q, j, none⟩ u) base e k enc v xs :=
  h.grown (grownBy_set W ⟨q, j, none⟩ u) (fun i hi => by injection hi with hi; rw [← hi]; exact hne)
theorem own_down {α : Type} {W : World} {base k : Nat} {e : TypeId} {enc : α → List Value} {v : Value} {xs : List α} (h : Zone.Own W base e k enc v xs) (base' : Nat) (hb : base' ≤ base) : Zone.Own W base' e k enc v xs := Zone.Own.base_mono h hb
theorem row_setne {W : World} {g q j : Nat} {T : TypeId} {u : Value} {vs : List Value} (h : Row W g T vs) (hne : g ≠ q) : Row (W.setCell ⟨q, j, none⟩ u) g T vs :=
  ((grownBy_set W ⟨q, j, none⟩ u).block g h.lt (fun e => by injection e with e; exact hne e)).trans h
set_option maxRecDepth 100000 in
set_option maxHeartbeats 4000000 in
theorem schread_any (A : Option Addr) (n : Nat) (B : List UInt8) (cs : List Col) (c : Cfg) (w : World) (hB : B = schB cs c) (h : SlB w A n B) (hf : Fits cs c) :
    Calls Tryz.prog 89 #[.slice A B.length n] w fun e w' => ∃ v1 v2 v3 v4, e = .returned (.tuple #[v1, .agg #[.int .i64 c.sort, v2, v3, v4, .int .i64 c.leaf], .int .i64 0]) ∧
      Own w' w.heap.size 68 2 Col.cells v1 cs ∧ Own w' w.heap.size 4 1 flV v2 (flagsR c.inv cs.length) ∧ Own w' w.heap.size 4 1 flV v3 (flagsR c.rng cs.length) ∧ Own w' w.heap.size 3 1 i64V v4 c.split ∧ Keep w w' := by
  have HB := Lib.hid h
  have HD := Lib.hid (show B.drop 0 = le cs.length 2 ++ (cs.flatMap colB ++ (cfgB cs.length c ++ [])) by rw [hB, schB_cfg]; simp)
  have HF := Lib.hid hf
  have HBL := Lib.hid (show B.length = 2 + (cs.flatMap colB).length + (cfgB cs.length c).length by rw [hB, schB_cfg]; simp [le_len]; omega)
  clear hB h hf
  go_enter Tryz.func89, Tryz.ntmps89
  go_wp2_with (go_at_call 91; refine Zone.hold ?_)
  refine Zone.unhold ?_
  have hal : Keep w (w.alloc (.cells #[.int .i64 0, .slice none 0 0, .slice none 0 0, .slice none 0 0, .int .i64 0] 26)) := (by repeat (first | exact Keep.refl _ | apply Keep.alloc | apply Keep.gro | apply Keep.drew | apply Keep.drewN))
  have hrow : Row (w.alloc (.cells #[.int .i64 0, .slice none 0 0, .slice none 0 0, .slice none 0 0, .int .i64 0] 26)) w.heap.size 26 [.int .i64 0, .slice none 0 0, .slice none 0 0, .slice none 0 0, .int .i64 0] := row_alloc w _ _
  generalize hg : w.heap.size = g at hrow ⊢
  have HG0 := Lib.hid hg
  generalize w.alloc (.cells #[.int .i64 0, .slice none 0 0, .slice none 0 0, .slice none 0 0, .int .i64 0] 26) = wa at hal hrow ⊢
  have HAL := Lib.hid hal
  have HRW := Lib.hid hrow
  have HN := Lib.hid (new_any A n B wa (HB.out.keep hal))
  have hgl0 := hrow.lt
  clear hal hrow hg
  refine HN.out.mono ?_
  rintro e w1 ⟨R, A1, c1, rfl, hR, hrd1, hk1⟩
  have HRD1 := Lib.hid hrd1
  have HK1 := Lib.hid hk1
  have HR := Lib.hid hR
  have hRg : g < R := by omega
  have HC := Lib.hid (columns_any cs w1 hrd1 HD.out HF.out.may)
  have HRW1 := Lib.hid (HRW.out.keep hk1)
  clear hrd1 hk1 hR HN HRW
  go_wp2_with (go_at_call 152; refine Zone.hold ?_)
  refine Zone.unhold ?_
  refine HC.out.mono ?_
  rintro e w2 ⟨v1, rfl, hown2, hrd2, hg2⟩
  obtain ⟨A2, c2, rfl, hsl2⟩ := hown2.sl col_len (by have := HF.out.may.hi; omega)
  have hRl := HRD1.out.lt
  have HO2 := Lib.hid hown2
  have HRD2 := Lib.hid hrd2
  have HG2 := Lib.hid hg2
  clear hown2 hrd2 hg2 hsl2 HC
  go_wp2_with (go_at_call 153; refine Zone.hold ?_)
  refine Zone.unhold ?_
  have hal3 : Keep w2 (w2.alloc (.cells #[.int .i64 0, .slice none 0 0, .slice none 0 0, .slice none 0 0, .int .i64 0] 26)) := (by repeat (first | exact Keep.refl _ | apply Keep.alloc | apply Keep.gro | apply Keep.drew | apply Keep.drewN))
  have hrow3 : Row (w2.alloc (.cells #[.int .i64 0, .slice none 0 0, .slice none 0 0, .slice none 0 0, .int .i64 0] 26)) w2.heap.size 26 [.int .i64 0, .slice none 0 0, .slice none 0 0, .slice none 0 0, .int .i64 0] := row_alloc w2 _ _
  have hz3 : (w2.alloc (.cells #[.int .i64 0, .slice none 0 0, .slice none 0 0, .slice none 0 0, .int .i64 0] 26)).heap.size = w2.heap.size + 1 := by simp
  generalize w2.alloc (.cells #[.int .i64 0, .slice none 0 0, .slice none 0 0, .slice none 0 0, .int .i64 0] 26) = w3 at hal3 hrow3 hz3 ⊢
  have HAL3 := Lib.hid hal3
  have HRW3 := Lib.hid hrow3
  have HZ3 := Lib.hid hz3
  have hdc := drop_step (drop_step HD.out)
  rw [le_len] at hdc
  have HCF := Lib.hid (config_any cs c w3 (HRD2.out.keep hal3) hdc HF.out)
  have HZ2 := Lib.hid (show w1.heap.size ≤ w2.heap.size from HG2.out.size)
  clear hal3 hrow3 hz3 hdc
  refine HCF.out.mono ?_
  rintro e w4 ⟨v2, v3, v4, rfl, o2, o3, o4, hrd4, hg4⟩
  obtain ⟨A3, c3, rfl, s3⟩ := o2.sl flV_len (by simp [flagsR]; have := HF.out.may.hi; omega)
  obtain ⟨A4, c4, rfl, s4⟩ := o3.sl flV_len (by simp [flagsR]; have := HF.out.may.hi; omega)
  obtain ⟨A5, c5, rfl, s5⟩ := o4.sl i64V_len (by have := HF.out.few; omega)
  have HO4 := Lib.hid (show Own w4 w1.heap.size 68 2 Col.cells (.slice A2 cs.length c2) cs from (HO2.out.keep HAL3.out).grown hg4 (fun j e h2 => by injection e with e; subst e; have := (HO2.out.lt _ h2).1; omega))
  have HRW2 := Lib.hid (show Row w2 g 26 _ from (HG2.out.block g HRW1.out.lt (fun e => by injection e with e; omega)).trans HRW1.out)
  have HRW4 := Lib.hid (show Row w4 g 26 _ from (hg4.block g (HRW2.out.keep HAL3.out).lt (fun e => by injection e with e; omega)).trans (HRW2.out.keep HAL3.out))
  have HR8 := Lib.hid (show Row w4 w2.heap.size 26 _ from (hg4.block _ HRW3.out.lt (fun e => by injection e with e; have := HZ2.out; omega)).trans HRW3.out)
  have HP2 := Lib.hid o2
  have HP3 := Lib.hid o3
  have HP4 := Lib.hid o4
  have HRD4 := Lib.hid hrd4
  have HG4 := Lib.hid hg4
  clear o2 o3 o4 hrd4 hg4 s3 s4 s5 HCF
  have HFF := Lib.hid (show Fits cs ⟨c.sort, A3, c3, flagsR c.inv cs.length, A4, c4, flagsR c.rng cs.length, A5, c5, c.split, c.leaf⟩ from ⟨HF.out.may, HF.out.sort, flagsR_flag HF.out.inv, flagsR_flag HF.out.rng, HF.out.split, HF.out.one, HF.out.few, HF.out.lo, HF.out.hi⟩)
  generalize hL1 : flagsR c.inv cs.length = L1 at HP2 HFF ⊢
  generalize hL2 : flagsR c.rng cs.length = L2 at HP3 HFF ⊢
  have HL1 := Lib.hid hL1
  have HL2 := Lib.hid hL2
  generalize h8 : w2.heap.size = g8 at HR8 HZ3 HZ2 ⊢
  have H8 := Lib.hid h8
  clear hL1 hL2 h8
  have y0 := HR8.out.cell 0 _ rfl
  have y1 := HR8.out.cell 1 _ rfl
  have y2 := HR8.out.cell 2 _ rfl
  have y3 := HR8.out.cell 3 _ rfl
  have y4 := HR8.out.cell 4 _ rfl
  have q0 := HR8.out.soft 0
  have q1 := HR8.out.soft 1
  have q2 := HR8.out.soft 2
  have q3 := HR8.out.soft 3
  have q4 := HR8.out.soft 4
  have hgl8 := HR8.out.lt
  have hR8 : R < g8 := by have := HZ2.out; omega
  have hg8 : g ≠ g8 := by omega
  go_wp2_with (go_at_call 150; refine Zone.hold ?_)
  refine Zone.unhold ?_
  have hr8 := ((((HR8.out.set 0 (.int .i64 c.sort)).set 1 (.slice A3 L1.length c3)).set 2 (.slice A4 L2.length c4)).set 3 (.slice A5 c.split.length c5)).set 4 (.int .i64 c.leaf)
  simp only [List.set] at hr8
  have hne2 : (Value.slice A2 cs.length c2).ownBlock ≠ some g8 := fun e => by have := (HO2.out.lt _ e).2; have := H8.out; omega
  have hne3 : (Value.slice A3 L1.length c3).ownBlock ≠ some g8 := fun e => by have := (HP2.out.lt _ e).1; have := HZ3.out; omega
  have hne4 : (Value.slice A4 L2.length c4).ownBlock ≠ some g8 := fun e => by have := (HP3.out.lt _ e).1; have := HZ3.out; omega
  have hne5 : (Value.slice A5 c.split.length c5).ownBlock ≠ some g8 := fun e => by have := (HP4.out.lt _ e).1; have := HZ3.out; omega
  have ho2 := own_setne (j := 4) (u := .int .i64 c.leaf) (own_setne (j := 3) (u := .slice A5 c.split.length c5) (own_setne (j := 2) (u := .slice A4 L2.length c4) (own_setne (j := 1) (u := .slice A3 L1.length c3) (own_setne (j := 0) (u := .int .i64 c.sort) HO4.out hne2) hne2) hne2) hne2) hne2
  have ho3 := own_setne (j := 4) (u := .int .i64 c.leaf) (own_setne (j := 3) (u := .slice A5 c.split.length c5) (own_setne (j := 2) (u := .slice A4 L2.length c4) (own_setne (j := 1) (u := .slice A3 L1.length c3) (own_setne (j := 0) (u := .int .i64 c.sort) HP2.out hne3) hne3) hne3) hne3) hne3
  have ho4 := own_setne (j := 4) (u := .int .i64 c.leaf) (own_setne (j := 3) (u := .slice A5 c.split.length c5) (own_setne (j := 2) (u := .slice A4 L2.length c4) (own_setne (j := 1) (u := .slice A3 L1.length c3) (own_setne (j := 0) (u := .int .i64 c.sort) HP3.out hne4) hne4) hne4) hne4) hne4
  have ho5 := own_setne (j := 4) (u := .int .i64 c.leaf) (own_setne (j := 3) (u := .slice A5 c.split.length c5) (own_setne (j := 2) (u := .slice A4 L2.length c4) (own_setne (j := 1) (u := .slice A3 L1.length c3) (own_setne (j := 0) (u := .int .i64 c.sort) HP4.out hne5) hne5) hne5) hne5) hne5
  have hrg := row_setne (j := 4) (u := .int .i64 c.leaf) (row_setne (j := 3) (u := .slice A5 c.split.length c5) (row_setne (j := 2) (u := .slice A4 L2.length c4) (row_setne (j := 1) (u := .slice A3 L1.length c3) (row_setne (j := 0) (u := .int .i64 c.sort) HRW4.out hg8) hg8) hg8) hg8) hg8
  have hbl : Bel w1.heap.size w4 _ := (((((Bel.refl (show w1.heap.size ≤ w4.heap.size from Nat.le_trans HZ2.out (by have := HG4.out.size; have := HZ3.out; omega))).setCell (a := ⟨g8, 0, none⟩) HZ2.out (.int .i64 c.sort)).setCell (a := ⟨g8, 1, none⟩) HZ2.out (.slice A3 L1.length c3)).setCell (a := ⟨g8, 2, none⟩) HZ2.out (.slice A4 L2.length c4)).setCell (a := ⟨g8, 3, none⟩) HZ2.out (.slice A5 c.split.length c5)).setCell (a := ⟨g8, 4, none⟩) HZ2.out (.int .i64 c.leaf)
  generalize hW : World.setCell _ _ _ = w5 at hr8 ho2 ho3 ho4 ho5 hrg hbl ⊢
  have HR9 := Lib.hid hr8
  have HQ2 := Lib.hid ho2
  have HQ3 := Lib.hid ho3
  have HQ4 := Lib.hid ho4
  have HQ5 := Lib.hid ho5
  have HRG := Lib.hid hrg
  have HRD5 := Lib.hid (Rd.later HRD1.out HRD4.out hbl)
  have HBL5 := Lib.hid hbl
  clear hr8 ho2 ho3 ho4 ho5 hrg hbl hW y0 y1 y2 y3 y4 q0 q1 q2 q3 q4 hgl8 HR8 HP2 HP3 HP4 HO4 HRD4 hne2 hne3 hne4 hne5
  refine (bad_any _ HRD5.out).mono ?_
  rintro e w' ⟨rfl, rfl⟩
  go_wp2_with (go_at_call 154; refine Zone.hold ?_)
  refine Zone.unhold ?_
  have hleft : ((leftR B (0 + 2 + (cs.flatMap colB).length + (cfgB cs.length c).length) false : Nat) : Int) = 0 := by simp [leftR, HBL.out]
  refine (left_any _ HRD5.out).mono ?_
  rintro e w6 ⟨rfl, hk6⟩
  rw [hleft]
  have HR6 := Lib.hid (HR9.out.keep hk6)
  have HS2 := Lib.hid (HQ2.out.keep hk6)
  have HS3 := Lib.hid (HQ3.out.keep hk6)
  have HS4 := Lib.hid (HQ4.out.keep hk6)
  have HS5 := Lib.hid (HQ5.out.keep hk6)
  have HRG6 := Lib.hid (HRG.out.keep hk6)
  have HBL6 := Lib.hid (HBL5.out.keep hk6)
  clear hk6 hleft HR9 HQ2 HQ3 HQ4 HQ5 HRG HBL5 HRD5
  have hl1 : L1.length ≤ 1000 := by rw [← HL1.out]; simp [flagsR]; have := HF.out.may.hi; omega
  have hl2 : L2.length ≤ 1000 := by rw [← HL2.out]; simp [flagsR]; have := HF.out.may.hi; omega
  obtain ⟨_, _, e2, hs2⟩ := HS2.out.sl col_len (by have := HF.out.may.hi; omega)
  injection e2 with e2a _ e2c
  subst e2a; subst e2c
  obtain ⟨_, _, e3, hs3⟩ := HS3.out.sl flV_len (by omega)
  injection e3 with e3a _ e3c
  subst e3a; subst e3c
  obtain ⟨_, _, e4, hs4⟩ := HS4.out.sl flV_len (by omega)
  injection e4 with e4a _ e4c
  subst e4a; subst e4c
  obtain ⟨_, _, e5, hs5⟩ := HS5.out.sl i64V_len (by have := HF.out.few; omega)
  injection e5 with e5a _ e5c
  subst e5a; subst e5c
  have hft := fits_any A2 c2 cs ⟨c.sort, A3, c3, L1, A4, c4, L2, A5, c5, c.split, c.leaf⟩ w6 hs2 (fun x hx => by
    obtain ⟨i, hi, rfl⟩ := List.getElem_of_mem hx
    have := (HF.out.may.name i hi).hi
    omega) ⟨hs3, hs4, hs5⟩
  rw [show pB (Fits cs ⟨c.sort, A3, c3, L1, A4, c4, L2, A5, c5, c.split, c.leaf⟩) = true by simp [pB, HFF.out]] at hft
  have HFT := Lib.hid hft
  clear hft hs2 hs3 hs4 hs5 hl1 hl2
  have y0 := HR6.out.cell 0 _ rfl
  have y1 := HR6.out.cell 1 _ rfl
  have y2 := HR6.out.cell 2 _ rfl
  have y3 := HR6.out.cell 3 _ rfl
  have y4 := HR6.out.cell 4 _ rfl
  go_wp2_with (go_at_call 53; refine Zone.hold ?_)
  refine Zone.unhold ?_
  refine HFT.out.mono ?_
  rintro e w7 ⟨rfl, hk7⟩
  have HR7 := Lib.hid (HR6.out.keep hk7)
  have HT2 := Lib.hid (HS2.out.keep hk7)
  have HT3 := Lib.hid (HS3.out.keep hk7)
  have HT4 := Lib.hid (HS4.out.keep hk7)
  have HT5 := Lib.hid (HS5.out.keep hk7)
  have HRG7 := Lib.hid (HRG6.out.keep hk7)
  have HBL7 := Lib.hid (HBL6.out.keep hk7)
  clear hk7 HFT y0 y1 y2 y3 y4 HR6 HS2 HS3 HS4 HS5 HRG6 HBL6
  have y0 := HR7.out.cell 0 _ rfl
  have y1 := HR7.out.cell 1 _ rfl
  have y2 := HR7.out.cell 2 _ rfl
  have y3 := HR7.out.cell 3 _ rfl
  have y4 := HR7.out.cell 4 _ rfl
  have x0 := HRG7.out.cell 0 _ rfl
  have x1 := HRG7.out.cell 1 _ rfl
  have x2 := HRG7.out.cell 2 _ rfl
  have x3 := HRG7.out.cell 3 _ rfl
  have x4 := HRG7.out.cell 4 _ rfl
  have q0 := HRG7.out.soft 0
  have q1 := HRG7.out.soft 1
  have q2 := HRG7.out.soft 2
  have q3 := HRG7.out.soft 3
  have q4 := HRG7.out.soft 4
  have hgl7 := HRG7.out.lt
  have hgl8 := HR7.out.lt
  have hk1 := HAL.out.trans HK1.out
  have hRw : w.heap.size ≤ R := by have := HR.out; have := HAL.out.size; omega
  have hk4 : Keep w w4 := ((hk1.grown HG2.out (fun j e => by injection e with e; omega)).trans HAL3.out).grown HG4.out (fun j e => by injection e with e; omega)
  have hk7 : Keep w w7 := Below.trans hk4 (HBL7.out.b.mono hk1.size)
  have HK7 := Lib.hid hk7
  have HW1 := Lib.hid hk1.size
  have HGW := Lib.hid (show g < w1.heap.size from HRW1.out.lt)
  have HW3 := Lib.hid (show w1.heap.size ≤ w3.heap.size by have := HZ2.out; have := HZ3.out; omega)
  clear hk1 hRw hk4 hk7
  go_wp2
  go_region
  all_goals
    clear y0 y1 y2 y3 y4 x0 x1 x2 x3 x4 q0 q1 q2 q3 q4 hgl7 hgl8
    go_wp2

    have hr8 := ((((HRG7.out.set 0 (.int .i64 c.sort)).set 1 (.slice A3 L1.length c3)).set 2 (.slice A4 L2.length c4)).set 3 (.slice A5 c.split.length c5)).set 4 (.int .i64 c.leaf)
    simp only [List.set] at hr8
    have hne2 : (Value.slice A2 cs.length c2).ownBlock ≠ some g := fun e => by have := (HT2.out.lt _ e).1; have := HGW.out; omega
    have hne3 : (Value.slice A3 L1.length c3).ownBlock ≠ some g := fun e => by have := (HT3.out.lt _ e).1; have := HGW.out; have := HW3.out; omega
    have hne4 : (Value.slice A4 L2.length c4).ownBlock ≠ some g := fun e => by have := (HT4.out.lt _ e).1; have := HGW.out; have := HW3.out; omega
    have hne5 : (Value.slice A5 c.split.length c5).ownBlock ≠ some g := fun e => by have := (HT5.out.lt _ e).1; have := HGW.out; have := HW3.out; omega
    have ho2 := own_setne (j := 4) (u := .int .i64 c.leaf) (own_setne (j := 3) (u := .slice A5 c.split.length c5) (own_setne (j := 2) (u := .slice A4 L2.length c4) (own_setne (j := 1) (u := .slice A3 L1.length c3) (own_setne (j := 0) (u := .int .i64 c.sort) HT2.out hne2) hne2) hne2) hne2) hne2
    have ho3 := own_setne (j := 4) (u := .int .i64 c.leaf) (own_setne (j := 3) (u := .slice A5 c.split.length c5) (own_setne (j := 2) (u := .slice A4 L2.length c4) (own_setne (j := 1) (u := .slice A3 L1.length c3) (own_setne (j := 0) (u := .int .i64 c.sort) HT3.out hne3) hne3) hne3) hne3) hne3
    have ho4 := own_setne (j := 4) (u := .int .i64 c.leaf) (own_setne (j := 3) (u := .slice A5 c.split.length c5) (own_setne (j := 2) (u := .slice A4 L2.length c4) (own_setne (j := 1) (u := .slice A3 L1.length c3) (own_setne (j := 0) (u := .int .i64 c.sort) HT4.out hne4) hne4) hne4) hne4) hne4
    have ho5 := own_setne (j := 4) (u := .int .i64 c.leaf) (own_setne (j := 3) (u := .slice A5 c.split.length c5) (own_setne (j := 2) (u := .slice A4 L2.length c4) (own_setne (j := 1) (u := .slice A3 L1.length c3) (own_setne (j := 0) (u := .int .i64 c.sort) HT5.out hne5) hne5) hne5) hne5) hne5
    have hkf : Keep w _ := (((((HK7.out.setCell (a := ⟨g, 0, none⟩) (Nat.le_of_eq HG0.out) (.int .i64 c.sort)).setCell (a := ⟨g, 1, none⟩) (Nat.le_of_eq HG0.out) (.slice A3 L1.length c3)).setCell (a := ⟨g, 2, none⟩) (Nat.le_of_eq HG0.out) (.slice A4 L2.length c4)).setCell (a := ⟨g, 3, none⟩) (Nat.le_of_eq HG0.out) (.slice A5 c.split.length c5)).setCell (a := ⟨g, 4, none⟩) (Nat.le_of_eq HG0.out) (.int .i64 c.leaf))
    generalize hW : World.setCell _ _ _ = W at hr8 ho2 ho3 ho4 ho5 hkf ⊢
    have hw3 : w.heap.size ≤ w3.heap.size := Nat.le_trans HW1.out HW3.out
    have hd := Keep.drew (Keep.refl W)
    have hl := run_loadVar_row W.drew g 26 26 _ _ _ (hr8.keep hd) Tryz.underlying26 rfl (by kernel_rfl)
    clear hW
    refine bodyPost_ret (v := .tuple #[.slice A2 cs.length c2, .agg #[.int .i64 c.sort, .slice A3 L1.length c3, .slice A4 L2.length c4, .slice A5 c.split.length c5, .int .i64 c.leaf], .int .i64 0]) ?_ ?_ ?_
    · simp [results, Tryz.results89, asAddr, hl]
    · rfl
    · refine ⟨.slice A2 cs.length c2, .slice A3 L1.length c3, .slice A4 L2.length c4, .slice A5 c.split.length c5, rfl, ?_, ?_, ?_, ?_, ?_⟩
      · exact own_down (ho2.keep hd) _ HW1.out
      · rw [HL1.out]; exact own_down (ho3.keep hd) _ hw3
      · rw [HL2.out]; exact own_down (ho4.keep hd) _ hw3
      · exact own_down (ho5.keep hd) _ hw3
      · exact hkf.trans hd
end Go.Proofs.YtmcaednlilhnoaaGreatDoor
