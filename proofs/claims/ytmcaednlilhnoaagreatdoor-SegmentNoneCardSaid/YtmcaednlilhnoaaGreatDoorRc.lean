
/- schema.config where a configuration stands. -/
import Derived.WalkKit
import Derived.Lib.Hide
import Derived.WalkSpells
import Derived.WalkLawsBesides
import Derived.BigQuiet
import Derived.Shelf.Abstract
import Derived.Deep.Cut
import Derived.Deep.CutRange
import Derived.Deep.RegionLaw
import Derived.Test.YtmcaednlilhnoaaGreatDoorRa
namespace Go.Proofs.YtmcaednlilhnoaaGreatDoor
open Go.RowKit Go.Zone Go.Shelf
attribute [local go_sem] Zone.zone Zone.stepZ Zone.fill Zone.lookFs Zone.goes Zone.goesUpon Zone.dropFs Zone.cell_gro Zone.frozen_gro Zone.size_gro Zone.lt_add Zone.drew_gro Zone.tape_gro Zone.keep_refl
attribute [local go_sem] Zone.lt_add2 Zone.lt_add3 Zone.lt_add4 Zone.lt_add5 Zone.lt_add6 Zone.lt_add7 Zone.lt_add8 Zone.lt_add9 Zone.lt_add10 Zone.lt_add11 Zone.lt_add12
theorem info_bl : (Tryz.prog.info? 4).map (fun i => (i.zero, i.size, i.bytes)) = some (some (.bool false), 1, 1) := by kernel_rfl
theorem elt_bl : Elt Tryz.prog 23 4 1 1 := by
  have h := info_bl
  cases hi : Tryz.prog.info? 4 with
  | none => rw [hi] at h; cases h
  | some i =>
    rw [hi] at h
    simp only [Option.map_some, Option.some.injEq, Prod.mk.injEq] at h
    exact ⟨i, _, Tryz.underlying23, hi, h.1, h.2.1, h.2.2, rfl, by decide, by decide⟩
theorem info_in : (Tryz.prog.info? 3).map (fun i => (i.zero, i.size, i.bytes)) = some (some (.int .i64 0), 1, 8) := by kernel_rfl
theorem elt_in : Elt Tryz.prog 24 3 1 8 := by
  have h := info_in
  cases hi : Tryz.prog.info? 3 with
  | none => rw [hi] at h; cases h
  | some i =>
    rw [hi] at h
    simp only [Option.map_some, Option.some.injEq, Prod.mk.injEq] at h
    exact ⟨i, _, Tryz.underlying24, hi, h.1, h.2.1, h.2.2, rfl, by decide, by decide⟩
theorem flV_len (x : Bool) : (flV x).length = 1 := rfl
theorem flV_one (x : Bool) : ∀ u ∈ flV x, u.oneCell' = true := by simp [flV, Value.oneCell']
theorem i64V_len (x : Int) : (i64V x).length = 1 := rfl
theorem i64V_one (x : Int) : ∀ u ∈ i64V x, u.oneCell' = true := by simp [i64V, Value.oneCell']
theorem flV_cell {w : World} {q : Nat} {x : Bool} (h : w.cell? ⟨q, 0, none⟩ = some (.bool x)) : ∀ j u, (flV x)[j]? = some u → w.cell? ⟨q, j, none⟩ = some u := fun j u hu => by
  match j, hu with
  | 0, hu => cases hu; exact h
theorem split_len : ∀ l : List Int, (l.flatMap (fun x => le x.toNat 2)).length = 2 * l.length
  | [] => rfl
  | x :: l => by rw [List.flatMap_cons, List.length_append, le_len, split_len l, List.length_cons]; omega
/-- A statement that is the last of its sequence, as go_cut would have it. -/
theorem wp_last {P : Program} {s : Code} {Q : Exit → Act → World → Prop} {a : Act} {w : World} (h : ∀ K : Act → World → Prop, K = Q .normal → s.wp P (Exit.then K Q) a w) : s.wp P Q a w := by
  refine wp_mono (h _ rfl) ?_
  intro e a' w' hq
  cases e with
  | normal => exact hq
  | exit id => exact hq
  | goto l => exact hq
  | ret => exact hq
  | panic ch => exact hq
  | outgrown => exact hq
/-- the flags that are read of a configuration -/
def flagsR (f : List Bool) (n : Nat) : List Bool := (List.range n).map fun i : Nat => hasP f (i : Int)
def flagN (c : Cfg) (i : Nat) : Nat := (if hasP c.inv (i : Int) then 1 else 0) + (if hasP c.rng (i : Int) then 2 else 0)
/-- a configuration's bytes behind the columns' -/
def cfgB (n : Nat) (c : Cfg) : List UInt8 := le (c.sort + 1).toNat 2 ++ ((List.range n).flatMap (flagB c) ++ ([UInt8.ofNat c.split.length] ++ (c.split.flatMap (fun x => le x.toNat 2) ++ le c.leaf.toNat 4)))
theorem schB_cfg (cs : List Col) (c : Cfg) : schB cs c = le cs.length 2 ++ (cs.flatMap colB ++ cfgB cs.length c) := by simp [schB, cfgB]
theorem flagB_n (c : Cfg) (i : Nat) : flagB c i = [UInt8.ofNat (flagN c i)] := rfl
theorem flagN_lt (c : Cfg) (i : Nat) : flagN c i ≤ 3 := by unfold flagN; (repeat' split) <;> omega
theorem range_split (c : Cfg) (n k : Nat) (h : k < n) : (List.range n).flatMap (flagB c) = (List.range k).flatMap (flagB c) ++ ([UInt8.ofNat (flagN c k)] ++ ((List.range n).drop (k + 1)).flatMap (flagB c)) := by
  have := flat_split (flagB c) (List.range n) k (by simpa using h)
  rw [List.take_range, Nat.min_eq_left (Nat.le_of_lt h), List.getElem_range] at this
  exact this
theorem range_flag_len (c : Cfg) : ∀ k, ((List.range k).flatMap (flagB c)).length = k
  | 0 => rfl
  | k + 1 => by rw [List.range_succ, List.flatMap_append, List.length_append, range_flag_len c k]; rfl
theorem cfgB_len (n : Nat) (c : Cfg) : (cfgB n c).length = 2 + (n + (1 + (2 * c.split.length + 4))) := by
  unfold cfgB
  rw [List.length_append, List.length_append, List.length_append, List.length_append, le_len, le_len, range_flag_len, split_len, List.length_singleton]
theorem flagsR_succ (f : List Bool) (k : Nat) : flagsR f (k + 1) = flagsR f k ++ [hasP f (k : Int)] := by simp [flagsR, List.range_succ]
theorem and1_flag (c : Cfg) (i : Nat) : (bits .and .u8 ((flagN c i : Nat) : Int) 1 != 0) = hasP c.inv (i : Int) := by
  unfold flagN
  cases hasP c.inv (i : Int) <;> cases hasP c.rng (i : Int) <;> decide
theorem and2_flag (c : Cfg) (i : Nat) : (bits .and .u8 ((flagN c i : Nat) : Int) 2 != 0) = hasP c.rng (i : Int) := by
  unfold flagN
  cases hasP c.inv (i : Int) <;> cases hasP c.rng (i : Int) <;> decide
/-- a configuration that is being made: its block, its flags -/
structure CfS (W : World) (g : Nat) (cells : List Value) (v1 : Value) (x1 : List Bool) (v2 : Value) (x2 : List Bool) : Prop where
  row : Row W g 26 cells
  o1 : Own W g 4 1 flV v1 x1
  o2 : Own W g 4 1 flV v2 x2
  ap : ∀ j, v1.ownBlock = some j → v2.ownBlock ≠ some j
section
variable {W W' : World} {g : Nat} {cells : List Value} {v1 v2 v' : Value} {x1 x2 x' : List Bool}
theorem CfS.keep (h : CfS W g cells v1 x1 v2 x2) (hk : Keep W W') : CfS W' g cells v1 x1 v2 x2 := ⟨h.row.keep hk, h.o1.keep hk, h.o2.keep hk, h.ap⟩
theorem CfS.app1 (h : CfS W g cells v1 x1 v2 x2) (hown : Own W' g 4 1 flV v' x') (hg : W.grownBy W' v1.ownBlock) (hd : v'.ownBlock = v1.ownBlock ∨ v'.ownBlock = some W.heap.size) : CfS W' g cells v' x' v2 x2 :=
  ⟨(hg.block g h.row.lt (fun e => own_row_ne h.o1 h.row (by decide) e.symm)).trans h.row, hown, h.o2.grown hg h.ap, fun j hj => by
    rcases hd with e | e
    · exact h.ap j (by rw [← e]; exact hj)
    · intro h2
      rw [e] at hj
      injection hj with hj
      have := (h.o2.lt j h2).2
      omega⟩
theorem CfS.app2 (h : CfS W g cells v1 x1 v2 x2) (hown : Own W' g 4 1 flV v' x') (hg : W.grownBy W' v2.ownBlock) (hd : v'.ownBlock = v2.ownBlock ∨ v'.ownBlock = some W.heap.size) : CfS W' g cells v1 x1 v' x' :=
  ⟨(hg.block g h.row.lt (fun e => own_row_ne h.o2 h.row (by decide) e.symm)).trans h.row, h.o1.grown hg (fun j h2 h1 => h.ap j h1 h2), hown, fun j hj h2 => by
    rcases hd with e | e
    · exact h.ap j hj (by rw [← e]; exact h2)
    · rw [e] at h2
      injection h2 with h2
      have := (h.o1.lt j hj).2
      omega⟩
theorem CfS.set (h : CfS W g cells v1 x1 v2 x2) (j : Nat) (u : Value) : CfS (W.setCell ⟨g, j, none⟩ u) g (cells.set j u) v1 x1 v2 x2 :=
  ⟨h.row.set j u, Own.turn h.o1 (Turn.set W ⟨g, j, none⟩ u) (fun i hi e => by
    simp only [List.mem_singleton] at hi
    subst hi
    exact own_row_ne h.o1 h.row (by decide) e), Own.turn h.o2 (Turn.set W ⟨g, j, none⟩ u) (fun i hi e => by
    simp only [List.mem_singleton] at hi
    subst hi
    exact own_row_ne h.o2 h.row (by decide) e), h.ap⟩
theorem CfS.reader {R : Nat} (h : CfS W g cells v1 x1 v2 x2) (hg : W.grownBy W' (some R)) (hR : R < g) : CfS W' g cells v1 x1 v2 x2 :=
  ⟨(hg.block g h.row.lt (fun e => by injection e with e; omega)).trans h.row, h.o1.grown hg (fun j e h1 => by injection e with e; subst e; have := (h.o1.lt _ h1).1; omega), h.o2.grown hg (fun j e h1 => by injection e with e; subst e; have := (h.o2.lt _ h1).1; omega), h.ap⟩
end
/-- .. with its dimensions of the split -/
structure CfT (W : World) (g : Nat) (cells : List Value) (v1 : Value) (x1 : List Bool) (v2 : Value) (x2 : List Bool) (v3 : Value) (x3 : List Int) : Prop where
  c : CfS W g cells v1 x1 v2 x2
  o3 : Own W g 3 1 i64V v3 x3
  ap3 : ∀ j, v3.ownBlock = some j → v1.ownBlock ≠ some j ∧ v2.ownBlock ≠ some j
section
variable {W W' : World} {g : Nat} {cells : List Value} {v1 v2 v3 v' : Value} {x1 x2 : List Bool} {x3 x' : List Int}
theorem CfT.keep (h : CfT W g cells v1 x1 v2 x2 v3 x3) (hk : Keep W W') : CfT W' g cells v1 x1 v2 x2 v3 x3 := ⟨h.c.keep hk, h.o3.keep hk, h.ap3⟩
theorem CfT.app3 (h : CfT W g cells v1 x1 v2 x2 v3 x3) (hown : Own W' g 3 1 i64V v' x') (hg : W.grownBy W' v3.ownBlock) (hd : v'.ownBlock = v3.ownBlock ∨ v'.ownBlock = some W.heap.size) : CfT W' g cells v1 x1 v2 x2 v' x' :=
  ⟨⟨(hg.block g h.c.row.lt (fun e => own_row_ne h.o3 h.c.row (by decide) e.symm)).trans h.c.row, h.c.o1.grown hg (fun j e => (h.ap3 j e).1), h.c.o2.grown hg (fun j e => (h.ap3 j e).2), h.c.ap⟩, hown, fun j hj => by
    rcases hd with e | e
    · exact h.ap3 j (by rw [← e]; exact hj)
    · rw [e] at hj
      injection hj with hj
      exact ⟨fun h2 => by have := (h.c.o1.lt j h2).2; omega, fun h2 => by have := (h.c.o2.lt j h2).2; omega⟩⟩
theorem CfT.set (h : CfT W g cells v1 x1 v2 x2 v3 x3) (j : Nat) (u : Value) : CfT (W.setCell ⟨g, j, none⟩ u) g (cells.set j u) v1 x1 v2 x2 v3 x3 :=
  ⟨h.c.set j u, Own.turn h.o3 (Turn.set W ⟨g, j, none⟩ u) (fun i hi e => by
    simp only [List.mem_singleton] at hi
    subst hi
    exact own_row_ne h.o3 h.c.row (by decide) e), h.ap3⟩
theorem CfT.reader {R : Nat} (h : CfT W g cells v1 x1 v2 x2 v3 x3) (hg : W.grownBy W' (some R)) (hR : R < g) : CfT W' g cells v1 x1 v2 x2 v3 x3 :=
  ⟨h.c.reader hg hR, h.o3.grown hg (fun j e h1 => by injection e with e; subst e; have := (h.o3.lt _ h1).1; omega), h.ap3⟩
end
set_option maxRecDepth 100000 in
set_option maxHeartbeats 4000000 in
theorem config_any {R c0 a : Nat} {A : Option Addr} {bs rest : List UInt8} (cs : List Col) (c : Cfg) (w : World) (h : Rd w R A c0 bs a false) (hd : bs.drop a = cfgB cs.length c ++ rest) (hf : Fits cs c) :
    Calls Tryz.prog 153 #[.pointer (some ⟨R, 0, none⟩), .int .i64 cs.length] w fun e w' => ∃ v1 v2 v3, e = .returned (.tuple #[.agg #[.int .i64 c.sort, v1, v2, v3, .int .i64 c.leaf], .bool true]) ∧
      Own w' w.heap.size 4 1 flV v1 (flagsR c.inv cs.length) ∧ Own w' w.heap.size 4 1 flV v2 (flagsR c.rng cs.length) ∧ Own w' w.heap.size 3 1 i64V v3 c.split ∧ Rd w' R A c0 bs (a + (cfgB cs.length c).length) false ∧ w.grownBy w' (some R) := by
  have hsr := sort_rng hf
  obtain ⟨hs0, hs1⟩ := hsr
  have hn : cs.length ≤ 256 := hf.may.hi
  have hs8 : c.split.length ≤ 8 := hf.few
  have hf1 : 1 ≤ c.leaf := hf.lo
  have hf2 : c.leaf ≤ 1000000 := hf.hi
  have HSP := Lib.hid (show ∀ j, (h : j < c.split.length) → 0 ≤ c.split[j] ∧ c.split[j] < (cs.length : Int) from fun j hj => dim_rng (hf.split j hj))
  obtain ⟨sn, hsn⟩ : ∃ sn : Nat, c.sort + 1 = (sn : Int) := ⟨(c.sort + 1).toNat, by omega⟩
  have hsortn : c.sort < (cs.length : Int) := by
    rcases hf.sort with e | e
    · have := hf.may.lo; omega
    · exact (dim_rng e).2
  have hsn2 : (sn : Int) - 1 = c.sort := by omega
  unfold cfgB at hd
  rw [hsn, Int.toNat_natCast, List.append_assoc] at hd
  have HU := Lib.hid (u16_at w sn (by omega) h hd)
  have HD0 := Lib.hid hd
  have hd2 := drop_step hd
  rw [le_len] at hd2
  have HD2 := Lib.hid hd2
  have HRD0 := Lib.hid h
  have hRl := h.lt
  generalize hsv : c.sort = sv at hs0 hs1 hsn hsortn hsn2
  have HSV := Lib.hid hsv
  have hdg : decide ((cs.length : Int) ≤ sv) = false := by simp; omega
  clear h hd hd2 hsn hsv
  go_enter Tryz.func153, Tryz.ntmps153
  go_wp2_with (go_at_call 202; refine Zone.hold ?_)
  refine Zone.unhold ?_
  have hal : Keep w (w.alloc (.cells #[.int .i64 0, .slice none 0 0, .slice none 0 0, .slice none 0 0, .int .i64 0] 26)) := (by repeat (first | exact Keep.refl _ | apply Keep.alloc | apply Keep.gro | apply Keep.drew | apply Keep.drewN))
  have hrow : Row (w.alloc (.cells #[.int .i64 0, .slice none 0 0, .slice none 0 0, .slice none 0 0, .int .i64 0] 26)) w.heap.size 26 [.int .i64 0, .slice none 0 0, .slice none 0 0, .slice none 0 0, .int .i64 0] := row_alloc w _ _
  generalize hg : w.heap.size = g at hrow ⊢
  have HG0 := Lib.hid hg
  generalize w.alloc (.cells #[.int .i64 0, .slice none 0 0, .slice none 0 0, .slice none 0 0, .int .i64 0] 26) = wa at hal hrow ⊢
  have HAL := Lib.hid hal
  have HUA := Lib.hid (u16_at wa sn (by omega) (HRD0.out.keep hal) HD0.out)
  have HRW := Lib.hid hrow
  clear hal hrow hg HU
  refine HUA.out.mono ?_
  rintro e w1 ⟨rfl, hrd1, hg1⟩
  have HRD1 := Lib.hid hrd1
  have HGR := Lib.hid (grownBy_trans (grownBy_keep HAL.out) hg1)
  have HR1 := Lib.hid (show Row w1 g 26 _ from (hg1.block g HRW.out.lt (fun e => by injection e with e; have := HG0.out; omega)).trans HRW.out)
  clear hrd1 hg1 HUA HRW
  have y0 := HR1.out.cell 0 _ rfl
  have f0 := HR1.out.soft 0
  have hg1l := HR1.out.lt
  go_wp2
  have HC1 := Lib.hid (show CfS (w1.setCell ⟨g, 0, none⟩ (.int .i64 sv)) g [.int .i64 sv, .slice none 0 0, .slice none 0 0, .slice none 0 0, .int .i64 0] (.slice none 0 0) [] (.slice none 0 0) [] from ⟨HR1.out.set 0 _, Own.nil_ _ _ _ _ _, Own.nil_ _ _ _ _ _, fun j hj => by cases hj⟩)
  have HRD2 := Lib.hid (Rd.later HRD0.out HRD1.out (W' := w1.setCell ⟨g, 0, none⟩ (.int .i64 sv)) (Bel.setCell (Bel.refl HGR.out.size) (Nat.le_of_eq HG0.out) _))
  have HGR2 := Lib.hid (show w.grownBy (w1.setCell ⟨g, 0, none⟩ (.int .i64 sv)) (some R) from grown_up HGR.out (grownBy_set w1 ⟨g, 0, none⟩ (.int .i64 sv)) (fun j e => by injection e with e; rw [← e]; exact Nat.le_of_eq HG0.out))
  generalize w1.setCell ⟨g, 0, none⟩ (.int .i64 sv) = w2 at HC1 HRD2 HGR2 ⊢
  clear HRD1 HGR HR1 y0 f0 hg1l
  go_loopw [20] (fun i wr => ∃ (k : Nat) (A1 A2 : Option Addr) (c1 c2 : Nat), k ≤ cs.length ∧ i = .int .i64 k ∧ Hid (CfS wr g [.int .i64 sv, .slice A1 k c1, .slice A2 k c2, .slice none 0 0, .int .i64 0] (.slice A1 k c1) (flagsR c.inv k) (.slice A2 k c2) (flagsR c.rng k)) ∧ Hid (Rd wr R A c0 bs (a + 2 + k) false) ∧ Hid (w.grownBy wr (some R))) (fun i _ => cs.length - (intOf i).toNat)
  case atStart => exact ⟨0, none, none, 0, 0, Nat.zero_le _, rfl, HC1.out, HRD2.out, HGR2.out⟩
  case round =>
    clear HC1 HRD2 HGR2
    obtain ⟨k, A1, A2, c1, c2, hk, rfl, HC, HRD, HGR⟩ := hrel
    by_cases hlt : k < cs.length
    · have hdk : bs.drop (a + 2 + k) = [UInt8.ofNat (flagN c k)] ++ (((List.range cs.length).drop (k + 1)).flatMap (flagB c) ++ (([UInt8.ofNat c.split.length] ++ (c.split.flatMap (fun x => le x.toNat 2) ++ le c.leaf.toNat 4)) ++ rest)) := by
        have h2 := HD2.out
        rw [range_split c cs.length k hlt, List.append_assoc, List.append_assoc] at h2
        have h3 := drop_step h2
        rw [range_flag_len] at h3
        rw [h3]
        simp
      have hfl := flagN_lt c k
      have HU := Lib.hid (u8_at wr (flagN c k) (by omega) HRD.out hdk)
      have hb1 := and1_flag c k
      have hb2 := and2_flag c k
      have HF1 := Lib.hid (flagsR_succ c.inv k)
      have HF2 := Lib.hid (flagsR_succ c.rng k)
      have hl1 : (flagsR c.inv k).length = k := by simp [flagsR]
      have hl2 : (flagsR c.rng k).length = k := by simp [flagsR]
      generalize flagN c k = fl at hfl HU hb1 hb2
      have hg3 : decide ((3 : Int) < (fl : Int)) = false := by simp; omega
      have HL1 := Lib.hid hl1
      have HL2 := Lib.hid hl2
      clear hdk hl1 hl2
      go_wp2_with (go_at_call 157; refine Zone.hold ?_)
      refine Zone.unhold ?_
      refine HU.out.mono ?_
      rintro e w3 ⟨rfl, hrd3, hg3'⟩
      have HC3 := Lib.hid (HC.out.reader hg3' (by have := HG0.out; omega))
      have HRD3 := Lib.hid hrd3
      have HGR3 := Lib.hid (grownBy_trans HGR.out hg3')
      clear hrd3 hg3' HU HC HRD HGR
      have y1 := HC3.out.row.cell 1 _ rfl
      have y2 := HC3.out.row.cell 2 _ rfl
      have q1 := HC3.out.row.soft 1
      have q2 := HC3.out.row.soft 2
      have hgl := HC3.out.row.lt
      generalize flagsR c.inv k = L1 at HC3 HF1 HL1
      generalize flagsR c.rng k = L2 at HC3 HF2 HL2
      generalize hasP c.inv (k : Int) = p1 at hb1 HF1
      generalize hasP c.rng (k : Int) = p2 at hb2 HF2
      have hw3 := HGR3.out.size
      have HKB := Lib.hid (show ∀ W W' : World, ∀ v : Value, ∀ x : List Bool, Own w3 g 4 1 flV v x → W.grownBy W' v.ownBlock → ∀ (q : Nat) u, w3.heap.size ≤ q → W.cell? ⟨q, 0, none⟩ = some u → W'.cell? ⟨q, 0, none⟩ = some u from fun W W' v x ho hg q u hq hc => hg.cell hc fun e => by have h2 : q < w3.heap.size := (ho.lt _ e.symm).2; omega)
      have HO1 := Lib.hid HC3.out.o1
      have HO2 := Lib.hid HC3.out.o2
      have HOW1 := Lib.hid (show ∀ j, (Value.slice A1 k c1).ownBlock = some j → w.heap.size ≤ j from fun j hj => by have := (HC3.out.o1.lt j hj).1; have := HG0.out; omega)
      have HOW2 := Lib.hid (show ∀ j, (Value.slice A2 k c2).ownBlock = some j → w.heap.size ≤ j from fun j hj => by have := (HC3.out.o2.lt j hj).1; have := HG0.out; omega)
      have HBE := Lib.hid (Bel.refl (W0 := w3) (n := w.heap.size) hw3)
      go_upto_region 9 with fail
      refine wp_last fun KL hKL => ?_
      go_cut [20] from 20 to 43 (fun s20 wx => s20 = .int .i64 k ∧ ∃ A4 A5 c4 c5, Hid (CfS wx g [.int .i64 sv, .slice A4 (k + 1) c4, .slice A5 (k + 1) c5, .slice none 0 0, .int .i64 0] (.slice A4 (k + 1) c4) (flagsR c.inv (k + 1)) (.slice A5 (k + 1) c5) (flagsR c.rng (k + 1))) ∧ Hid (Bel w.heap.size w3 wx))
      case first =>
       --DEVCUT
       go_region_law (first
        | (refine step_app elt_bl flV_len flV_one rfl (.tmp 28) (.tmp 32) rfl (ys := [p1]) (HC3.out.keep (by repeat (first | exact Keep.refl _ | apply Keep.alloc | apply Keep.gro | apply Keep.drew | apply Keep.drewN))).o1 rfl rfl (sl_one _ (by decide) (by decide) (flV_cell ?h0)) (by rw [HL1.out]; simp; omega) (by first | omega | (simp [go_sem]; omega)) ?_
           case h0 => first | (simp [go_sem]; done) | exact HCF.out _ _ (by first | omega | (simp [go_sem]; omega)) (by simp [go_sem, hb1])
           intro v4 w4 hown4 hg4 hd4
           obtain ⟨A4, c4, rfl, _⟩ := hown4.sl flV_len (by simp [HL1.out]; omega)
           have HC4 := Lib.hid ((HC3.out.keep (by repeat (first | exact Keep.refl _ | apply Keep.alloc | apply Keep.gro | apply Keep.drew | apply Keep.drewN))).app1 hown4 hg4 hd4)
           have HCF := Lib.hid (fun q u => HKB.out _ _ _ _ HO1.out hg4 q u)
           have HB4 := Lib.hid ((HBE.out.keep (by repeat (first | exact Keep.refl _ | apply Keep.alloc | apply Keep.gro | apply Keep.drew | apply Keep.drewN))).grown hg4 (HOW1.out))
           clear HBE
           have HBE := HB4
           clear HB4
           clear HC3
           have HC3 := HC4
           clear HC4 y1 y2
           have y1 := HC3.out.row.cell 1 _ rfl
           have y2 := HC3.out.row.cell 2 _ rfl
           have q1 := HC3.out.row.soft 1
           have q2 := HC3.out.row.soft 2
           have hgl := HC3.out.row.lt
           clear hown4 hg4 hd4)
        | (refine step_app elt_bl flV_len flV_one rfl (.tmp 35) (.tmp 39) rfl (ys := [p2]) (HC3.out.keep (by repeat (first | exact Keep.refl _ | apply Keep.alloc | apply Keep.gro | apply Keep.drew | apply Keep.drewN))).o2 rfl rfl (sl_one _ (by decide) (by decide) (flV_cell ?h0)) (by rw [HL2.out]; simp; omega) (by first | omega | (simp [go_sem]; omega)) ?_
           case h0 => first | (simp [go_sem]; done) | exact HCF.out _ _ (by first | omega | (simp [go_sem]; omega)) (by simp [go_sem])
           intro v5 w5 hown5 hg5 hd5
           obtain ⟨A5, c5, rfl, _⟩ := hown5.sl flV_len (by simp [HL2.out]; omega)
           have HC5 := Lib.hid ((HC3.out.keep (by repeat (first | exact Keep.refl _ | apply Keep.alloc | apply Keep.gro | apply Keep.drew | apply Keep.drewN))).app2 hown5 hg5 hd5)
           have HCF := Lib.hid (fun q u => HKB.out _ _ _ _ HO2.out hg5 q u)
           have HB5 := Lib.hid ((HBE.out.keep (by repeat (first | exact Keep.refl _ | apply Keep.alloc | apply Keep.gro | apply Keep.drew | apply Keep.drewN))).grown hg5 (HOW2.out))
           clear HBE
           have HBE := HB5
           clear HB5
           clear HC3
           have HC3 := HC5
           clear HC5 y1 y2
           have y1 := HC3.out.row.cell 1 _ rfl
           have y2 := HC3.out.row.cell 2 _ rfl
           have q1 := HC3.out.row.soft 1
           have q2 := HC3.out.row.soft 2
           have hgl := HC3.out.row.lt
           clear hown5 hg5 hd5))
       all_goals
         go_wp2
         go_meet
         case rel =>
           have e1 : L1.length + 1 = k + 1 := by rw [HL1.out]
           have e2 : L2.length + 1 = k + 1 := by rw [HL2.out]
           rw [HF1.out, HF2.out, e1, e2]
           have h := (HC3.out.set 1 (.slice A4 (k + 1) c4)).set 2 (.slice A5 (k + 1) c5)
           rw [show (L1 ++ [p1]).length = k + 1 by simp [HL1.out], show (L2 ++ [p2]).length = k + 1 by simp [HL2.out]] at h
           exact ⟨rfl, _, _, _, _, Lib.hid h, Lib.hid ((HBE.out.setCell (Nat.le_of_eq HG0.out) _).setCell (Nat.le_of_eq HG0.out) _)⟩
       --DEVEND
      case rest =>
       subst hKL
       obtain ⟨rfl, A4, A5, c4, c5, HC6, HB6⟩ := hcut
       clear y1 y2 q1 q2 hgl HC3 HKB HO1 HO2 HOW1 HOW2 HBE hb1 hb2
       go_wp2
       go_roundw
       case rel => exact ⟨k + 1, A4, A5, c4, c5, by omega, by go_num, HC6, (by rw [show a + 2 + (k + 1) = a + 2 + k + 1 by omega]; exact Rd.later HRD0.out HRD3.out HB6.out), grownBy_bel HGR3.out HB6.out⟩
       case measure => simp [intOf]; omega
    · have hkn : k = cs.length := by omega
      subst hkn
      clear hlt hk
      have hd3 : bs.drop (a + 2 + cs.length) = [UInt8.ofNat c.split.length] ++ (c.split.flatMap (fun x => le x.toNat 2) ++ (le c.leaf.toNat 4 ++ rest)) := by
        have h2 := HD2.out
        rw [List.append_assoc] at h2
        have h3 := drop_step h2
        rw [range_flag_len] at h3
        rw [h3]
        simp
      have HU := Lib.hid (u8_at wr c.split.length (by omega) HRD.out hd3)
      have hd4 := drop_step hd3
      simp only [List.length_singleton] at hd4
      have HD4 := Lib.hid hd4
      have hg8 : decide ((8 : Int) < (c.split.length : Int)) = false := by simp; omega
      generalize hL1 : flagsR c.inv cs.length = L1 at HC
      generalize hL2 : flagsR c.rng cs.length = L2 at HC
      have HL1 := Lib.hid hL1
      have HL2 := Lib.hid hL2
      clear hL1 hL2
      clear hd3 hd4 HD2 HSV
      go_wp2_with (go_at_call 157; refine Zone.hold ?_)
      refine Zone.unhold ?_
      refine HU.out.mono ?_
      rintro e w7 ⟨rfl, hrd7, hg7⟩
      have HC7 := Lib.hid (show CfT w7 g [.int .i64 sv, .slice A1 cs.length c1, .slice A2 cs.length c2, .slice none 0 0, .int .i64 0] (.slice A1 cs.length c1) L1 (.slice A2 cs.length c2) L2 (.slice none 0 0) [] from ⟨HC.out.reader hg7 (by have := HG0.out; omega), Own.nil_ _ _ _ _ _, fun j hj => by cases hj⟩)
      have HRD7 := Lib.hid hrd7
      have HGR7 := Lib.hid (grownBy_trans HGR.out hg7)
      clear hrd7 hg7 HU HC HRD HGR
      go_wp2
      go_loopw [51] (fun i wr => ∃ (k : Nat) (A3 : Option Addr) (c3 : Nat), k ≤ c.split.length ∧ i = .int .i64 k ∧ Hid (CfT wr g [.int .i64 sv, .slice A1 cs.length c1, .slice A2 cs.length c2, .slice A3 k c3, .int .i64 0] (.slice A1 cs.length c1) L1 (.slice A2 cs.length c2) L2 (.slice A3 k c3) (c.split.take k)) ∧ Hid (Rd wr R A c0 bs (a + 2 + cs.length + 1 + 2 * k) false) ∧ Hid (w.grownBy wr (some R))) (fun i _ => c.split.length - (intOf i).toNat)
      case atStart => exact ⟨0, none, 0, Nat.zero_le _, rfl, HC7.out, HRD7.out, HGR7.out⟩
      case round =>
        clear HC7 HRD7 HGR7
        obtain ⟨k, A3, c3, hk, rfl, HC, HRD, HGR⟩ := hrel
        by_cases hlt : k < c.split.length
        · have hsp := HSP.out k hlt
          obtain ⟨q, hq⟩ : ∃ q : Nat, c.split[k] = (q : Int) := ⟨(c.split[k]).toNat, by omega⟩
          have hdk : bs.drop (a + 2 + cs.length + 1 + 2 * k) = le q 2 ++ ((c.split.drop (k + 1)).flatMap (fun x => le x.toNat 2) ++ (le c.leaf.toNat 4 ++ rest)) := by
            have h2 := HD4.out
            rw [flat_split (fun x : Int => le x.toNat 2) c.split k hlt, List.append_assoc] at h2
            have h3 := drop_step h2
            have h4 : ((c.split.take k).flatMap (fun x => le x.toNat 2)).length = 2 * k := by
              rw [split_len, List.length_take, Nat.min_eq_left hk]
            rw [h4] at h3
            rw [h3, hq]
            simp
          have HTK := Lib.hid (show c.split.take (k + 1) = c.split.take k ++ [(q : Int)] by rw [List.take_succ_eq_append_getElem hlt, hq])
          have hql : q < cs.length := by omega
          have HU := Lib.hid (u16_at wr q (by omega) HRD.out hdk)
          have hgq : decide ((cs.length : Int) ≤ (q : Int)) = false := by simp; omega
          have HTL := Lib.hid (show (c.split.take k).length = k by simp; omega)
          clear hdk hq hsp
          generalize c.split.take k = L3 at HC HTK HTL
          go_wp2_with (go_at_call 202; refine Zone.hold ?_)
          refine Zone.unhold ?_
          refine HU.out.mono ?_
          rintro e w8 ⟨rfl, hrd8, hg8'⟩
          have HC8 := Lib.hid (HC.out.reader hg8' (by have := HG0.out; omega))
          have HRD8 := Lib.hid hrd8
          have HGR8 := Lib.hid (grownBy_trans HGR.out hg8')
          clear hrd8 hg8' HU HC HRD HGR
          have y3 := HC8.out.c.row.cell 3 _ rfl
          have q3 := HC8.out.c.row.soft 3
          have hgl := HC8.out.c.row.lt
          go_wp2_with (at_builtin; refine Zone.hold ?_)
          refine Zone.unhold ?_
          have hke : Keep w8 (w8.alloc (.cells #[.int .i64 (q : Int)] 3)) := (by repeat (first | exact Keep.refl _ | apply Keep.alloc | apply Keep.gro | apply Keep.drew | apply Keep.drewN))
          have HC9 := Lib.hid (HC8.out.keep hke)
          refine wpList_app elt_in i64V_len i64V_one rfl (.tmp 66) (.tmp 68) rfl (ys := [(q : Int)]) HC9.out.o3 rfl rfl (sl_one _ (by omega) (by omega) (fun j u hu => by
            match j, hu with
            | 0, hu => cases hu; simp [go_sem])) (by rw [HTL.out]; simp; omega) (by simp; omega) ?_
          intro v10 w10 hown10 hg10 hd10
          have hor : ∀ j, (Value.slice A3 k c3).ownBlock = some j → w.heap.size ≤ j := fun j hj => by have := (HC9.out.o3.lt j hj).1; have := HG0.out; omega
          obtain ⟨A10, c10, rfl, _⟩ := hown10.sl i64V_len (by simp [HTL.out]; omega)
          have hc10 := HC9.out.app3 hown10 hg10 hd10
          rw [show (L3 ++ [(q : Int)]).length = k + 1 by simp [HTL.out]] at hc10 ⊢
          have HC10 := Lib.hid hc10
          have hb10 := Bel.grown (Bel.keep (Bel.refl HGR8.out.size) hke) hg10 hor
          have HB10 := Lib.hid hb10
          have HW10 := Lib.hid hb10.size
          clear hown10 hg10 hd10 hor hke hc10 hb10 HC9 HC8 y3 q3 hgl
          have y3 := HC10.out.c.row.cell 3 _ rfl
          have q3 := HC10.out.c.row.soft 3
          have hgl := HC10.out.c.row.lt
          go_wp2
          go_roundw
          case rel => exact ⟨k + 1, A10, c10, by omega, by go_num, (by
            rw [HTK.out]
            exact HC10.out.set 3 (.slice A10 (k + 1) c10)), (by
            rw [show a + 2 + cs.length + 1 + 2 * (k + 1) = a + 2 + cs.length + 1 + 2 * k + 2 by omega]
            exact Rd.later HRD0.out HRD8.out (HB10.out.setCell (Nat.le_of_eq HG0.out) _)), grownBy_bel HGR8.out (HB10.out.setCell (Nat.le_of_eq HG0.out) _)⟩
          case measure => simp [intOf]; omega
        · have hkn : k = c.split.length := by omega
          subst hkn
          rw [List.take_length] at HC
          clear hlt hk
          obtain ⟨lf, hlf⟩ : ∃ lf : Nat, c.leaf = (lf : Int) := ⟨c.leaf.toNat, by omega⟩
          have hd5 := drop_step HD4.out
          rw [split_len, hlf, Int.toNat_natCast] at hd5
          have HU := Lib.hid (u32_at wr lf (by omega) HRD.out hd5)
          rw [hlf] at hf1 hf2
          have HLF := Lib.hid hlf
          clear hd5 HD4 hlf
          go_wp2_with (go_at_call 92; refine Zone.hold ?_)
          refine Zone.unhold ?_
          refine HU.out.mono ?_
          rintro e w11 ⟨rfl, hrd11, hg11⟩
          have HC11 := Lib.hid (HC.out.reader hg11 (by have := HG0.out; omega))
          have HRD11 := Lib.hid hrd11
          have HGR11 := Lib.hid (grownBy_trans HGR.out hg11)
          clear hrd11 hg11 HU HC HRD HGR
          have y0 := HC11.out.c.row.cell 0 _ rfl
          have y1 := HC11.out.c.row.cell 1 _ rfl
          have y2 := HC11.out.c.row.cell 2 _ rfl
          have y3 := HC11.out.c.row.cell 3 _ rfl
          have y4 := HC11.out.c.row.cell 4 _ rfl
          have q0 := HC11.out.c.row.soft 0
          have q1 := HC11.out.c.row.soft 1
          have q2 := HC11.out.c.row.soft 2
          have q3 := HC11.out.c.row.soft 3
          have q4 := HC11.out.c.row.soft 4
          have hgl := HC11.out.c.row.lt
          have hz := HGR11.out.size
          have hbe := (((((((Bel.refl (W0 := w11) (n := w.heap.size) hz).setCell (a := ⟨g, 4, none⟩) (Nat.le_of_eq HG0.out) (.int .i64 (lf : Int))).setCell (a := ⟨g, 0, none⟩) (Nat.le_of_eq HG0.out) (.int .i64 sv)).setCell (a := ⟨g, 1, none⟩) (Nat.le_of_eq HG0.out) (.slice A1 cs.length c1)).setCell (a := ⟨g, 2, none⟩) (Nat.le_of_eq HG0.out) (.slice A2 cs.length c2)).setCell (a := ⟨g, 3, none⟩) (Nat.le_of_eq HG0.out) (.slice A3 c.split.length c3)).setCell (a := ⟨g, 4, none⟩) (Nat.le_of_eq HG0.out) (.int .i64 (lf : Int)))
          have hcf := (((((HC11.out.set 4 (.int .i64 (lf : Int))).set 0 (.int .i64 sv)).set 1 (.slice A1 cs.length c1)).set 2 (.slice A2 cs.length c2)).set 3 (.slice A3 c.split.length c3)).set 4 (.int .i64 (lf : Int))
          simp only [List.set] at hcf
          have HBE := Lib.hid hbe
          have HCF := Lib.hid hcf
          clear hbe hcf
          go_wp2
          rw [show g = w.heap.size from HG0.out.symm] at *
          have hE := HLF.out
          rw [hE, HL1.out, HL2.out]
          generalize hW : World.setCell _ _ _ = W at HBE HCF ⊢
          refine bodyPost_ret (v := .tuple #[.agg #[.int .i64 sv, .slice A1 cs.length c1, .slice A2 cs.length c2, .slice A3 c.split.length c3, .int .i64 (lf : Int)], .bool true]) ?_ rfl ⟨_, _, _, rfl, HCF.out.c.o1, HCF.out.c.o2, HCF.out.o3, ?_, grownBy_bel HGR11.out HBE.out⟩
          · have hl := run_loadVar_row W w.heap.size 26 26 _ _ _ HCF.out.c.row Tryz.underlying26 rfl (by kernel_rfl)
            simp [results, Tryz.results153, asAddr, hl]
          · have := Rd.later HRD0.out HRD11.out HBE.out
            rw [show a + (cfgB cs.length c).length = a + 2 + cs.length + 1 + 2 * c.split.length + 4 by rw [cfgB_len]; omega]
            exact this
end Go.Proofs.YtmcaednlilhnoaaGreatDoor
