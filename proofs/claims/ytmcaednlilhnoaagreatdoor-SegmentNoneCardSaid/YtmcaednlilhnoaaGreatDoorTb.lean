
/- The table: Copy. -/
import Derived.WalkKit
import Derived.Lib.Hide
import Derived.WalkSpells
import Derived.WalkLawsBesides
import Derived.BigQuiet
import Derived.Shelf.Abstract
import Derived.Deep.Cut
import Derived.Deep.CutRange
import Derived.Laws.CopyRow
import Derived.Test.YtmcaednlilhnoaaGreatDoorTa
import Derived.Test.YtmcaednlilhnoaaGreatDoorJg
namespace Go.Zone
open Go.RowKit
/-- copy, whatever an element's cells: a part of a row is written over -/
theorem run_copy_k {P : Program} (w : World) (dT sT ty elem : TypeId) (k g o dLen dCap : Nat) (a : Addr) (sLen sCap : Nat) (cur : Array Value) (t : TypeId) (cs : List Value)
    (hu : P.underlying dT = some (.slice elem)) (hs : (P.info? elem).map (·.size) = some k)
    (hg : w.heap[g]? = some (.cells cur t (0, 0))) (hn : cs.length = Nat.min sLen dLen * k)
    (hsrc : ∀ j v, cs[j]? = some v → w.cell? (a.add j) = some v) (hfit : o + cs.length ≤ cur.size) (h1 : ∀ v ∈ cs, v.oneCell' = true) :
    (Builtin.copy_ #[dT, sT] ty #[.slice (some ⟨g, o, none⟩) dLen dCap, .slice (some a) sLen sCap]).run P w =
      .ok (goInt (Nat.min sLen dLen)) (w.setRow g (cur.toList.take o ++ cs ++ cur.toList.drop (o + cs.length)).toArray) := by
  have hl := run_loadCells_list (P := P) w a cs hsrc
  have hst := run_storeCells_at P g o t cs 0 cur w hg (by simpa using hfit) h1
  cases hq : P.info? elem with
  | none => simp [hq] at hs
  | some i =>
    have hi : i.size = k := by simpa [hq] using hs
    simp [Builtin.copy_, run_underlying hu, Builtin.lenOf, Builtin.firstCells, sizeOf, typeInfo, hq, hi, ← hn, hl, hst]
/-- a whole row is written over, as a step of a region that draws -/
theorem step_copy_k {α : Type} {P : Program} {ops : Array Oper} {o : Oper} {a : Act} {w : World} {K : Act → World → Prop} {Q : Exit → Act → World → Prop} {N : Prop} (hgd : o.guard = none) (d s : Operand) (dT sT elem : TypeId)
    (ho : o.op = .call { callee := .builtin .copy, args := #[d, s], argTypes := #[dT, sT] }) {k : Nat} (hu : P.underlying dT = some (.slice elem)) (hs : (P.info? elem).map (·.size) = some k)
    {enc : α → List Value} (hk : ∀ x, (enc x).length = k) (h1 : ∀ x, ∀ u ∈ enc x, u.oneCell' = true) {g dCap sCap n : Nat} {A : Option Addr} {xs : List α} {t : TypeId} {cur : List Value} (hd : a.eval d = .slice (some ⟨g, 0, none⟩) n dCap) (hsv : a.eval s = .slice A n sCap) (hn : n = xs.length)
    (hx : Sl w k enc A sCap xs) (hg : Row w g t cur) (hc : cur.length = n * k)
    (h : ∀ w', Row w' g t (xs.flatMap enc) → Turn w w' [g] → K (a.put o.dst (goInt n)) w') : if Region.wanted o (yielded ops a.tmps) = true then Oper.wp P o a w K Q else N := by
  have hw : Region.wanted o (yielded ops a.tmps) = true := by simp [Region.wanted, hgd]
  rw [if_pos hw]
  have hfl := flat_len hk xs
  have hmin : Nat.min n n = n := Nat.min_self n
  have hrun : (Builtin.copy_ #[dT, sT] o.type #[.slice (some ⟨g, 0, none⟩) n dCap, .slice A n sCap]).run P w = .ok (goInt n) (w.setRow g (xs.flatMap enc).toArray) := by
    rcases A with _ | ad
    · have h0 : xs = [] := by
        rcases xs with _ | ⟨y, r⟩
        · rfl
        · obtain ⟨_, _, hA, _⟩ := hx.at_ 0 (by simp)
          cases hA
      subst h0
      simp only [List.length_nil] at hn
      subst hn
      have hcur : cur = [] := List.eq_nil_of_length_eq_zero (by omega)
      subst hcur
      rw [show ((([] : List α).flatMap enc).toArray) = ([] : List Value).toArray from rfl, setRow_self w g _ t (0, 0) hg]
      cases hq : P.info? elem with
      | none => simp [hq] at hs
      | some i => simp [Builtin.copy_, run_underlying hu, Builtin.lenOf, Builtin.firstCells, sizeOf, typeInfo, hq, storeCells]
    · have := run_copy_k (P := P) w dT sT o.type elem k g 0 n dCap ad n sCap cur.toArray t (xs.flatMap enc) hu hs hg (by rw [hmin, hfl, hn]) (fun j v hj => by
          have hjl : j < xs.length * k := by rw [← hfl]; exact (List.getElem?_eq_some_iff.1 hj).1
          have hk0 : 0 < k := Nat.pos_of_ne_zero fun e => by subst e; simp at hjl
          have hi : j / k < xs.length := by rw [Nat.div_lt_iff_lt_mul hk0]; exact hjl
          obtain ⟨b, off, hA, hcell⟩ := hx.at_ (j / k) hi
          have hm : j / k * k + j % k = j := by rw [Nat.mul_comm]; exact Nat.div_add_mod j k
          have hlt : j % k < (enc xs[j / k]).length := by rw [hk]; exact Nat.mod_lt _ hk0
          have h2 := flat_get hk xs (j / k) (j % k) hi _ (List.getElem?_eq_getElem hlt)
          rw [hm, hj] at h2
          injection h2 with h2
          have h3 := hcell (j % k) _ (List.getElem?_eq_getElem hlt)
          injection hA with hA
          subst hA
          rw [Nat.add_assoc, hm, ← h2] at h3
          unfold Addr.add
          split
          · rename_i h0; subst h0; exact h3
          · exact h3) (by rw [Nat.zero_add, hfl, List.size_toArray, hc, hn]; exact Nat.le_refl _) (fun v hv => by
          obtain ⟨x, _, hx2⟩ := List.mem_flatMap.1 hv
          exact h1 x v hx2)
      rw [this]
      congr 2
      · rw [hmin]
      · have : cur.drop (xs.flatMap enc).length = [] := List.drop_eq_nil_of_le (by rw [hfl, hc, hn]; exact Nat.le_refl _)
        rw [List.take_zero, List.nil_append, Nat.zero_add, show cur.toArray.toList = cur from rfl, this, List.append_nil]
  unfold Oper.wp execOp
  simp only [ho, resolve, invoke, builtin, Sem.run_bind, Sem.run_pure, Result.andThen_ok, List.map_toArray, List.map_cons, List.map_nil, hd, hsv, hrun]
  exact h _ (setRow_heap w g _ _ _ _ hg) ⟨rfl, rfl, rfl, by simp [World.setRow], fun i _ hi => Go.setRow_other w g i _ (fun e => hi (by simp [e]))⟩
theorem Row.setRow {w : World} {g : Nat} {T : TypeId} {vs us : List Value} (h : Row w g T vs) : Row (w.setRow g us.toArray) g T us := setRow_heap w g _ _ _ _ h
theorem Row.setRow_other {w : World} {g b : Nat} {T : TypeId} {vs : List Value} (h : Row w g T vs) (us : Array Value) (hb : b ≠ g) : Row (w.setRow b us) g T vs := (Go.setRow_other w b g us (fun e => hb e.symm)).trans h
theorem Keep.setRow {w0 w : World} {g : Nat} (h : Keep w0 w) (hg : w0.heap.size ≤ g) (cs : Array Value) : Keep w0 (w.setRow g cs) :=
  ⟨h.os, h.tape, h.output, Nat.le_trans h.size (by simp [World.setRow]), fun k hk => (setRow_other w g k cs (by omega)).trans (h.block k hk)⟩
end Go.Zone
namespace Go.Proofs.YtmcaednlilhnoaaGreatDoor
open Go.RowKit Go.Zone Go.Shelf
attribute [local go_sem] Zone.zone Zone.stepZ Zone.fill Zone.lookFs Zone.goes Zone.goesUpon Zone.dropFs Zone.cell_gro Zone.frozen_gro Zone.size_gro Zone.lt_add Zone.drew_gro Zone.tape_gro Zone.keep_refl
attribute [local go_sem] Zone.lt_add2 Zone.lt_add3 Zone.lt_add4 Zone.lt_add5 Zone.lt_add6 Zone.lt_add7 Zone.lt_add8 Zone.lt_add9 Zone.lt_add10 Zone.lt_add11 Zone.lt_add12
theorem info_val3 : (Tryz.prog.info? 61).map (fun i => (i.zero, i.size, i.bytes)) = some (some (.agg #[.int .u8 0, .int .i64 0, .string ⟨#[]⟩]), 3, 32) := by kernel_rfl
theorem info_row : (Tryz.prog.info? 33).map (fun i => (i.zero, i.size, i.bytes)) = some (some (.slice none 0 0), 1, 24) := by kernel_rfl
theorem val_size : (Tryz.prog.info? 61).map (·.size) = some 3 := by kernel_rfl
theorem info_partsV {o : Option TypeInfo} {z : Value} {n m : Nat} (h : o.map (fun i => (i.zero, i.size, i.bytes)) = some (some z, n, m)) : ∃ i, o = some i ∧ i.zero = some z ∧ i.size = n ∧ i.bytes = m := by
  cases o with
  | none => cases h
  | some i =>
    simp only [Option.map_some, Option.some.injEq, Prod.mk.injEq] at h
    exact ⟨i, rfl, h.1, h.2.1, h.2.2⟩
/-- a list of values, all nought, made -/
theorem made_vals (n base : Nat) (W : World) (hn : n ≤ 1000000000) (hb : base ≤ W.heap.size) :
    ∃ W', (Instr.makeSlice 33 (.int .i64 (n : Int)) (.int .i64 (n : Int))).run Tryz.prog W = .ok (.slice (some ⟨W.heap.size, 0, none⟩) n n) W' ∧ Row W' W.heap.size 61 ((List.replicate n zeroVal).flatMap Val.cells) ∧ Keep W W' := by
  obtain ⟨i, hi, h1, h2, h3⟩ := info_partsV info_val3
  have hr := run_make (P := Tryz.prog) W 33 61 i _ Tryz.underlying33 hi h1 .i64 .i64 (n : Int) (n : Int) (by omega) (by omega) (by rw [h3]; omega) (by omega)
  rw [Int.toNat_natCast, h2] at hr
  refine ⟨_, hr, ?_, Keep.alloc (Keep.refl _) _⟩
  have e : (madeCells (Value.agg #[.int .u8 0, .int .i64 0, .string ⟨#[]⟩]).cells (n * 3)) = ((List.replicate n zeroVal).flatMap Val.cells).toArray := by
    apply Array.ext
    · have e1 : (madeCells (Value.agg #[.int .u8 0, .int .i64 0, .string ⟨#[]⟩]).cells (n * 3)).size = n * 3 := by simp [madeCells]
      have e2 : ((List.replicate n zeroVal).flatMap Val.cells).length = n * 3 := by rw [flat_len val_len, List.length_replicate]
      exact e1.trans e2.symm
    · intro i h1 h2
      have hi : i < n * 3 := by simpa [madeCells] using h1
      have hf := flat_get (k := 3) (enc := Val.cells) val_len (List.replicate n zeroVal) (i / 3) (i % 3) (by simp; omega)
      have hm : i / 3 * 3 + i % 3 = i := by omega
      rw [hm] at hf
      have hlt : i % 3 < 3 := by omega
      simp only [madeCells, Array.getElem_map, Array.getElem_range, Value.cells, List.getElem_toArray]
      rcases (show i % 3 = 0 ∨ i % 3 = 1 ∨ i % 3 = 2 by omega) with e | e | e
      all_goals
        have := hf _ (by rw [e]; simp [zeroVal, Val.cells]; rfl)
        rw [List.getElem?_eq_some_iff] at this
        obtain ⟨_, h⟩ := this
        rw [h]
        simp [e]
  rw [e]
  exact row_alloc _ _ _
/-- a row of one's own -/
def NewRow (w : World) (base : Nat) (r : Rw) : Prop := ∃ b, r.A = some ⟨b, 0, none⟩ ∧ base ≤ b ∧ Row w b 61 (r.vs.flatMap Val.cells) ∧ r.c = r.vs.length
theorem NewRow.keep {w w' : World} {base : Nat} {r : Rw} (h : NewRow w base r) (hk : Keep w w') : NewRow w' base r := by
  obtain ⟨b, h1, h2, h3, h4⟩ := h
  exact ⟨b, h1, h2, h3.keep hk, h4⟩
theorem NewRow.sl {w : World} {base : Nat} {r : Rw} (h : NewRow w base r) (hl : r.vs.length ≤ 140737488355328) : Sl w 3 Val.cells r.A r.c r.vs := by
  obtain ⟨b, h1, h2, h3, h4⟩ := h
  rw [h1, h4]
  exact h3.sl_blk val_len hl (Nat.le_refl _) (by omega)
theorem NewRow.turn {w w' : World} {base : Nat} {r : Rw} {S : List Nat} (h : NewRow w base r) (ht : Turn w w' S) (hs : ∀ i ∈ S, i < w.heap.size → ∀ vs, ¬ Row w i 61 vs) : NewRow w' base r := by
  obtain ⟨b, h1, h2, h3, h4⟩ := h
  exact ⟨b, h1, h2, ht.row h3 (fun hm => hs b hm h3.lt _ h3), h4⟩
def zRw : Rw := ⟨none, 0, []⟩
abbrev OwnR (w : World) (base : Nat) (v : Value) (l : List Rw) : Prop := Own w base 33 1 Rw.cells v l
set_option maxRecDepth 100000 in
set_option maxHeartbeats 4000000 in
theorem tcopy_any (A : Option Addr) (c : Nat) (rows : List Rw) (w : World) (h : Sl w 1 Rw.cells A c rows) (hs : RowsAt w rows) (hl : rows.length ≤ 1000000000) (hr : ∀ r ∈ rows, r.vs.length ≤ 1000000000) :
    Calls Tryz.prog 55 #[.slice A rows.length c] w fun e w' => ∃ g, e = .returned (.slice (some ⟨g, 0, none⟩) rows.length rows.length) ∧ ∃ L, OwnR w' w.heap.size (.slice (some ⟨g, 0, none⟩) rows.length rows.length) L ∧ (∀ r ∈ L, NewRow w' w.heap.size r) ∧ L.map (·.vs) = rows.map (·.vs) ∧ Keep w w' := by
  have H := Lib.hid h
  have HS := Lib.hid hs
  have HR := Lib.hid hr
  generalize hn : rows.length = n at hl
  have HN := Lib.hid hn
  obtain ⟨i0, hi0, i1, i2, i3⟩ := info_partsV info_row
  obtain ⟨W', hmk, ho, hk⟩ := own_made1 (P := Tryz.prog) (z := zRw) rw_f rfl Tryz.underlying77 hi0 i1 i2 n w.heap.size w (by rw [i3]; omega) (by omega) (Nat.le_refl _)
  have HO := Lib.hid ho
  have HK := Lib.hid hk
  clear h hs hr ho hk i0 hi0 i1 i2 i3 hn
  generalize hg : w.heap.size = g at HO hmk
  have HG := Lib.hid hg
  clear hg
  go_enter Tryz.func55, Tryz.ntmps55
  go_wp2
  clear hmk
  go_loopw [10] (fun i wr => ∃ (k : Nat) (L : List Rw), k ≤ n ∧ i = .int .i64 k ∧ Hid (L.length = k) ∧ Hid (L.map (·.vs) = (rows.take k).map (·.vs)) ∧ Hid (OwnR wr g (.slice (some ⟨g, 0, none⟩) n n) (L ++ List.replicate (n - k) zRw)) ∧ Hid (∀ r ∈ L, NewRow wr g r) ∧ Hid (Keep w wr)) (fun i _ => n - (intOf i).toNat)
  case atStart => exact ⟨0, [], Nat.zero_le _, rfl, rfl, rfl, HO.out, (fun _ h => by cases h), HK.out⟩
  case round =>
    clear HO HK
    obtain ⟨k, L, hk, rfl, HLL, HLM, HO, HNW, HK⟩ := hrel
    by_cases hlt : k < n
    · have hlt2 : k < rows.length := by rw [HN.out]; exact hlt
      obtain ⟨b, off, hA, hb, h00⟩ := sl_rw H.out k hlt2
      have h0 := (HK.out.cell (p := ⟨b, off + k, none⟩) hb).trans h00
      have hbr := Nat.lt_of_lt_of_le hb HK.out.size
      have HSR := Lib.hid (HS.out rows[k] (List.getElem_mem hlt2))
      have hrl := HR.out rows[k] (List.getElem_mem hlt2)
      have HTK := Lib.hid (show (rows.take (k + 1)).map (·.vs) = (rows.take k).map (·.vs) ++ [rows[k].vs] by rw [List.take_succ_eq_append_getElem hlt2, List.map_append]; rfl)
      subst hA
      generalize rows[k] = r at h0 h00 HSR hrl HTK
      obtain ⟨rA, rc, vs⟩ := r
      simp only at h0 h00 HSR hrl HTK
      obtain ⟨W2, hmk, hrow, hk2⟩ := made_vals vs.length w.heap.size wr hrl HK.out.size
      have hg2 : g ≤ wr.heap.size := by have := HK.out.size; have := HG.out; omega
      generalize hgq : wr.heap.size = g2 at hmk hrow hg2
      have HGQ := Lib.hid hgq
      clear hgq
      have HK2 := Lib.hid hk2
      have HRW := Lib.hid hrow
      have hlen : (L ++ List.replicate (n - k) zRw).length = n := by have := HLL.out; simp; omega
      have ho2 := HO.out.keep hk2
      have hset : (L ++ List.replicate (n - k) zRw).set k ⟨some ⟨g2, 0, none⟩, vs.length, vs⟩ = (L ++ [⟨some ⟨g2, 0, none⟩, vs.length, vs⟩]) ++ List.replicate (n - (k + 1)) zRw := by
        have h1 := HLL.out
        rw [List.set_append_right _ _ (by omega), h1, Nat.sub_self, show n - k = (n - (k + 1)) + 1 by omega, List.replicate_succ, List.set_cons_zero, List.append_assoc]; rfl
      obtain ⟨c0, c1, c2, c3⟩ := ho2.cell1 rw_f hlen.symm k (by omega)
      have ho3 := ho2.set1 rw_f hlen.symm k ⟨some ⟨g2, 0, none⟩, vs.length, vs⟩ rfl
      rw [hset] at ho3
      generalize (L ++ List.replicate (n - k) zRw)[k]'(by rw [hlen]; exact hlt) = y at c0
      obtain ⟨yA, yc, yv⟩ := y
      simp only at c0
      have hne : g2 ≠ g := fun e => own_row_ne ho2 hrow (by decide) (by rw [e]; rfl)
      have HO3 := Lib.hid ho3
      have HNE := Lib.hid hne
      have HG2 := Lib.hid hg2
      clear ho2 ho3 hset hrow hk2 hne
      go_upto_region 6 with fail
      have hw : Hid (Turn W2 (W2.setCell ⟨g, k, none⟩ (.slice (some ⟨g2, 0, none⟩) vs.length vs.length)) [g]) := Turn.set _ _ _
      generalize W2.setCell ⟨g, k, none⟩ (.slice (some ⟨g2, 0, none⟩) vs.length vs.length) = w3 at HO3 hw ⊢
      have HR3 := Lib.hid (hw.out.row HRW.out (fun e => HNE.out (by simpa using e)))
      have HK3 := Lib.hid (show Keep w w3 from Turn.after (HK.out.trans HK2.out) hw.out (fun i hi => by simp only [List.mem_singleton] at hi; rw [hi]; exact Nat.le_of_eq HG.out))
      have hlen3 : ((L ++ [(⟨some ⟨g2, 0, none⟩, vs.length, vs⟩ : Rw)]) ++ List.replicate (n - (k + 1)) zRw).length = n := by have := HLL.out; simp; omega
      obtain ⟨d0, d1, d2, d3⟩ := HO3.out.cell1 rw_f hlen3.symm k (by omega)
      have he : ((L ++ [(⟨some ⟨g2, 0, none⟩, vs.length, vs⟩ : Rw)]) ++ List.replicate (n - (k + 1)) zRw)[k]'(by omega) = ⟨some ⟨g2, 0, none⟩, vs.length, vs⟩ := by
        rw [List.getElem_append_left (by have := HLL.out; simp; omega), List.getElem_append_right (by have := HLL.out; omega)]
        simp
      rw [he] at d0
      simp only at d0
      have h03 := (HK3.out.cell (p := ⟨b, off + k, none⟩) hb).trans h00
      have hb3 := Nat.lt_of_lt_of_le hb HK3.out.size
      have hz3 := HR3.out.lt
      clear h0 hbr c0 c1 c2 c3 hlen hlen3 he hmk
      go_region_law (refine step_copy_k rfl (.tmp 25) (.tmp 29) 33 33 61 rfl Tryz.underlying33 val_size val_len val_one rfl rfl rfl (HSR.out.keep (HK3.out.trans (by repeat (first | exact Keep.refl _ | apply Keep.alloc | apply Keep.gro | apply Keep.drew | apply Keep.drewN)))) (HR3.out.keep (by repeat (first | exact Keep.refl _ | apply Keep.alloc | apply Keep.gro | apply Keep.drew | apply Keep.drewN))) (by rw [flat_len val_len, List.length_replicate]) ?_
                     intro w4 hr4 ht4
                     have HR4 := Lib.hid hr4
                     have HT4 := Lib.hid (Turn.trans (Turn.keep (show Keep w3 _ from (by repeat (first | exact Keep.refl _ | apply Keep.alloc | apply Keep.gro | apply Keep.drew | apply Keep.drewN))) [g2]) ht4)
                     clear hr4 ht4)
      all_goals
        go_wp2
        go_roundw
        case rel =>
          have hg2s : ∀ i ∈ [g2], g ≤ i := fun i hi => by simp only [List.mem_singleton] at hi; rw [hi]; exact HG2.out
          refine ⟨k + 1, L ++ [⟨some ⟨g2, 0, none⟩, vs.length, vs⟩], by omega, by go_num, ?_, ?_, ?_, ?_, ?_⟩
          · show _ = _
            rw [List.length_append, HLL.out]; rfl
          · show _ = _
            rw [HTK.out, List.map_append, HLM.out]; rfl
          · exact Own.turn HO3.out HT4.out fun i hi e => by
              simp only [List.mem_singleton] at hi
              subst hi
              exact HNE.out (by simpa [Value.ownBlock] using e.symm)
          · intro r hr
            rw [List.mem_append, List.mem_singleton] at hr
            rcases hr with hr | rfl
            · obtain ⟨bb, e1, e2, hrb, e4⟩ := HNW.out r hr
              have hbg : bb ≠ g := fun e => own_row_ne HO.out hrb (by decide) (by rw [e]; rfl)
              have hbg2 : bb ≠ g2 := fun e => by have := hrb.lt; have := HGQ.out; omega
              exact ⟨bb, e1, e2, HT4.out.row (hw.out.row (hrb.keep HK2.out) (by simpa using hbg)) (by simpa using hbg2), e4⟩
            · exact ⟨g2, rfl, HG2.out, HR4.out, rfl⟩
          · exact Turn.after HK3.out HT4.out (fun i hi => by rw [HG.out]; exact hg2s i hi)
        case measure => simp [intOf]; omega
    · have hkl : k = n := by omega
      subst hkl
      rw [Nat.sub_self, List.replicate_zero, List.append_nil] at HO
      go_wp2
      exact bodyPost_ret (v := .slice (some ⟨g, 0, none⟩) k k) (by simp [results, Tryz.results55, go_sem]) rfl ⟨g, rfl, L, HO.out, HNW.out, by rw [HLM.out, ← HN.out, List.take_length], HK.out⟩
end Go.Proofs.YtmcaednlilhnoaaGreatDoor
