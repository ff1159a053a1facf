
/- IdsRestrict: filters that differ in their places in memory alone: plain. -/
import Derived.WalkKit
import Derived.Lib.Hide
import Derived.WalkSpells
import Derived.WalkLawsBesides
import Derived.BigQuiet
import Derived.Shelf.Abstract
import Derived.Test.YthigflnfccajoaaGreatBo
import Derived.Test.YthigflnfccajoaaGreatZoneM
import Derived.Test.YthigflnfccajoaaGreatIknw
namespace Go.Proofs.YthigflnfccajoaaGreat
open Go.RowKit Go.Zone Go.Shelf
/-- A filter without its places in memory. -/
def erase (n : Nd) : Nd := ⟨n.op, none, 0, n.kids.attach.map fun k => erase k.1, n.col, n.cmp, none, 0, n.vals⟩
termination_by SizeOf.sizeOf n
decreasing_by exact kid_lt k.2
theorem erase_eq (n : Nd) : erase n = ⟨n.op, none, 0, n.kids.map erase, n.col, n.cmp, none, 0, n.vals⟩ := by
  rw [erase]
  congr 1
  exact List.attach_map_val (l := n.kids) (f := erase)
theorem er_op (n : Nd) : (erase n).op = n.op := by rw [erase_eq]
theorem er_kids (n : Nd) : (erase n).kids = n.kids.map erase := by rw [erase_eq]
theorem er_col (n : Nd) : (erase n).col = n.col := by rw [erase_eq]
theorem er_cmp (n : Nd) : (erase n).cmp = n.cmp := by rw [erase_eq]
theorem er_vals (n : Nd) : (erase n).vals = n.vals := by rw [erase_eq]
theorem colsOf_er (n : Nd) : colsOf (erase n) = colsOf n := by
  rw [colsOf_eq, colsOf_eq, er_op, er_col, er_kids]
  congr 2
  rw [List.flatMap_map]
  congr 1
  simp only [List.flatMap_def]
  congr 1
  exact List.map_congr_left fun k hk => colsOf_er k
termination_by SizeOf.sizeOf n
decreasing_by exact kid_lt hk
theorem all_er {l : List Nd} {p q : Nd → Bool} (h : ∀ k ∈ l, q (erase k) = p k) : (l.map erase).all q = l.all p := by
  rw [List.all_map, Bool.eq_iff_iff, List.all_eq_true, List.all_eq_true]
  exact ⟨fun g k hk => by rw [← h k hk]; exact g k hk, fun g k hk => by simp only [Function.comp_apply]; rw [h k hk]; exact g k hk⟩
theorem any_er {l : List Nd} {p q : Nd → Bool} (h : ∀ k ∈ l, q (erase k) = p k) : (l.map erase).any q = l.any p := by
  rw [List.any_map, Bool.eq_iff_iff, List.any_eq_true, List.any_eq_true]
  exact ⟨fun ⟨k, hk, g⟩ => ⟨k, hk, by rw [← h k hk]; exact g⟩, fun ⟨k, hk, g⟩ => ⟨k, hk, by simp only [Function.comp_apply]; rw [h k hk]; exact g⟩⟩
theorem oneB_er (kind : Int) (y : Val) (n : Nd) : oneB kind y (erase n) = oneB kind y n := by
  have ha := all_er (l := n.kids) (p := oneB kind y) (q := oneB kind y) fun k hk => oneB_er kind y k
  have hb := any_er (l := n.kids) (p := oneB kind y) (q := oneB kind y) fun k hk => oneB_er kind y k
  rw [oneB_eq, oneB_eq, er_op, er_kids, ha, hb]
  by_cases h4 : n.op = 4
  · rw [if_pos h4, if_pos h4, leaf_one _ _ _ (by rw [er_op]; exact h4), leaf_one _ _ _ h4, er_cmp, er_vals]
  · rw [if_neg h4, if_neg h4]
termination_by SizeOf.sizeOf n
decreasing_by all_goals exact kid_lt hk
theorem takesB_er (cols : List Col) (row : List Val) (n : Nd) : takesB cols row (erase n) = takesB cols row n := by
  have ha := any_er (l := n.kids) (p := fun k => !takesB cols row k) (q := fun k => !takesB cols row k) fun k hk => by rw [takesB_er cols row k]
  have hb := any_er (l := n.kids) (p := takesB cols row) (q := takesB cols row) fun k hk => takesB_er cols row k
  rw [takesB_eq, takesB_eq, er_op, er_kids, er_col, er_cmp, er_vals, ha, hb]
termination_by SizeOf.sizeOf n
decreasing_by all_goals exact kid_lt hk
theorem sz_er (n : Nd) : (erase n).sz = n.sz := by
  rw [sz_eq, sz_eq, er_kids, List.map_map]
  congr 2
  exact List.map_congr_left fun k hk => sz_er k
termination_by SizeOf.sizeOf n
decreasing_by exact kid_lt hk
def mapE (o : Option (List Nd)) : Option (List Nd) := o.map fun l => l.map erase
theorem catO_er (a b : Option (List Nd)) : catO (mapE a) (mapE b) = mapE (catO a b) := by
  cases a <;> cases b <;> simp [mapE, catO]
theorem parts_er (n : Nd) : partsOf (erase n) = mapE (partsOf n) := by
  have hf : ∀ (l : List Nd) (a : Option (List Nd)), (∀ k ∈ l, partsOf (erase k) = mapE (partsOf k)) → (l.map erase).foldl (fun acc k => catO acc (partsOf k)) (mapE a) = mapE (l.foldl (fun acc k => catO acc (partsOf k)) a) := by
    intro l
    induction l with
    | nil => intro a _; rfl
    | cons x r ih =>
      intro a h
      rw [List.map_cons, List.foldl_cons, List.foldl_cons, h x (by simp), catO_er]
      exact ih _ fun k hk => h k (by simp [hk])
  rw [partsOf_eq, partsOf_eq, colsOf_er, er_op, er_kids]
  have h1 := hf n.kids (some []) fun k hk => parts_er k
  split
  · rfl
  · split
    · exact h1
    · rfl
termination_by SizeOf.sizeOf n
decreasing_by exact kid_lt hk
theorem nothP_er (n : Nd) : nothP (erase n) = nothP n := by unfold nothP; rw [colsOf_er, takesB_er]
theorem nothTo_er (ps : List Nd) : nothTo (ps.map erase) = nothTo ps := any_er fun k _ => nothP_er k
theorem bitTo_er (dk : Nm → Int) (s : Nm) (y : Val) (ps : List Nd) : bitTo dk s y (ps.map erase) = bitTo dk s y ps := all_er fun k _ => by rw [colsOf_er, oneB_er]
theorem mayTo_er (dk : Nm → Int) (dy : Nm → List Val) (s : Nm) (ps : List Nd) : mayTo dk dy s (ps.map erase) = mayTo dk dy s ps := by
  rw [may_get, may_get]
  exact List.map_congr_left fun y _ => bitTo_er dk s y ps
/-- Filters that are alike have like parts. -/
theorem parts_like {n m : Nd} (h : erase n = erase m) : mapE (partsOf n) = mapE (partsOf m) := by rw [← parts_er, ← parts_er, h]
theorem cols_like {n m : Nd} (h : erase n = erase m) : colsOf n = colsOf m := by rw [← colsOf_er, ← colsOf_er m, h]
theorem sz_like {n m : Nd} (h : erase n = erase m) : n.sz = m.sz := by rw [← sz_er, ← sz_er m, h]
theorem op_like {n m : Nd} (h : erase n = erase m) : n.op = m.op := by rw [← er_op, ← er_op m, h]
theorem parts_like_some {n m : Nd} (h : erase n = erase m) {ps qs : List Nd} (hp : partsOf n = some ps) (hq : partsOf m = some qs) : ps.map erase = qs.map erase := by
  have := parts_like h
  rw [hp, hq] at this
  exact Option.some.inj this
theorem parts_like_none {n m : Nd} (h : erase n = erase m) : partsOf n = none ↔ partsOf m = none := by
  have := parts_like h
  cases hn : partsOf n <;> cases hm : partsOf m <;> rw [hn, hm] at this <;> simp [mapE] at this ⊢
theorem noth_like {ps qs : List Nd} (h : ps.map erase = qs.map erase) : nothTo ps = nothTo qs := by rw [← nothTo_er, ← nothTo_er qs, h]
theorem may_like {ps qs : List Nd} (h : ps.map erase = qs.map erase) (dk : Nm → Int) (dy : Nm → List Val) (s : Nm) : mayTo dk dy s ps = mayTo dk dy s qs := by rw [← mayTo_er, ← mayTo_er dk dy s qs, h]
theorem one_like {n m : Nd} (h : erase n = erase m) (kind : Int) (ys : List Val) : oneF kind ys n = oneF kind ys m := by
  rw [one_get, one_get]
  exact List.map_congr_left fun y _ => by rw [← oneB_er, ← oneB_er kind y m, h]
theorem wf_er {cols : List Col} {d : Nat} {n : Nd} (h : NodeWf cols d n) : NodeWf cols d (erase n) := by
  induction h with
  | leaf d n hd ho h => exact .leaf d _ hd (by rw [er_op]; exact ho) (by unfold leafWf; rw [er_kids, er_vals, er_cmp, er_col, List.length_map]; exact h)
  | node d n hd ho h hk ih =>
    refine .node d _ hd (by rw [er_op]; exact ho) ⟨by rw [er_cmp]; exact h.cmp, by rw [er_vals]; exact h.vals, by rw [er_op]; exact h.op, fun e => by rw [er_kids, List.length_map]; exact h.all (by rw [← er_op]; exact e), fun e => by rw [er_kids, List.length_map]; exact h.not (by rw [← er_op]; exact e)⟩ fun k hk' => ?_
    rw [er_kids, List.mem_map] at hk'
    obtain ⟨q, hq, rfl⟩ := hk'
    exact ih q hq
end Go.Proofs.YthigflnfccajoaaGreat
/- IdsRestrict: a filter's copy: ref24.CopyNode. -/
namespace Go.Proofs.YthigflnfccajoaaGreat
open Go.RowKit Go.Zone Go.Shelf
attribute [local go_sem] Zone.zone Zone.stepZ Zone.fill Zone.lookFs Zone.goes Zone.goesUpon Zone.dropFs Zone.cell_gro Zone.frozen_gro Zone.size_gro Zone.lt_add Zone.drew_gro Zone.tape_gro Zone.keep_refl
attribute [local go_sem] Zone.lt_add2 Zone.lt_add3 Zone.lt_add4 Zone.lt_add5 Zone.lt_add6 Zone.lt_add7 Zone.lt_add8 Zone.lt_add9 Zone.lt_add10 Zone.lt_add11 Zone.lt_add12
theorem Nd.In.by2 {w w' : World} {b r : Nat} {n : Nd} (h : Nd.In w b n) (h2 : Nd.In w r n) (hg : w.grownBy w' (some r)) : Nd.In w' b n := by
  induction h with
  | mk n hk hv hA hB _ ih => exact .mk n (By.sl hg hk fun g off e hp he => h2.neA g off e hp (Option.some.inj he)) (By.sl hg hv fun g off e hp he => h2.neB g off e hp (Option.some.inj he)) hA hB fun k hk => ih k hk (h2.kid k hk)
theorem Nd.In.byO {w w' : World} {b : Nat} {o : Option Nat} {n : Nd} (h : Nd.In w b n) (h2 : ∀ r, o = some r → Nd.In w r n) (hg : w.grownBy w' o) : Nd.In w' b n := by
  cases o with
  | some r => exact h.by2 (h2 r rfl) hg
  | none => exact h.keep ⟨hg.os, hg.tape, hg.output, hg.size, fun i hi => hg.block i hi (fun e => by cases e)⟩
theorem By.frozen_ {w w' : World} {o : Option Nat} (hg : w.grownBy w' o) {a : Addr} (ha : a.block < w.heap.size) (hne : some a.block ≠ o) : w'.frozen? a = w.frozen? a := by
  have hb := hg.block a.block ha hne
  unfold World.frozen?
  rw [hb]
/-- A copy of a filter, in blocks from base on. -/
def Copy (base : Nat) (n m : Nd) (W : World) : Prop := erase m = erase n ∧ ∀ b, b < base ∨ W.heap.size ≤ b → Nd.In W b m
theorem Copy.mono {base base' : Nat} {n m : Nd} {W W' : World} (h : Copy base n m W) (hb : base' ≤ base) (hk : Keep W W') : Copy base' n m W' := ⟨h.1, fun b hb' => by
  refine (h.2 b ?_).keep hk
  have := hk.size
  omega⟩
/-- The copies made so far. -/
structure Copies (W : World) (base : Nat) (v : Value) (ns qs : List Nd) : Prop where
  own : OwnD W base v qs
  like : qs.map erase = ns.map erase
  off : ∀ q ∈ qs, ∀ b, b < base ∨ W.heap.size ≤ b ∨ v.ownBlock = some b → Nd.In W b q
theorem Copies.nil_ (W : World) (base : Nat) : Copies W base (.slice none 0 0) [] [] := ⟨Own.nil_ _ _ _ _ _, rfl, fun q hq => absurd hq (by simp)⟩
theorem Copies.keep {W W' : World} {base : Nat} {v : Value} {ns qs : List Nd} (h : Copies W base v ns qs) (hk : Keep W W') : Copies W' base v ns qs :=
  ⟨h.own.keep hk, h.like, fun q hq b hb => (h.off q hq b (by have := hk.size; exact hb.elim .inl fun hb => hb.elim (fun hb => .inr (.inl (by omega))) fun hb => .inr (.inr hb))).keep hk⟩
theorem Copies.set {W : World} {base : Nat} {v : Value} {ns qs : List Nd} (h : Copies W base v ns qs) (a : Addr) (u : Value) (ha : a.block < base) : Copies (W.setCell a u) base v ns qs :=
  ⟨h.own.grown (By.set W a u) (fun j hj e => by have := (h.own.lt j e).1; injection hj with hj; omega), h.like, fun q hq b hb => (h.off q hq b (by simpa using hb)).by2 (h.off q hq a.block (.inl ha)) (By.set W a u)⟩
/-- One more. -/
theorem Copies.app {W W' : World} {base : Nat} {v v' : Value} {ns qs : List Nd} {n m : Nd} (h : Copies W base v ns qs) (hb : base ≤ W.heap.size) (hc : Copy base n m W) (hv : ∀ b, v.ownBlock = some b → Nd.In W b m)
    (ho : OwnD W' base v' (qs ++ [m])) (hg : W.grownBy W' v.ownBlock) (he : v'.ownBlock = v.ownBlock ∨ v'.ownBlock = some W.heap.size) : Copies W' base v' (ns ++ [n]) (qs ++ [m]) :=
  ⟨ho, by simp [h.like, hc.1], fun q hq b hb' => by
    have hs := hg.size
    rw [List.mem_append, List.mem_singleton] at hq
    rcases hq with hq | rfl
    · have h1 : ∀ c, c < base ∨ W.heap.size ≤ c ∨ v.ownBlock = some c → Nd.In W' c q := fun c hc => (h.off q hq c hc).byO (fun r hr => h.off q hq r (.inr (.inr hr))) hg
      refine h1 b ?_
      rcases hb' with hb' | hb' | hb'
      · exact .inl hb'
      · exact .inr (.inl (by omega))
      · rcases he with he | he
        · exact .inr (.inr (by rw [← he]; exact hb'))
        · rw [he] at hb'; injection hb' with hb'; exact .inr (.inl (by omega))
    · have h1 : ∀ c, c < base ∨ W.heap.size ≤ c ∨ v.ownBlock = some c → Nd.In W' c q := fun c hcc => by
        have : Nd.In W c q := by
          rcases hcc with hcc | hcc | hcc
          · exact hc.2 c (.inl hcc)
          · exact hc.2 c (.inr hcc)
          · exact hv c hcc
        exact this.byO (fun r hr => hv r hr) hg
      refine h1 b ?_
      rcases hb' with hb' | hb' | hb'
      · exact .inl hb'
      · exact .inr (.inl (by omega))
      · rcases he with he | he
        · exact .inr (.inr (by rw [← he]; exact hb'))
        · rw [he] at hb'; injection hb' with hb'; exact .inr (.inl (by omega))⟩
set_option maxRecDepth 100000 in
set_option maxHeartbeats 4000000 in
theorem copy_any (w0 : World) (b0 : Nat) (n : Nd) (hn : Nd.In w0 b0 n) : ∀ (w : World), Keep w0 w → sizeF n ≤ 1000000 →
    Calls Tryz.prog 9 #[n.v] w fun e w' => ∃ m, e = .returned m.v ∧ Copy w.heap.size n m w' ∧ Keep w w' := by
  induction hn with
  | mk n hk hv hA hB hi ih =>
  intro w hk0 hsz
  have HS := Lib.hid (hk.keep hk0)
  have HV := Lib.hid (hv.keep hk0)
  have hkl := hk.len
  have hvl := hv.len
  have HZ := Lib.hid (show 1 + n.vals.length + (n.kids.map sizeF).sum ≤ 1000000 by have := sizeF_eq n; omega)
  have HZV := Lib.hid (show n.vals.length ≤ 1000000 by have := HZ.out; omega)
  have HZK := Lib.hid (show n.kids.length ≤ 1000000 by
    have h : ∀ l : List Nd, l.length ≤ (l.map sizeF).sum := by
      intro l
      induction l with
      | nil => simp
      | cons x r ih => have := sizeF_eq x; simp only [List.length_cons, List.map_cons, List.sum_cons]; omega
    have := h n.kids
    have := HZ.out
    omega)
  have IH := Lib.hid (show ∀ k ∈ n.kids, ∀ W, Keep w W → Calls Tryz.prog 9 #[k.v] W fun e w' => ∃ m, e = .returned m.v ∧ Copy W.heap.size k m w' ∧ Keep W w' from
    fun k hk W hW => ih k hk W (hk0.trans hW) (by have := sizeF_mem n.kids k hk; have := HZ.out; omega))
  have HE := Lib.hid (erase_eq n)
  obtain ⟨nn, hnn⟩ : ∃ nn, nn = n := ⟨_, rfl⟩
  have HNN := Lib.hid hnn
  obtain ⟨op, KA, kc, kids, col, cmp, VB, vd, vals⟩ := n
  clear hk hv hA hB hi ih hk0 hsz hnn
  simp only [Nd.v] at HS HV hkl hvl HZ HZV HZK IH HE HNN ⊢
  go_enter Tryz.func9, Tryz.ntmps9
  go_wp2_with (at_builtin; refine Zone.hold ?_)
  refine Zone.unhold ?_
  have HO0 := own_empty (enc := Val.cells) (k := 3) ((((w.alloc (.cells #[.int .u8 op, .slice KA kids.length kc, .string col, .int .u8 cmp, .slice VB vals.length vd] 27)).alloc (.cells #[.int .u8 0, .slice none 0 0, .string ⟨#[]⟩, .int .u8 0, .slice none 0 0] 27)).alloc (.cells #[.int .u8 op, .slice none 0 0, .string col, .int .u8 cmp, .slice VB vals.length vd] 27)).alloc (.cells #[] 51)) (w.heap.size + 1 + 1 + 1) 51 (w.heap.size + 1 + 1 + 1) (Nat.le_refl _) (by
    have := heap_alloc_new (((w.alloc (.cells #[.int .u8 op, .slice KA kids.length kc, .string col, .int .u8 cmp, .slice VB vals.length vd] 27)).alloc (.cells #[.int .u8 0, .slice none 0 0, .string ⟨#[]⟩, .int .u8 0, .slice none 0 0] 27)).alloc (.cells #[.int .u8 op, .slice none 0 0, .string col, .int .u8 cmp, .slice VB vals.length vd] 27)) (.cells #[] 51)
    simpa using this)
  refine wpList_app elt_val val_len val_one rfl (.tmp 7) (.tmp 9) rfl (ys := vals) HO0 rfl rfl (HV.out.keep (by repeat (first | exact Keep.refl _ | apply Keep.alloc | apply Keep.gro | apply Keep.drew | apply Keep.drewN))) (by have := HZV.out; simp; omega) (by simp) ?_
  intro v4 w4 hown4 hg4 _
  simp only [List.nil_append] at hown4
  have hob : ∀ j, v4.ownBlock = some j → w.heap.size + 1 + 1 + 1 ≤ j := fun j hj => (hown4.lt j hj).1
  obtain ⟨B4, d4, rfl, hs4⟩ := hown4.sl val_len (by have := HZV.out; omega)
  have ⟨hK4, hz4, hc4⟩ := HO0.after (w := w) hg4 (by repeat (first | exact Keep.refl _ | apply Keep.alloc | apply Keep.gro | apply Keep.drew | apply Keep.drewN)) (by omega)
  have hf4 : ∀ a : Addr, a.block < w.heap.size + 1 + 1 + 1 → w4.frozen? a = _ := fun a ha => By.frozen_ hg4 (a := a) (by simp; omega) (by simp [Value.ownBlock]; omega)
  have n1 := hc4 ⟨w.heap.size, 1, none⟩ (.slice KA kids.length kc) (by show _ < _; simp; try omega) (by simp [go_sem])
  have o0 := hc4 ⟨w.heap.size + 1 + 1, 0, none⟩ (.int .u8 op) (by show _ < _; simp; try omega) (by simp [go_sem])
  have o1 := hc4 ⟨w.heap.size + 1 + 1, 1, none⟩ (.slice none 0 0) (by show _ < _; simp; try omega) (by simp [go_sem])
  have o2 := hc4 ⟨w.heap.size + 1 + 1, 2, none⟩ (.string col) (by show _ < _; simp; try omega) (by simp [go_sem])
  have o3 := hc4 ⟨w.heap.size + 1 + 1, 3, none⟩ (.int .u8 cmp) (by show _ < _; simp; try omega) (by simp [go_sem])
  have o4 := hc4 ⟨w.heap.size + 1 + 1, 4, none⟩ (.slice VB vals.length vd) (by show _ < _; simp; try omega) (by simp [go_sem])
  have r0 := hc4 ⟨w.heap.size + 1, 0, none⟩ (.int .u8 0) (by show _ < _; simp; try omega) (by simp [go_sem])
  have r1 := hc4 ⟨w.heap.size + 1, 1, none⟩ (.slice none 0 0) (by show _ < _; simp; try omega) (by simp [go_sem])
  have r2 := hc4 ⟨w.heap.size + 1, 2, none⟩ (.string ⟨#[]⟩) (by show _ < _; simp; try omega) (by simp [go_sem])
  have r3 := hc4 ⟨w.heap.size + 1, 3, none⟩ (.int .u8 0) (by show _ < _; simp; try omega) (by simp [go_sem])
  have r4 := hc4 ⟨w.heap.size + 1, 4, none⟩ (.slice none 0 0) (by show _ < _; simp; try omega) (by simp [go_sem])
  have fo : ∀ j, w4.frozen? ⟨w.heap.size + 1 + 1, j, none⟩ = false := fun j => (hf4 ⟨w.heap.size + 1 + 1, j, none⟩ (by simp)).trans (by simp [go_sem])
  have fr : ∀ j, w4.frozen? ⟨w.heap.size + 1, j, none⟩ = false := fun j => (hf4 ⟨w.heap.size + 1, j, none⟩ (by show _ < _; simp; try omega)).trans (by simp [go_sem])
  have FO := Lib.hid fo
  have FR := Lib.hid fr
  have fo4 := fo 4
  have HS4 := Lib.hid hs4
  have HB4 := Lib.hid (show ∀ g off, B4 = some ⟨g, off, none⟩ → 0 < vals.length → w.heap.size + 1 + 1 + 1 ≤ g ∧ g < w4.heap.size from fun g off e h0 => by
    subst e
    have := hown4.lt g (by
      obtain ⟨g', off', e', _⟩ := hs4.at_ 0 h0
      rcases hown4.2 with ⟨e2, _⟩ | ⟨g2, cap2, cur2, e2, _⟩
      · cases e2
      · injection e2 with e3 _ _; injection e3 with e3; injection e3 with e4 e5 _; subst e4; subst e5; rfl)
    exact this)
  have HK4 := Lib.hid hK4
  have hz5 : w.heap.size + 1 + 1 + 1 < w4.heap.size := by simp at hz4; omega
  clear hK4 hz4 hc4 hf4 hs4 hob hown4 hg4 HO0 fo fr
  go_wp2
  go_loopw [4] (fun i wr => ∃ k : Nat, k ≤ kids.length ∧ i = .int .i64 k ∧ ∃ kv qs, Hid (Copies wr w4.heap.size kv (kids.take k) qs) ∧ Hid (w4.grownBy wr (some (w.heap.size + 1 + 1))) ∧ wr.cell? ⟨w.heap.size + 1 + 1, 0, none⟩ = some (.int .u8 op) ∧ wr.cell? ⟨w.heap.size + 1 + 1, 1, none⟩ = some kv ∧ wr.cell? ⟨w.heap.size + 1 + 1, 2, none⟩ = some (.string col) ∧ wr.cell? ⟨w.heap.size + 1 + 1, 3, none⟩ = some (.int .u8 cmp) ∧ wr.cell? ⟨w.heap.size + 1 + 1, 4, none⟩ = some (.slice B4 vals.length d4) ∧ wr.frozen? ⟨w.heap.size + 1 + 1, 1, none⟩ = false) (fun i _ => kids.length - (intOf i).toNat)
  case atStart =>
    exact ⟨0, Nat.zero_le _, rfl, .slice none 0 0, [], Copies.nil_ _ _, By.set w4 ⟨w.heap.size + 1 + 1, 4, none⟩ _, by simpa [go_sem] using o0, by simpa [go_sem] using o1, by simpa [go_sem] using o2, by simpa [go_sem] using o3, World.cell?_setCell_same _ _ _ o4, by rw [World.frozen?_setCell]; exact FO.out 1⟩
  case round =>
    obtain ⟨k, hk, rfl, kv, qs, HC, HG, x0, x1, x2, x3, x4, xf⟩ := hrel
    have y1 := HG.out.cell n1 (by show some w.heap.size ≠ _; simp; omega)
    have hzr := HG.out.size
    have z3 : w.heap.size + 1 + 1 < wr.heap.size := by omega
    have z1 : w.heap.size < wr.heap.size := by omega
    by_cases hlt : k < kids.length
    · have HKR := Lib.hid (show Keep w wr from HK4.out.grown HG.out (fun j e => by injection e with e; omega))
      obtain ⟨g, off, hA9, hg, h0, h1, h2, h3, h4⟩ := sl_nd (HS.out.keep HKR.out) k hlt
      have HCA := Lib.hid (fun W (hW : Keep wr W) => IH.out kids[k] (List.getElem_mem hlt) W (HKR.out.trans hW))
      have HLI := Lib.hid hlt
      subst hA9
      go_wp2
      first | refine Zone.wp_region_m_gro 1 9 (by kernel_rfl) (by kernel_rfl) ?_ | refine Zone.wp_region_m 1 9 (by kernel_rfl) (by kernel_rfl) ?_
      simp only [List.take_succ_cons, List.take_zero, List.drop_succ_cons, List.drop_zero]
      refine Zone.wpI_step _ (by rfl) (fun _ => by rfl) ?_
      refine Zone.wpI_nil ?_
      iterate 6
        refine Zone.wpZ_step (fun K hK => ?_)
        go_simp
        (refine hK _ _ ?_; clear hK K)
      refine Zone.wpZ_free 26 (fun u W => ∃ m : Nd, u = m.v ∧ Copy wr.heap.size kids[k] m W) rfl (fun _ W W' hk ⟨m, h1, h2⟩ => ⟨m, h1, h2.mono (Nat.le_refl _) hk⟩) ?_ ?_
      · intro p
        simp only [Zone.fill, Zone.lookFs, List.filter_nil]
        go_simp
        go_at_call 9
        refine (HCA.out _ (by repeat (first | exact Keep.refl _ | apply Keep.alloc | apply Keep.gro | apply Keep.drew | apply Keep.drewN))).mono ?_
        rintro e w5 ⟨m, rfl, hc5, hk5⟩
        exact ⟨_, rfl, ⟨m, rfl, hc5.mono (by simp [size_gro]) (Keep.refl _)⟩, hk5⟩
      refine Zone.wpZ_free 27 (fun u W => ∃ g m, u = .slice (some ⟨g, 0, none⟩) 1 1 ∧ Sl W 5 Nd.cells (some ⟨g, 0, none⟩) 1 [m] ∧ Copy wr.heap.size kids[k] m W) rfl (fun _ W W' hk ⟨g, m, h1, h2, h3⟩ => ⟨g, m, h1, h2.keep hk, h3.mono (Nat.le_refl _) hk⟩) ?_ ?_
      · intro p
        rw [show Zone.lookFs _ _ _ = [(26, (fun u W => ∃ m : Nd, u = m.v ∧ Copy wr.heap.size kids[k] m W))] from rfl]
        rintro v5 ⟨m, rfl, hc5⟩
        go_simp
        refine ⟨⟨m, ?_, hc5.mono (Nat.le_refl _) (Keep.alloc (Keep.refl _) _)⟩, Keep.alloc (Keep.refl _) _⟩
        have h8 := sl_blk (k := 5) (enc := Nd.cells) (xs := [m]) (fun _ => rfl) (at_alloc (wr.gro p) ([m].flatMap Nd.cells) 27) (by simp)
        simp only [size_gro, List.length_singleton] at h8
        exact h8
      refine Zone.wpZ_nil ?_
      intro p
      simp only [Zone.fill]
      rintro u5 ⟨g5, m5, rfl, hs5, hc5⟩ u6 hu6
      clear hu6
      simp only [Zone.dropFs, List.filter_nil, Zone.fill]
      have HC5 := Lib.hid hc5
      have HS5 := Lib.hid hs5
      have hkp := below_gro wr p
      have HC1 := Lib.hid (HC.out.keep hkp)
      have HG1 := Lib.hid (By.trans HG.out (By.keep hkp))
      have HQL := Lib.hid (show qs.length = k by have := congrArg List.length HC.out.like; simp at this; omega)
      have hz6 : wr.heap.size ≤ (wr.gro p).heap.size := hkp.size
      have q0 := (hkp.cell (p := ⟨w.heap.size + 1 + 1, 0, none⟩) z3).trans x0
      have q1 := (hkp.cell (p := ⟨w.heap.size + 1 + 1, 1, none⟩) z3).trans x1
      have q2 := (hkp.cell (p := ⟨w.heap.size + 1 + 1, 2, none⟩) z3).trans x2
      have q3 := (hkp.cell (p := ⟨w.heap.size + 1 + 1, 3, none⟩) z3).trans x3
      have q4 := (hkp.cell (p := ⟨w.heap.size + 1 + 1, 4, none⟩) z3).trans x4
      have qf := (hkp.frozen (p := ⟨w.heap.size + 1 + 1, 1, none⟩) z3).trans xf
      have HV5 := Lib.hid (show ∀ b, kv.ownBlock = some b → Nd.In (wr.gro p) b m5 from fun b hb => hc5.2 b (.inl (HC.out.own.lt b hb).2))
      clear hs5 hc5 x0 x1 x2 x3 x4 xf y1 h0 h1 h2 h3 h4 hg HCA HKR HC hkp HG
      generalize World.gro _ _ = w6 at HC5 HS5 HC1 HG1 hz6 q0 q1 q2 q3 q4 qf HV5 ⊢
      go_wp2_with (at_builtin; refine Zone.hold ?_)
      refine Zone.unhold ?_
      refine wpList_app elt_nd nd_len nd_one rfl (.tmp 20) (.tmp 27) rfl (ys := [m5]) HC1.out.own rfl rfl HS5.out (by have := HQL.out; have := HZK.out; simp; omega) (by omega) ?_
      intro v7 w7 hown7 hg7 he7
      have HC7 := Lib.hid (HC1.out.app (n := kids[k]) (by omega) (HC5.out.mono (by omega) (Keep.refl _)) HV5.out hown7 hg7 he7)
      have hob : ∀ j, kv.ownBlock = some j → w4.heap.size ≤ j := fun j hj => (HC1.out.own.lt j hj).1
      have hne : some (w.heap.size + 1 + 1) ≠ kv.ownBlock := fun e => by have := hob _ e.symm; omega
      have p0 := hg7.cell q0 hne
      have p1 := hg7.cell q1 hne
      have p2 := hg7.cell q2 hne
      have p3 := hg7.cell q3 hne
      have p4 := hg7.cell q4 hne
      have pf := (By.frozen_ hg7 (a := ⟨w.heap.size + 1 + 1, 1, none⟩) (Nat.lt_of_lt_of_le z3 hz6) hne).trans qf
      have HG7 := Lib.hid (show w4.grownBy w7 (some (w.heap.size + 1 + 1)) from ⟨hg7.os.trans HG1.out.os, hg7.tape.trans HG1.out.tape, hg7.output.trans HG1.out.output, Nat.le_trans HG1.out.size hg7.size, fun i hi hr => (hg7.block i (Nat.lt_of_lt_of_le hi HG1.out.size) (fun e => by have := hob _ e.symm; omega)).trans (HG1.out.block i hi hr)⟩)
      obtain ⟨A7, c7, hv7, _⟩ := hown7.sl nd_len (by have := HQL.out; have := HZK.out; simp; omega)
      obtain ⟨n7, hn7⟩ : ∃ n, (qs ++ [m5]).length = n := ⟨_, rfl⟩
      rw [hn7] at hv7
      subst hv7
      have hz7 : w.heap.size + 1 + 1 < w7.heap.size := Nat.lt_of_lt_of_le (Nat.lt_of_lt_of_le z3 hz6) hg7.size
      clear hn7
      clear hown7 hg7 he7 hob hne q0 q1 q2 q3 q4 qf HC5 HS5 HC1 HG1 HV5 hz6
      go_wp2
      rw [Zone.calm_normal]
      go_wp2
      go_roundw
      case rel =>
        refine ⟨k + 1, by omega, by go_num, _, qs ++ [m5], Lib.hid ?_, Lib.hid (By.trans HG7.out (By.set _ _ _)), by rw [World.cell?_setCell_other _ _ _ _ (by simp)]; exact p0, World.cell?_setCell_same _ _ _ p1, by rw [World.cell?_setCell_other _ _ _ _ (by simp)]; exact p2, by rw [World.cell?_setCell_other _ _ _ _ (by simp)]; exact p3, by rw [World.cell?_setCell_other _ _ _ _ (by simp)]; exact p4, by rw [World.frozen?_setCell]; exact pf⟩
        have := HC7.out.set ⟨w.heap.size + 1 + 1, 1, none⟩ (.slice A7 n7 c7) (by show _ < _; simp; omega)
        rw [List.take_succ_eq_append_getElem hlt]
        exact this
      case measure => simp [intOf]; omega
    · have : k = kids.length := by omega
      subst this
      rw [List.take_length] at HC
      have hql : qs.length = kids.length := by have h := congrArg List.length HC.out.like; rw [List.length_map, List.length_map] at h; exact h
      obtain ⟨A7, c7, rfl, hs7⟩ := HC.out.own.sl nd_len (by have := HZK.out; omega)
      have e0 := HG.out.cell r0 (by show some (w.heap.size + 1) ≠ _; simp)
      have e1 := HG.out.cell r1 (by show some (w.heap.size + 1) ≠ _; simp)
      have e2 := HG.out.cell r2 (by show some (w.heap.size + 1) ≠ _; simp)
      have e3 := HG.out.cell r3 (by show some (w.heap.size + 1) ≠ _; simp)
      have e4 := HG.out.cell r4 (by show some (w.heap.size + 1) ≠ _; simp)
      have ff := fun j => (By.frozen_ HG.out (a := ⟨w.heap.size + 1, j, none⟩) (show w.heap.size + 1 < w4.heap.size by omega) (fun e => by simp at e)).trans (FR.out j)
      have f0 := ff 0
      have f1 := ff 1
      have f2 := ff 2
      have f3 := ff 3
      have f4 := ff 4
      have HS7 := Lib.hid hs7
      have HQL := Lib.hid hql
      clear ff hs7 hql
      have HB5 := Lib.hid (show ∀ u0 u1 u2 u3 u4, wr.grownBy (((((wr.setCell ⟨w.heap.size + 1, 0, none⟩ u0).setCell ⟨w.heap.size + 1, 1, none⟩ u1).setCell ⟨w.heap.size + 1, 2, none⟩ u2).setCell ⟨w.heap.size + 1, 3, none⟩ u3).setCell ⟨w.heap.size + 1, 4, none⟩ u4) (some (w.heap.size + 1)) from fun _ _ _ _ _ => By.trans (By.trans (By.trans (By.trans (By.set _ _ _) (By.set _ _ _)) (By.set _ _ _)) (By.set _ _ _)) (By.set _ _ _))
      have hg5 := HB5.out (.int .u8 op) (.slice A7 qs.length c7) (.string col) (.int .u8 cmp) (.slice B4 vals.length d4)
      have hsz5 : (((((wr.setCell ⟨w.heap.size + 1, 0, none⟩ (.int .u8 op)).setCell ⟨w.heap.size + 1, 1, none⟩ (.slice A7 qs.length c7)).setCell ⟨w.heap.size + 1, 2, none⟩ (.string col)).setCell ⟨w.heap.size + 1, 3, none⟩ (.int .u8 cmp)).setCell ⟨w.heap.size + 1, 4, none⟩ (.slice B4 vals.length d4)).heap.size = wr.heap.size := by simp
      have hA7 : ∀ g off, A7 = some ⟨g, off, none⟩ → 0 < qs.length → w4.heap.size ≤ g ∧ g < wr.heap.size := fun g off e h0 => by
        subst e
        refine HC.out.own.lt g ?_
        rcases HC.out.own.2 with ⟨e2, _⟩ | ⟨g2, cap2, cur2, e2, _⟩
        · cases e2
        · injection e2 with e3 _ _; injection e3 with e3; injection e3 with e4 e5 _; subst e4; subst e5; rfl
      have hmem : ∀ b, b < w.heap.size ∨ wr.heap.size ≤ b → ∀ W, wr.grownBy W (some (w.heap.size + 1)) → Nd.In W b ⟨op, A7, c7, qs, col, cmp, B4, d4, vals⟩ := fun b hb W hW => by
        refine .mk _ (By.sl hW HS7.out fun g off e h0 e2 => ?_) (By.sl hW (By.sl HG.out HS4.out fun g off e h0 e2 => ?_) fun g off e h0 e2 => ?_) (fun g off e h0 => ?_) (fun g off e h0 => ?_) fun q hq => ?_
        · have := (hA7 g off e h0).1; injection e2 with e2; omega
        · have := (HB4.out g off e h0).1; injection e2 with e2; omega
        · have := (HB4.out g off e h0).1; injection e2 with e2; omega
        · have := hA7 g off e h0; omega
        · have := HB4.out g off e h0; omega
        · refine (HC.out.off q hq b ?_).by2 (HC.out.off q hq (w.heap.size + 1) (.inl (by omega))) hW
          rcases hb with hb | hb
          · exact .inl (by omega)
          · exact .inr (.inl hb)
      go_wp2
      have s0 : (wr.setCell ⟨w.heap.size + 1, 0, none⟩ (.int .u8 op)).cell? ⟨w.heap.size + 1, 0, none⟩ = some (.int .u8 op) := World.cell?_setCell_same _ _ _ e0
      have s1 : ((wr.setCell ⟨w.heap.size + 1, 0, none⟩ (.int .u8 op)).setCell ⟨w.heap.size + 1, 1, none⟩ (.slice A7 qs.length c7)).cell? ⟨w.heap.size + 1, 1, none⟩ = some (.slice A7 qs.length c7) := World.cell?_setCell_same _ _ _ (by rw [World.cell?_setCell_other _ _ _ _ (by simp)]; exact e1)
      have s2 : (((wr.setCell ⟨w.heap.size + 1, 0, none⟩ (.int .u8 op)).setCell ⟨w.heap.size + 1, 1, none⟩ (.slice A7 qs.length c7)).setCell ⟨w.heap.size + 1, 2, none⟩ (.string col)).cell? ⟨w.heap.size + 1, 2, none⟩ = some (.string col) := World.cell?_setCell_same _ _ _ (by rw [World.cell?_setCell_other _ _ _ _ (by simp)]; rw [World.cell?_setCell_other _ _ _ _ (by simp)]; exact e2)
      have s3 : ((((wr.setCell ⟨w.heap.size + 1, 0, none⟩ (.int .u8 op)).setCell ⟨w.heap.size + 1, 1, none⟩ (.slice A7 qs.length c7)).setCell ⟨w.heap.size + 1, 2, none⟩ (.string col)).setCell ⟨w.heap.size + 1, 3, none⟩ (.int .u8 cmp)).cell? ⟨w.heap.size + 1, 3, none⟩ = some (.int .u8 cmp) := World.cell?_setCell_same _ _ _ (by rw [World.cell?_setCell_other _ _ _ _ (by simp)]; rw [World.cell?_setCell_other _ _ _ _ (by simp)]; rw [World.cell?_setCell_other _ _ _ _ (by simp)]; exact e3)
      have s4 : (((((wr.setCell ⟨w.heap.size + 1, 0, none⟩ (.int .u8 op)).setCell ⟨w.heap.size + 1, 1, none⟩ (.slice A7 qs.length c7)).setCell ⟨w.heap.size + 1, 2, none⟩ (.string col)).setCell ⟨w.heap.size + 1, 3, none⟩ (.int .u8 cmp)).setCell ⟨w.heap.size + 1, 4, none⟩ (.slice B4 vals.length d4)).cell? ⟨w.heap.size + 1, 4, none⟩ = some (.slice B4 vals.length d4) := World.cell?_setCell_same _ _ _ (by rw [World.cell?_setCell_other _ _ _ _ (by simp)]; rw [World.cell?_setCell_other _ _ _ _ (by simp)]; rw [World.cell?_setCell_other _ _ _ _ (by simp)]; rw [World.cell?_setCell_other _ _ _ _ (by simp)]; exact e4)
      refine bodyPost_ret (v := .agg #[.int .u8 op, .slice A7 qs.length c7, .string col, .int .u8 cmp, .slice B4 vals.length d4]) (by simp [results, Tryz.results9, go_sem, s0, s1, s2, s3, s4]) rfl ⟨⟨op, A7, c7, qs, col, cmp, B4, d4, vals⟩, rfl, ⟨?_, fun b hb => hmem b (by rw [hsz5] at hb; exact hb) _ hg5⟩, (HK4.out.grown HG.out (fun j e => by injection e with e; omega)).grown hg5 (fun j e => by injection e with e; omega)⟩
      rw [HE.out, erase_eq]
      simp only [HC.out.like]
end Go.Proofs.YthigflnfccajoaaGreat
/- IdsRestrict: alike filters are the same: ref10.Same, ref24.same, sameTest, Same. -/
namespace Go.Proofs.YthigflnfccajoaaGreat
open Go.RowKit Go.Zone Go.Shelf
attribute [local go_sem] Zone.zone Zone.stepZ Zone.fill Zone.lookFs Zone.goes Zone.goesUpon Zone.dropFs Zone.cell_gro Zone.frozen_gro Zone.size_gro Zone.lt_add Zone.drew_gro Zone.tape_gro Zone.keep_refl
attribute [local go_sem] Zone.lt_add2 Zone.lt_add3 Zone.lt_add4 Zone.lt_add5 Zone.lt_add6 Zone.lt_add7 Zone.lt_add8 Zone.lt_add9 Zone.lt_add10 Zone.lt_add11 Zone.lt_add12
attribute [local go_sem] Zone.calm_normal
set_option maxRecDepth 100000 in
set_option maxHeartbeats 4000000 in
theorem same10_any (A B : Option Addr) (c d : Nat) (xs : List Val) (w : World) (hx : Sl w 3 Val.cells A c xs) (hy : Sl w 3 Val.cells B d xs) :
    Calls Tryz.prog 77 #[.slice A xs.length c, .slice B xs.length d] w fun e w' => e = .returned (.bool true) ∧ Keep w w' := by
  have hlx := hx.len
  have HX := Lib.hid hx
  have HY := Lib.hid hy
  clear hx hy
  go_enter Tryz.func77, Tryz.ntmps77
  go_wp2
  go_loopw [5] (fun i wr => ∃ k : Nat, k ≤ xs.length ∧ i = .int .i64 k ∧ Hid (Keep w wr)) (fun i _ => xs.length - (intOf i).toNat)
  case atStart => exact ⟨0, Nat.zero_le _, rfl, Keep.refl _⟩
  case round =>
    obtain ⟨k, hk, rfl, HK⟩ := hrel
    by_cases hlt : k < xs.length
    · obtain ⟨bx, ox, rfl, hcx⟩ := (HX.out.keep HK.out).at_ k hlt
      obtain ⟨by_, oy, rfl, hcy⟩ := (HY.out.keep HK.out).at_ k hlt
      have x0 := hcx 0 _ rfl
      have x1 := hcx 1 _ rfl
      have x2 := hcx 2 _ rfl
      have y0 := hcy 0 _ rfl
      have y1 := hcy 1 _ rfl
      have y2 := hcy 2 _ rfl
      have bx0 := World.block_lt_of_cell? _ _ x0
      have by0 := World.block_lt_of_cell? _ _ y0
      simp only [Nat.add_zero] at x0 y0 bx0 by0
      clear hcx hcy
      generalize xs[k] = u at x0 x1 x2 y0 y1 y2
      go_wp2
      first | refine Zone.wp_region_all_gro (by kernel_rfl) (by kernel_rfl) ?_ | refine Zone.wp_region_all (by kernel_rfl) (by kernel_rfl) ?_
      repeat
        refine Zone.wpZ_step (fun K hK => ?_)
        go_simp
        first
        | (refine hK _ _ ?_; clear hK K)
        | (apply Exists.intro
           refine ⟨fun p => ?_, hK _ _ ?_⟩
           (fail)
           clear hK K)
      refine Zone.wpZ_nil ?_
      intro p
      simp only [Zone.fill]
      go_wp2
      go_roundw
      case rel => exact ⟨k + 1, by omega, by go_num, HK.out.trans (by repeat (first | exact Keep.refl _ | apply Keep.alloc | apply Keep.gro | apply Keep.drew | apply Keep.drewN))⟩
      case measure => simp [intOf]; omega
    · have : k = xs.length := by omega
      subst this
      go_wp2
      go_ret
      exact ⟨rfl, HK.out.trans (by repeat (first | exact Keep.refl _ | apply Keep.alloc | apply Keep.gro | apply Keep.drew | apply Keep.drewN))⟩
theorem like_parts {n m : Nd} (h : erase n = erase m) : n.op = m.op ∧ n.col = m.col ∧ n.cmp = m.cmp ∧ n.vals = m.vals ∧ n.kids.map erase = m.kids.map erase := by
  rw [erase_eq, erase_eq] at h
  injection h with h1 _ _ h2 h3 h4 _ _ h5
  exact ⟨h1, h3, h4, h5, h2⟩
theorem like_kid {l r : List Nd} (h : l.map erase = r.map erase) (i : Nat) (h1 : i < l.length) (h2 : i < r.length) : erase l[i] = erase r[i] := by
  have h3 : (l.map erase)[i]? = (r.map erase)[i]? := by rw [h]
  simpa [h1, h2] using h3
set_option maxRecDepth 100000 in
set_option maxHeartbeats 4000000 in
theorem same24_any (w0 : World) (b : Nat) (n : Nd) (hn : Nd.In w0 b n) : ∀ (m : Nd) (b' : Nat), Nd.In w0 b' m → erase n = erase m → ∀ w, Keep w0 w →
    Calls Tryz.prog 46 #[n.v, m.v] w fun e w' => e = .returned (.bool true) ∧ Keep w w' := by
  induction hn with
  | mk n hk hv hA hB hi ih =>
  intro m b' hm he w hk0
  obtain ⟨l1, l2, l3, l4, l5⟩ := like_parts he
  have HKS := Lib.hid (hk.keep hk0)
  have HKS2 := Lib.hid (hm.kids_.keep hk0)
  have hkl := hk.len
  have hvl := hv.len
  have IH := Lib.hid (show ∀ i, (h1 : i < n.kids.length) → (h2 : i < m.kids.length) → ∀ W, Keep w W → Calls Tryz.prog 46 #[n.kids[i].v, m.kids[i].v] W fun e w' => e = .returned (.bool true) ∧ Keep W w' from
    fun i h1 h2 W hW => ih n.kids[i] (List.getElem_mem h1) m.kids[i] b' (hm.kid _ (List.getElem_mem h2)) (like_kid l5 i h1 h2) W (hk0.trans hW))
  have hlen : m.kids.length = n.kids.length := by have h := congrArg List.length l5; rw [List.length_map, List.length_map] at h; exact h.symm
  have HSV := Lib.hid (fun W (hW : Keep w W) => same10_any n.B m.B n.d m.d n.vals W ((hv.keep hk0).keep hW) (by rw [l4]; exact (hm.vals_.keep hk0).keep hW))
  obtain ⟨op, KA, kc, kids, col, cmp, VB, vd, vals⟩ := n
  obtain ⟨op2, KA2, kc2, kids2, col2, cmp2, VB2, vd2, vals2⟩ := m
  clear ih hi hA hB hv hk hm he l5
  dsimp only at l1 l2 l3 l4 hlen HSV HKS HKS2 IH hkl hvl
  subst l1 l2 l3 l4
  have HLEN := Lib.hid hlen
  simp only [Nd.v] at IH ⊢
  rw [hlen]
  clear hlen
  go_enter Tryz.func46, Tryz.ntmps46
  go_wp2_with (go_at_call 77; refine (HSV.out _ (by repeat (first | exact Keep.refl _ | apply Keep.alloc | apply Keep.gro | apply Keep.drew | apply Keep.drewN))).mono ?_; rintro e w' ⟨rfl, hk⟩; (first | obtain ⟨p, rfl⟩ := Zone.gro_of_gro _ _ hk | obtain ⟨p, rfl⟩ := Zone.gro_of_below _ hk); clear hk)
  go_loopw [5] (fun i wr => ∃ k : Nat, k ≤ kids.length ∧ i = .int .i64 k ∧ Hid (Keep w wr) ∧ wr.cell? ⟨w.heap.size, 1, none⟩ = some (.slice KA kids.length kc) ∧ wr.cell? ⟨w.heap.size + 1, 1, none⟩ = some (.slice KA2 kids.length kc2)) (fun i _ => kids.length - (intOf i).toNat)
  case atStart => exact ⟨0, Nat.zero_le _, rfl, (by repeat (first | exact Keep.refl _ | apply Keep.alloc | apply Keep.gro | apply Keep.drew | apply Keep.drewN)), by simp [go_sem, Zone.cell_gro], by simp [go_sem, Zone.cell_gro]⟩
  case round =>
    obtain ⟨k, hk, rfl, HK, x1, y1⟩ := hrel
    have z1 := World.block_lt_of_cell? _ _ x1
    have z2 := World.block_lt_of_cell? _ _ y1
    dsimp only at z1 z2
    by_cases hlt : k < kids.length
    · have hlt2 : k < kids2.length := by have := HLEN.out; omega
      obtain ⟨g, off, rfl, hg, h0, h1, h2, h3, h4⟩ := sl_nd (HKS.out.keep HK.out) k hlt
      obtain ⟨g', off', rfl, hg', h0', h1', h2', h3', h4'⟩ := sl_nd (HKS2.out.keep HK.out) k hlt2
      have HC := Lib.hid (fun W (hW : Keep wr W) => IH.out k hlt hlt2 W (HK.out.trans hW))
      have HLT := Lib.hid hlt
      have HLT2 := Lib.hid hlt2
      generalize kids[k] = u at h0 h1 h2 h3 h4 HC
      generalize kids2[k] = v at h0' h1' h2' h3' h4' HC
      go_wp2
      first | refine Zone.wp_region_all_gro (by kernel_rfl) (by kernel_rfl) ?_ | refine Zone.wp_region_all (by kernel_rfl) (by kernel_rfl) ?_
      repeat
        refine Zone.wpZ_step (fun K hK => ?_)
        go_simp
        first
        | (refine hK _ _ ?_; clear hK K)
        | (apply Exists.intro
           refine ⟨fun p => ?_, hK _ _ ?_⟩
           ((go_at_call 46; refine (HC.out _ (by repeat (first | exact Keep.refl _ | apply Keep.alloc | apply Keep.gro | apply Keep.drew | apply Keep.drewN))).mono ?_; rintro e w5 ⟨rfl, hk5⟩; exact ⟨_, rfl, rfl, hk5⟩))
           clear hK K)
      refine Zone.wpZ_nil ?_
      intro p
      simp only [Zone.fill]
      go_wp2
      go_roundw
      case rel => exact ⟨k + 1, by omega, by go_num, HK.out.trans (by repeat (first | exact Keep.refl _ | apply Keep.alloc | apply Keep.gro | apply Keep.drew | apply Keep.drewN)), ((below_gro wr p).cell (p := ⟨w.heap.size, 1, none⟩) z1).trans x1, ((below_gro wr p).cell (p := ⟨w.heap.size + 1, 1, none⟩) z2).trans y1⟩
      case measure => simp [intOf]; omega
    · have : k = kids.length := by omega
      subst this
      go_wp2
      go_ret
      exact ⟨rfl, HK.out.trans (by repeat (first | exact Keep.refl _ | apply Keep.alloc | apply Keep.gro | apply Keep.drew | apply Keep.drewN))⟩
@[reducible] def tz : Value := .agg #[.int .u8 0, .slice none 0 0, .int .i64 0, .int .u8 0, .int .u8 0, .int .i64 0, .string ⟨#[]⟩]
/-- A question that holds a filter alone. -/
@[reducible] def qz (n : Nd) : Value := .agg #[.int .u8 n.op, .slice n.A n.kids.length n.c, .string n.col, .int .u8 n.cmp, .slice n.B n.vals.length n.d, .slice none 0 0, .slice none 0 0,
  .int .u8 0, .slice none 0 0, .int .i64 0, .int .u8 0, .int .u8 0, .int .i64 0, .string ⟨#[]⟩, .slice none 0 0, .int .i64 0]
set_option maxRecDepth 100000 in
set_option maxHeartbeats 4000000 in
theorem sametest_any (w : World) : Calls Tryz.prog 47 #[tz, tz] w fun e w' => e = .returned (.bool true) ∧ Keep w w' := by
  go_enter Tryz.func47, Tryz.ntmps47
  go_wp2
  go_loopw [5] (fun i wr => i = .int .i64 0 ∧ Hid (Keep w wr) ∧ wr.cell? ⟨w.heap.size, 1, none⟩ = some (.slice none 0 0)) (fun i _ => 0 - (intOf i).toNat)
  case atStart => exact ⟨rfl, (by repeat (first | exact Keep.refl _ | apply Keep.alloc | apply Keep.gro | apply Keep.drew | apply Keep.drewN)), by simp [go_sem]⟩
  case round =>
    obtain ⟨rfl, HK, x1⟩ := hrel
    go_wp2
    go_ret
    exact ⟨rfl, HK.out.trans (by repeat (first | exact Keep.refl _ | apply Keep.alloc | apply Keep.gro | apply Keep.drew | apply Keep.drewN))⟩
set_option maxRecDepth 100000 in
set_option maxHeartbeats 8000000 in
theorem sameq_any (w0 : World) (b b' : Nat) (n m : Nd) (hn : Nd.In w0 b n) (hm : Nd.In w0 b' m) (he : erase n = erase m) (w : World) (hk : Keep w0 w) :
    Calls Tryz.prog 19 #[qz n, qz m] w fun e w' => e = .returned (.bool true) ∧ Keep w w' := by
  have HS := Lib.hid (fun W (hW : Keep w W) => same24_any w0 b n hn m b' hm he W (hk.trans hW))
  have hkl := hn.kids_.len
  have hvl := hn.vals_.len
  have hkl2 := hm.kids_.len
  have hvl2 := hm.vals_.len
  clear hn hm he hk
  obtain ⟨op, KA, kc, kids, col, cmp, VB, vd, vals⟩ := n
  obtain ⟨op2, KA2, kc2, kids2, col2, cmp2, VB2, vd2, vals2⟩ := m
  dsimp only at hkl hvl hkl2 hvl2
  simp only [qz, Nd.v] at HS ⊢
  go_enter Tryz.func19, Tryz.ntmps19
  go_wp2
  go_loopw [5] (fun i wr => i = .int .i64 0 ∧ wr = (((w.alloc (.cells #[.int .u8 op, .slice KA kids.length kc, .string col, .int .u8 cmp, .slice VB vals.length vd, .slice none 0 0, .slice none 0 0,
  .int .u8 0, .slice none 0 0, .int .i64 0, .int .u8 0, .int .u8 0, .int .i64 0, .string ⟨#[]⟩, .slice none 0 0, .int .i64 0] 56)).alloc (.cells #[.int .u8 op2, .slice KA2 kids2.length kc2, .string col2, .int .u8 cmp2, .slice VB2 vals2.length vd2, .slice none 0 0, .slice none 0 0,
  .int .u8 0, .slice none 0 0, .int .i64 0, .int .u8 0, .int .u8 0, .int .i64 0, .string ⟨#[]⟩, .slice none 0 0, .int .i64 0] 56)))) (fun i _ => 0 - (intOf i).toNat)
  case atStart => exact ⟨rfl, rfl⟩
  case round =>
    obtain ⟨rfl, rfl⟩ := hrel
    go_wp2
    go_loopw [6] (fun i wr => i = .int .i64 0 ∧ wr = (((w.alloc (.cells #[.int .u8 op, .slice KA kids.length kc, .string col, .int .u8 cmp, .slice VB vals.length vd, .slice none 0 0, .slice none 0 0,
  .int .u8 0, .slice none 0 0, .int .i64 0, .int .u8 0, .int .u8 0, .int .i64 0, .string ⟨#[]⟩, .slice none 0 0, .int .i64 0] 56)).alloc (.cells #[.int .u8 op2, .slice KA2 kids2.length kc2, .string col2, .int .u8 cmp2, .slice VB2 vals2.length vd2, .slice none 0 0, .slice none 0 0,
  .int .u8 0, .slice none 0 0, .int .i64 0, .int .u8 0, .int .u8 0, .int .i64 0, .string ⟨#[]⟩, .slice none 0 0, .int .i64 0] 56)))) (fun i _ => 0 - (intOf i).toNat)
    case atStart => exact ⟨rfl, rfl⟩
    case round =>
      obtain ⟨rfl, rfl⟩ := hrel
      go_wp2
      go_loopw [7] (fun i wr => i = .int .i64 0 ∧ wr = (((w.alloc (.cells #[.int .u8 op, .slice KA kids.length kc, .string col, .int .u8 cmp, .slice VB vals.length vd, .slice none 0 0, .slice none 0 0,
  .int .u8 0, .slice none 0 0, .int .i64 0, .int .u8 0, .int .u8 0, .int .i64 0, .string ⟨#[]⟩, .slice none 0 0, .int .i64 0] 56)).alloc (.cells #[.int .u8 op2, .slice KA2 kids2.length kc2, .string col2, .int .u8 cmp2, .slice VB2 vals2.length vd2, .slice none 0 0, .slice none 0 0,
  .int .u8 0, .slice none 0 0, .int .i64 0, .int .u8 0, .int .u8 0, .int .i64 0, .string ⟨#[]⟩, .slice none 0 0, .int .i64 0] 56)))) (fun i _ => 0 - (intOf i).toNat)
      case atStart => exact ⟨rfl, rfl⟩
      case round =>
        obtain ⟨rfl, rfl⟩ := hrel
        go_wp2_with (go_at_call 46; refine Zone.hold ?_)
        refine Zone.unhold ?_
        refine (HS.out _ (by repeat (first | exact Keep.refl _ | apply Keep.alloc | apply Keep.gro | apply Keep.drew | apply Keep.drewN))).mono ?_
        rintro e w5 ⟨rfl, hk5⟩
        obtain ⟨p5, rfl⟩ := gro_of_below _ hk5
        clear hk5
        go_wp2_with (go_at_call 47; refine Zone.hold ?_)
        refine Zone.unhold ?_
        refine (sametest_any _).mono ?_
        rintro e w6 ⟨rfl, hk6⟩
        obtain ⟨p6, rfl⟩ := gro_of_below _ hk6
        clear hk6
        go_wp2
        go_ret
        exact ⟨rfl, (by repeat (first | exact Keep.refl _ | apply Keep.alloc | apply Keep.gro | apply Keep.drew | apply Keep.drewN))⟩
end Go.Proofs.YthigflnfccajoaaGreat
/- IdsRestrict: the document's filter of one column, and of none: plain. -/
namespace Go.Proofs.YthigflnfccajoaaGreat
open Go.RowKit Go.Zone Go.Shelf
theorem isCol_data (col : ByteArray) (c : Col) : isCol col c = (c.name.data.toList == col.data.toList) := by
  unfold isCol
  rw [Lib.toList_data, Lib.toList_data]
theorem all_cg {l : List Nd} {p q : Nd → Bool} (h : ∀ k ∈ l, p k = q k) : l.all p = l.all q := by
  rw [Bool.eq_iff_iff, List.all_eq_true, List.all_eq_true]
  exact ⟨fun g k hk => by rw [← h k hk]; exact g k hk, fun g k hk => by rw [h k hk]; exact g k hk⟩
theorem any_cg {l : List Nd} {p q : Nd → Bool} (h : ∀ k ∈ l, p k = q k) : l.any p = l.any q := by
  rw [Bool.eq_iff_iff, List.any_eq_true, List.any_eq_true]
  exact ⟨fun ⟨k, hk, g⟩ => ⟨k, hk, by rw [← h k hk]; exact g⟩, fun ⟨k, hk, g⟩ => ⟨k, hk, by rw [h k hk]; exact g⟩⟩
theorem kid_cols {n k : Nd} (ho : n.op ≠ 4) (hk : k ∈ n.kids) {s : Nm} (h : s ∈ colsOf k) : s ∈ colsOf n := (cols_mem n s).2 (by rw [if_neg ho]; exact ⟨k, hk, h⟩)
/-- A filter of one column may be asked of that column alone. -/
theorem wf_one (cb : ByteArray) (s : Nm) (hcb : cb.data.toList = s) {d : Nat} {n : Nd} (h : NodeWf colsC d n) : (∀ x ∈ colsOf n, x = s) → NodeWf [⟨cb, colKind (kindS s)⟩] d n := by
  induction h with
  | leaf d n hd ho h =>
    intro hs
    have hcol := hs n.col.data.toList (by rw [colsOf_eq, if_pos ho]; simp)
    have h' := h
    obtain ⟨hp1, ⟨k, hk, he, h3⟩, hp3⟩ := h
    have hw := col_which n.col k hk he h3
    have hi : idxP (isCol n.col) [(⟨cb, colKind (kindS s)⟩ : Col)] 0 = 0 := by
      have : isCol n.col (⟨cb, colKind (kindS s)⟩ : Col) = true := by rw [isCol_data, hcol, hcb]; simp
      simp [idxP, this]
    have hks : colKind (kindS s) = 1 ∨ colKind (kindS s) = 2 := by unfold colKind; split; exact .inr rfl; exact .inl rfl
    refine .leaf d n hd ho ⟨hp1, ⟨0, by simp, hi, by simp only [List.getElem_cons_zero]; omega⟩, fun v hv => ⟨(hp3 v hv).1, fun j hj hje => ?_⟩⟩
    have hj0 : j = 0 := by have : j < 1 := hj; omega
    subst hj0
    have := (hp3 v hv).2 k hk he
    rw [this]
    simp only [List.getElem_cons_zero]
    rcases hw with ⟨rfl, e⟩ | ⟨rfl, e⟩ | ⟨rfl, e⟩
    · rw [← hcol, e]; rfl
    · rw [← hcol, e]; rfl
    · rw [← hcol, e]; rfl
  | node d n hd ho h hk ih => exact fun hs => .node d n hd ho h fun k hkk => ih k hkk fun x hx => hs x (kid_cols ho hkk hx)
theorem takesR_one (cb : ByteArray) (s : Nm) (hcb : cb.data.toList = s) (y : Val) {d : Nat} {n : Nd} (h : NodeWf colsC d n) : (∀ x ∈ colsOf n, x = s) → takesR [⟨cb, colKind (kindS s)⟩] [y] n = oneB (kindS s) y n := by
  induction h with
  | leaf d n hd ho h =>
    intro hs
    have hcol := hs n.col.data.toList (by rw [colsOf_eq, if_pos ho]; simp)
    obtain ⟨⟨_, hm, hw⟩, ⟨k, hk, he, h3⟩, _⟩ := h
    have hi : idxP (isCol n.col) [(⟨cb, colKind (kindS s)⟩ : Col)] 0 = 0 := by
      have : isCol n.col (⟨cb, colKind (kindS s)⟩ : Col) = true := by rw [isCol_data, hcol, hcb]; simp
      simp [idxP, this]
    rw [takesR_eq, if_neg (by omega), if_neg (by omega), if_neg (by omega), if_pos ho, oneB_eq, if_pos ho, leaf_one _ _ _ ho, leaf_comp _ _ _ hw hm, hi]
    rfl
  | node d n hd ho h hk ih =>
    intro hs
    have ih' := fun k hkk => ih k hkk fun x hx => hs x (kid_cols ho hkk hx)
    rw [takesR_eq, oneB_eq, all_cg ih', any_cg ih', if_neg ho, if_neg ho]
/-- A constant filter may be asked without columns. -/
theorem wf_none {d : Nat} {n : Nd} (h : NodeWf colsC d n) : colsOf n = [] → NodeWf [] d n := by
  induction h with
  | leaf d n hd ho h => intro hs; rw [colsOf_eq, if_pos ho] at hs; cases hs
  | node d n hd ho h hk ih =>
    exact fun hs => .node d n hd ho h fun k hkk => ih k hkk (by
      cases hc : colsOf k with
      | nil => rfl
      | cons a r =>
        have := kid_cols ho hkk (s := a) (by rw [hc]; simp)
        rw [hs] at this
        cases this)
theorem takesR_none {d : Nat} {n : Nd} (h : NodeWf colsC d n) : colsOf n = [] → takesR [] [] n = takesB [] [] n := by
  induction h with
  | leaf d n hd ho h => intro hs; rw [colsOf_eq, if_pos ho] at hs; cases hs
  | node d n hd ho h hk ih =>
    intro hs
    have ih' : ∀ k ∈ n.kids, takesR [] [] k = takesB [] [] k := fun k hkk => ih k hkk (by
      cases hc : colsOf k with
      | nil => rfl
      | cons a r =>
        have := kid_cols ho hkk (s := a) (by rw [hc]; simp)
        rw [hs] at this
        cases this)
    rw [takesR_eq, takesB_eq, if_neg ho, if_neg ho, any_cg ih', all_cg ih']
    congr 1
    rw [List.all_eq_not_any_not]
end Go.Proofs.YthigflnfccajoaaGreat
/- IdsRestrict: the document's parts of a filter, its One, its Same. -/
namespace Go.Proofs.YthigflnfccajoaaGreat
open Go.RowKit Go.Zone Go.Shelf
attribute [local go_sem] Zone.zone Zone.stepZ Zone.fill Zone.lookFs Zone.goes Zone.goesUpon Zone.dropFs Zone.cell_gro Zone.frozen_gro Zone.size_gro Zone.lt_add Zone.drew_gro Zone.tape_gro Zone.keep_refl
attribute [local go_sem] Zone.lt_add2 Zone.lt_add3 Zone.lt_add4 Zone.lt_add5 Zone.lt_add6 Zone.lt_add7 Zone.lt_add8 Zone.lt_add9 Zone.lt_add10 Zone.lt_add11 Zone.lt_add12
attribute [local go_sem] Zone.calm_normal
set_option maxRecDepth 100000 in
set_option maxHeartbeats 4000000 in
theorem rparts_f (w0 : World) (b0 : Nat) (n : Nd) (hn : Nd.In w0 b0 n) : ∀ (w : World), Keep w0 w → n.sz ≤ 1000000 →
    Calls Tryz.prog 38 #[n.v] w fun e w' => ∃ v ok, e = .returned (.tuple #[v, .bool ok]) ∧ PartsR w.heap.size n v ok w' ∧ Keep w w' := by
  induction hn with
  | mk n hk hv hA hB hi ih =>
  intro w hk0 hsz
  have HS := Lib.hid (hk.keep hk0)
  have hkl := hk.len
  have hvl := hv.len
  have HCOL := Lib.hid (fun W (hW : Keep w W) => rcolumns_any w0 b0 n (.mk n hk hv hA hB hi) W (hk0.trans hW) hsz)
  have HCL := Lib.hid (Nat.le_trans (cols_len n) hsz)
  have HPL := Lib.hid (fun k hk L hL => parts_len k L hL : ∀ k ∈ n.kids, ∀ L, partsOf k = some L → L.length ≤ k.sz)
  have HZ := Lib.hid (show (n.kids.map Nd.sz).sum ≤ 1000000 by have := sz_eq n; omega)
  have IH := Lib.hid (show ∀ k ∈ n.kids, ∀ W, Keep w W → Calls Tryz.prog 38 #[k.v] W fun e w' => ∃ v ok, e = .returned (.tuple #[v, .bool ok]) ∧ PartsR W.heap.size k v ok w' ∧ Keep W w' from
    fun k hk W hW => ih k hk W (hk0.trans hW) (by have := sz_mem n.kids k hk; have := HZ.out; omega))
  have HE := Lib.hid (partsOf_eq n)
  obtain ⟨nn, hnn⟩ : ∃ nn, n = nn := ⟨_, rfl⟩
  have HNN := Lib.hid hnn
  clear hk hv hA hB hi ih hk0 hsz hnn
  have e0 : n.v = .agg #[.int .u8 n.op, .slice n.A n.kids.length n.c, .string n.col, .int .u8 n.cmp, .slice n.B n.vals.length n.d] := rfl
  rw [e0] at HCOL ⊢
  obtain ⟨cl, hcl⟩ : ∃ cl, colsOf n = cl := ⟨_, rfl⟩
  rw [hcl] at HCOL HCL HE
  clear hcl e0
  by_cases h1 : cl.length ≤ 1
  · have hE := HE.out
    rw [if_pos h1] at hE
    have HE2 := Lib.hid hE
    have d1 : decide ((cl.length : Int) ≤ 1) = true := by simp; omega
    clear hE HE
    go_enter Tryz.func38, Tryz.ntmps38
    go_wp2_with (go_at_call 14; refine Zone.hold ?_)
    refine Zone.unhold ?_
    refine (HCOL.out _ (by repeat (first | exact Keep.refl _ | apply Keep.alloc | apply Keep.gro | apply Keep.drew | apply Keep.drewN))).mono ?_
    rintro e w2 ⟨A2, c2, rfl, hown, hk⟩
    obtain ⟨p, rfl⟩ := gro_of_below _ hk
    clear hown hk
    go_wp2
    refine bodyPost_ret (v := .tuple #[.slice (some ⟨w.heap.size + 1 + p.os.size, 0, none⟩) 1 1, .bool true]) (by simp [results, Tryz.results38, go_sem]) rfl ⟨_, true, rfl, .inr ⟨rfl, [n], HE2.out, ?_⟩, (by repeat (first | exact Keep.refl _ | apply Keep.alloc | apply Keep.gro | apply Keep.drew | apply Keep.drewN))⟩
    have := own_lit (enc := Nd.cells) (k := 5) (e := 27) ((w.alloc (.cells #[.int .u8 n.op, .slice n.A n.kids.length n.c, .string n.col, .int .u8 n.cmp, .slice n.B n.vals.length n.d] 27)).gro p) w.heap.size [n] (fun _ => rfl) (by simp [size_gro]; omega) (by simp)
    simp only [size_gro, World.size_alloc, List.length_singleton] at this
    exact this
  · have hE := HE.out
    rw [if_neg h1] at hE
    have d1 : decide ((cl.length : Int) ≤ 1) = false := by simp; omega
    have d1' : decide (cl.length ≤ 1) = false := by simp; omega
    by_cases h2 : n.op = 1
    · rw [if_pos h2] at hE
      have HE2 := Lib.hid hE
      have d2 : (n.op != 1) = false := by simp [h2]
      clear hE HE h1 h2
      go_enter Tryz.func38, Tryz.ntmps38
      go_wp2_with (go_at_call 14; refine Zone.hold ?_)
      refine Zone.unhold ?_
      refine (HCOL.out _ (by repeat (first | exact Keep.refl _ | apply Keep.alloc | apply Keep.gro | apply Keep.drew | apply Keep.drewN))).mono ?_
      rintro e w2 ⟨A2, c2, rfl, hown, hk⟩
      obtain ⟨p, rfl⟩ := gro_of_below _ hk
      clear hown hk
      go_wp2
      go_loopw [4, 5, 6, 7] (fun v i u6 u7 wr => ∃ k : Nat, k ≤ n.kids.length ∧ i = .int .i64 k ∧ ∃ L, Hid (partsL (n.kids.take k) = some L) ∧ Hid (OwnD wr (w.heap.size + 1) v L) ∧ Hid (Keep w wr) ∧ w.heap.size < wr.heap.size ∧ wr.cell? ⟨w.heap.size, 1, none⟩ = some (.slice n.A n.kids.length n.c)) (fun _ i _ _ _ => n.kids.length - (intOf i).toNat)
      case atStart => exact ⟨0, Nat.zero_le _, rfl, [], rfl, Own.nil_ _ _ _ _ _, (by repeat (first | exact Keep.refl _ | apply Keep.alloc | apply Keep.gro | apply Keep.drew | apply Keep.drewN)), by simp [size_gro]; omega, by simp [go_sem, Zone.cell_gro]⟩
      case round =>
        obtain ⟨k, hk, rfl, L, HL, HO, HK, hz, x1⟩ := hrel
        by_cases hlt : k < n.kids.length
        · obtain ⟨g, off, hA9, hg, h0, h1, h2, h3, h4⟩ := sl_nd (HS.out.keep HK.out) k hlt
          have hHS := HS.out
          have HC := Lib.hid (fun W (hW : Keep wr W) => IH.out n.kids[k] (List.getElem_mem hlt) W (HK.out.trans hW))
          have HPT := Lib.hid (partsL_take n.kids k hlt)
          have HST := Lib.hid (partsL_stop n.kids k hlt)
          have HPK := Lib.hid (show ∀ L, partsOf n.kids[k] = some L → L.length ≤ n.kids[k].sz from HPL.out n.kids[k] (List.getElem_mem hlt))
          have HSK := Lib.hid (sz_mem n.kids n.kids[k] (List.getElem_mem hlt))
          have HLL := Lib.hid (show L.length ≤ 1000000 by
            obtain ⟨r, e1, _, e3⟩ := partsL_sub (n.kids.take k) [] L HL.out
            have e4 := e3 fun x hx m hm => HPL.out x (List.mem_of_mem_take hx) m hm
            have e5 := sz_take n.kids k
            have e6 := HZ.out
            rw [e1, List.nil_append]; omega)
          clear hHS
          go_wp2_with (go_at_call 38; refine Zone.hold ?_)
          refine Zone.unhold ?_
          refine (HC.out _ (by repeat (first | exact Keep.refl _ | apply Keep.alloc | apply Keep.gro | apply Keep.drew | apply Keep.drewN))).mono ?_
          rintro e w5 ⟨v5, ok5, rfl, hr5, hk5⟩
          obtain ⟨p5, rfl⟩ := gro_of_below _ hk5
          rcases hr5 with ⟨rfl, hn5, rfl⟩ | ⟨rfl, L5, hp5, ho5⟩
          · have HN5 := Lib.hid (HE2.out.trans (HST.out hn5))
            clear hk5 hn5
            go_wp2
            exact bodyPost_ret (v := .tuple #[.slice none 0 0, .bool false]) (by simp [results, Tryz.results38, go_sem]) rfl ⟨_, false, rfl, .inl ⟨rfl, HN5.out, rfl⟩, HK.out.trans (by repeat (first | exact Keep.refl _ | apply Keep.alloc | apply Keep.gro | apply Keep.drew | apply Keep.drewN))⟩
          · have hl5 := HPK.out L5 hp5
            obtain ⟨A5, c5, rfl, hs5⟩ := ho5.sl nd_len (by have := HSK.out; have := HZ.out; omega)
            have HP5 := Lib.hid (show partsL (n.kids.take (k + 1)) = some (L ++ L5) by rw [HPT.out, HL.out, hp5]; rfl)
            have HS5 := Lib.hid hs5
            have HL5 := Lib.hid hl5
            have hk6 : Keep wr (wr.gro p5) := hk5
            have hz6 : w.heap.size < (wr.gro p5).heap.size := Nat.lt_of_lt_of_le hz hk6.size
            have HK6 := Lib.hid (HK.out.trans hk6)
            have x6 := (hk6.cell (p := ⟨w.heap.size, 1, none⟩) hz).trans x1
            have HO6 := Lib.hid (HO.out.keep hk6)
            clear hk5 hk6 hp5 ho5 hs5 hl5 h0 h1 h2 h3 h4 hg HC HPK HST HPT HK HO hz hA9
            clear x1
            generalize World.gro _ _ = w6 at hz6 HK6 HO6 HS5 x6 ⊢
            go_wp2_with (at_builtin; refine Zone.hold ?_)
            refine Zone.unhold ?_
            refine wpList_app elt_nd nd_len nd_one rfl (.tmp 35) (.tmp 36) rfl (ys := L5) HO6.out rfl rfl HS5.out (by have := HLL.out; have := HL5.out; have := HSK.out; have := HZ.out; omega) (by omega) ?_
            intro v1 w7 hown7 hg7 _
            have hob := fun j hj => HO6.out.lt j hj
            have HK7 := Lib.hid (HK6.out.grown hg7 (fun j e => by have := (hob _ e).1; omega))
            have HO7 := Lib.hid hown7
            have x7 := hg7.cell x6 (fun e => by have := (hob _ e.symm).1; simp at this; omega)
            have hz7 : w.heap.size < w7.heap.size := Nat.lt_of_lt_of_le hz6 hg7.size
            clear hown7 hg7 hob HO6 HS5 HK6 hz6 x6
            go_wp2
            go_roundw
            case rel => exact ⟨k + 1, by omega, by go_num, _, HP5.out, HO7.out, HK7.out, hz7, x7⟩
            case measure => simp [intOf]; omega
        · have : k = n.kids.length := by omega
          subst this
          rw [List.take_length] at HL
          have HN5 := Lib.hid (HE2.out.trans HL.out)
          have HLL := Lib.hid (show L.length ≤ 1000000 by
            obtain ⟨r, e1, _, e3⟩ := partsL_sub n.kids [] L HL.out
            have e4 := e3 HPL.out
            have e6 := HZ.out
            rw [e1, List.nil_append]; omega)
          obtain ⟨A5, c5, rfl, _⟩ := HO.out.sl nd_len (by have := HLL.out; omega)
          go_wp2
          exact bodyPost_ret (v := .tuple #[.slice A5 L.length c5, .bool true]) (by simp [results, Tryz.results38, go_sem]) rfl ⟨_, true, rfl, .inr ⟨rfl, L, HN5.out, HO.out.base_mono (by omega)⟩, HK.out⟩
    · rw [if_neg h2] at hE
      have HE2 := Lib.hid hE
      have d2 : (n.op != 1) = true := by simp [h2]
      clear hE HE h1 h2
      go_enter Tryz.func38, Tryz.ntmps38
      go_wp2_with (go_at_call 14; refine Zone.hold ?_)
      refine Zone.unhold ?_
      refine (HCOL.out _ (by repeat (first | exact Keep.refl _ | apply Keep.alloc | apply Keep.gro | apply Keep.drew | apply Keep.drewN))).mono ?_
      rintro e w2 ⟨A2, c2, rfl, hown, hk⟩
      obtain ⟨p, rfl⟩ := gro_of_below _ hk
      clear hown hk
      go_wp2
      exact bodyPost_ret (v := .tuple #[.slice none 0 0, .bool false]) (by simp [results, Tryz.results38, go_sem]) rfl ⟨_, false, rfl, .inl ⟨rfl, HE2.out, rfl⟩, (by repeat (first | exact Keep.refl _ | apply Keep.alloc | apply Keep.gro | apply Keep.drew | apply Keep.drewN))⟩
theorem sl_at1 {α : Type} {w : World} {k c c' : Nat} {enc : α → List Value} {g off : Nat} {xs : List α} (h : Sl w k enc (some ⟨g, off, none⟩) c xs) (i : Nat) (hi : i < xs.length) (h1 : 1 ≤ c') (h2 : c' ≤ 9223372036854775807) : Sl w k enc (some ⟨g, off + i * k, none⟩) c' [xs[i]] :=
  ⟨h1, h2, by simp, fun j hj => by
    have : j = 0 := by simpa using hj
    subst this
    obtain ⟨b', off', hA, hc⟩ := h.at_ i hi
    injection hA with hA
    injection hA with e1 e2 _
    subst e1; subst e2
    exact ⟨g, off + i * k, rfl, fun j u hu => by have := hc j u hu; simpa using this⟩⟩
set_option maxRecDepth 100000 in
set_option maxHeartbeats 8000000 in
theorem rone_any (w0 : World) (b : Nat) (cb : ByteArray) (s : Nm) (hcb : cb.data.toList = s) (RA : Option Addr) (rc : Nat) (ys : List Val) (hr : Sl w0 3 Val.cells RA rc ys) (hyk : ∀ y ∈ ys, y.k = colKind (kindS s)) (hys : ∀ y ∈ ys, y.s.size ≤ maxLen) (hyl : ys.length ≤ 100000)
    (n : Nd) (hn : Nd.In w0 b n) (d : Nat) (hwf : NodeWf colsC d n) (hcs : ∀ x ∈ colsOf n, x = s) (w : World) (hk0 : Keep w0 w) :
    Calls Tryz.prog 17 #[.string cb, .slice RA ys.length rc, n.v] w fun e w' => ∃ v, e = .returned v ∧ OwnF w' w.heap.size v (oneF (kindS s) ys n) ∧ Keep w w' := by
  rw [one_get]
  have HR := Lib.hid (hr.keep hk0)
  have HN := Lib.hid (hn.keep hk0)
  have HTK := Lib.hid (fun (W : World) (hW : Keep w W) (CA RA' : Option Addr) (cc rc' : Nat) (y : Val) (hy : y.s.size ≤ maxLen) (h1 : Sl W 2 Col.cells CA cc [⟨cb, colKind (kindS s)⟩]) (h2 : Sl W 3 Val.cells RA' rc' [y]) =>
    (show Calls Tryz.prog 21 #[.slice CA 1 cc, n.v, .slice RA' 1 rc'] W fun e w' => e = .returned (.bool (oneB (kindS s) y n)) ∧ Keep W w' by
      have h9 := rtakes_any W b CA cc [⟨cb, colKind (kindS s)⟩] RA' rc' [y] h1 h2 rfl (by simpa using hy) n ((hn.keep hk0).keep hW) W d (Keep.refl _) (wf_one cb s hcb hwf hcs)
      rw [takesR_one cb s hcb y hwf hcs] at h9
      exact h9))
  have hrl := hr.len
  have HYK := Lib.hid hyk
  have HYS := Lib.hid hys
  have HYL := Lib.hid hyl
  have hK : colKind (kindS s) = 1 ∨ colKind (kindS s) = 2 := by unfold colKind; split; exact .inr rfl; exact .inl rfl
  obtain ⟨op, KA, kc, kids, col, cmp, VB, vd, vals⟩ := n
  have hkl := HN.out.kids_.len
  have hvl := HN.out.vals_.len
  dsimp only at hkl hvl
  simp only [Nd.v] at HTK ⊢
  obtain ⟨f, hf⟩ : ∃ f : Val → Bool, (fun y => oneB (kindS s) y ⟨op, KA, kc, kids, col, cmp, VB, vd, vals⟩) = f := ⟨_, rfl⟩
  rw [hf]
  have HTK := Lib.hid (fun W hW CA RA' cc rc' y hy h1 h2 => (show Calls Tryz.prog 21 #[.slice CA 1 cc, .agg #[.int .u8 op, .slice KA kids.length kc, .string col, .int .u8 cmp, .slice VB vals.length vd], .slice RA' 1 rc'] W fun e w' => e = .returned (.bool (f y)) ∧ Keep W w' by
    have := HTK.out W hW CA RA' cc rc' y hy h1 h2
    rw [← hf]; exact this))
  obtain ⟨K, hKK⟩ : ∃ K, colKind (kindS s) = K := ⟨_, rfl⟩
  rw [hKK] at hK HTK HYK
  clear hr hn hk0 hwf hcs hyk hys hyl hf HN hKK hcb
  go_enter Tryz.func17, Tryz.ntmps17
  go_wp2
  go_loopw [7, 8, 9] (fun v7 v8 i wr => ∃ k : Nat, k ≤ ys.length ∧ i = .int .i64 k ∧ ∃ kd : Int, v8 = .int .u8 kd ∧ Hid (kd = if k = 0 then 1 else K) ∧ Hid (OwnF wr (w.heap.size + 1) v7 ((ys.take k).map f)) ∧ Hid (Keep w wr) ∧ wr.cell? ⟨w.heap.size, 0, none⟩ = some (.int .u8 op) ∧ wr.cell? ⟨w.heap.size, 1, none⟩ = some (.slice KA kids.length kc) ∧ wr.cell? ⟨w.heap.size, 2, none⟩ = some (.string col) ∧ wr.cell? ⟨w.heap.size, 3, none⟩ = some (.int .u8 cmp) ∧ wr.cell? ⟨w.heap.size, 4, none⟩ = some (.slice VB vals.length vd)) (fun _ _ i _ => ys.length - (intOf i).toNat)
  case atStart => exact ⟨0, Nat.zero_le _, rfl, 1, rfl, rfl, Own.nil_ _ _ _ _ _, (by repeat (first | exact Keep.refl _ | apply Keep.alloc | apply Keep.gro | apply Keep.drew | apply Keep.drewN)), by simp [go_sem], by simp [go_sem], by simp [go_sem], by simp [go_sem], by simp [go_sem]⟩
  case round =>
    obtain ⟨k, hk, rfl, kd, rfl, HKD, HO, HK, x0, x1, x2, x3, x4⟩ := hrel
    have hz : w.heap.size < wr.heap.size := World.block_lt_of_cell? _ _ x0
    by_cases hlt : k < ys.length
    · obtain ⟨g, off, rfl, hg, h0, h1, h2⟩ := sl_val (HR.out.keep HK.out) k hlt
      have HSL := Lib.hid (fun c' hc1 hc2 => sl_at1 (c' := c') (HR.out.keep HK.out) k hlt hc1 hc2)
      have hyk := HYK.out ys[k] (List.getElem_mem hlt)
      have HYZ := Lib.hid (HYS.out ys[k] (List.getElem_mem hlt))
      have HTA := Lib.hid (show (ys.take (k + 1)).map f = (ys.take k).map f ++ [f ys[k]] by rw [List.take_succ_eq_append_getElem hlt, List.map_append]; rfl)
      have HLT := Lib.hid hlt
      generalize ys[k] = y at h0 h1 h2 HSL hyk HYZ HTA
      rw [hyk] at h0
      have hcap := HR.out.cap
      have hbig := HR.out.big
      have w1 : IntKind.wrap .i64 ((k : Int) + 1) = (k : Int) + 1 := by have := HYL.out; exact IntWalk.i64_in _ ⟨by omega, by omega⟩
      have w2 : (0 : Int) ≤ (k : Int) + 1 := by omega
      have w3 : (k : Int) + 1 ≤ (rc : Int) := by omega
      have w4 : ((k : Int) + 1).toNat = k + 1 := by omega
      have w5 : (rc = k) = False := eq_false (by omega)
      have w6 : k + 1 - k = 1 := by omega
      have HSL1 := Lib.hid (HSL.out (rc - k) (by omega) (by omega))
      clear hcap hbig
      rcases hK with rfl | rfl
      · have hkd : kd = 1 := by rw [HKD.out]; split <;> rfl
        subst hkd
        clear hyk
        go_wp2
        first | refine Zone.wp_region_gro 13 (by kernel_rfl) (by kernel_rfl) ?_ | refine Zone.wp_region 13 (by kernel_rfl) (by kernel_rfl) ?_
        simp only [List.take_succ_cons, List.take_zero, List.drop_succ_cons, List.drop_zero]
        iterate 4
          refine Zone.wpZ_step (fun K hK => ?_)
          go_simp
          (refine hK _ _ ?_; clear hK K)
        refine Zone.wpZ_free 26 (fun u W => ∃ g, u = .slice (some ⟨g, 0, none⟩) 1 1 ∧ Sl W 2 Col.cells (some ⟨g, 0, none⟩) 1 [⟨cb, 1⟩]) rfl (fun _ W W' hk ⟨g, h1, h2⟩ => ⟨g, h1, h2.keep hk⟩) ?_ ?_
        · intro p
          simp only [Zone.fill, Zone.lookFs, List.filter_nil]
          go_simp
          refine ⟨?_, Keep.alloc (Keep.refl _) _⟩
          have h8 := sl_blk (k := 2) (enc := Col.cells) (xs := [(⟨cb, 1⟩ : Col)]) (fun _ => rfl) (at_alloc (wr.gro p) ([(⟨cb, 1⟩ : Col)].flatMap Col.cells) 91) (by simp)
          simp only [size_gro, List.length_singleton] at h8
          exact h8
        iterate 6
          refine Zone.wpZ_step (fun K hK => ?_)
          unfold Zone.zone Zone.stepZ
          rw [Zone.lookFs_nil (by rfl)]
          go_simp
          (refine hK _ _ ?_; clear hK K)
        refine Zone.wpZ_step (fun K hK => ?_)
        refine Zone.zone_free1 (.bool (f y)) (d := 26) (by rfl) (fun p u hu => ?_) (hK _ _ ?_)
        · obtain ⟨g8, rfl, hs⟩ := hu
          go_simp
          go_at_call 21
          exact Zone.zc (HTK.out _ (HK.out.trans (below_gro wr p)) _ _ _ _ y HYZ.out hs (HSL1.out.keep (below_gro wr p)))
        clear hK K
        refine Zone.wpZ_free 34 (fun u W => ∃ g, u = .slice (some ⟨g, 0, none⟩) 1 1 ∧ Sl W 1 boolV (some ⟨g, 0, none⟩) 1 [f y]) rfl (fun _ W W' hk ⟨g, h1, h2⟩ => ⟨g, h1, h2.keep hk⟩) ?_ ?_
        · intro p
          rw [Zone.lookFs_nil (by rfl)]
          simp only [Zone.fill]
          go_simp
          refine ⟨?_, Keep.alloc (Keep.refl _) _⟩
          have h8 := sl_blk (k := 1) (enc := boolV) (xs := [f y]) (fun _ => rfl) (at_alloc (wr.gro p) ([f y].flatMap boolV) 4) (by simp)
          simp only [size_gro, List.length_singleton] at h8
          exact h8
        refine Zone.wpZ_nil ?_
        intro p
        simp only [Zone.fill]
        rintro u5 ⟨g5, rfl, hs5⟩ u6 hu6
        clear hu6
        simp only [Zone.dropFs, List.filter_nil, Zone.fill]
        have hkp := below_gro wr p
        have HS5 := Lib.hid hs5
        have HO1 := Lib.hid (HO.out.keep hkp)
        have HK1 := Lib.hid (HK.out.trans hkp)
        have z6 : w.heap.size < (wr.gro p).heap.size := Nat.lt_of_lt_of_le hz hkp.size
        have q0 := (hkp.cell (p := ⟨w.heap.size, 0, none⟩) hz).trans x0
        have q1 := (hkp.cell (p := ⟨w.heap.size, 1, none⟩) hz).trans x1
        have q2 := (hkp.cell (p := ⟨w.heap.size, 2, none⟩) hz).trans x2
        have q3 := (hkp.cell (p := ⟨w.heap.size, 3, none⟩) hz).trans x3
        have q4 := (hkp.cell (p := ⟨w.heap.size, 4, none⟩) hz).trans x4
        clear hs5 x0 x1 x2 x3 x4 hkp HO HK h0 h1 h2 w1 w2 w3 w4 w5 w6 HSL1 HSL hg
        generalize World.gro _ _ = w6 at HS5 HO1 HK1 z6 q0 q1 q2 q3 q4 ⊢
        go_wp2_with (at_builtin; refine Zone.hold ?_)
        refine Zone.unhold ?_
        refine wpList_app elt_b1 bool_len bool_one rfl (.tmp 22) (.tmp 34) rfl (ys := [f y]) HO1.out rfl rfl HS5.out (by have := HYL.out; simp; omega) (by omega) ?_
        intro v7 w7 hown7 hg7 he7
        have hob := fun j hj => (HO1.out.lt j hj).1
        have hne : some w.heap.size ≠ _ := fun e => by have := hob _ e.symm; omega
        have p0 := hg7.cell q0 hne
        have p1 := hg7.cell q1 hne
        have p2 := hg7.cell q2 hne
        have p3 := hg7.cell q3 hne
        have p4 := hg7.cell q4 hne
        have HO7 := Lib.hid (show OwnF w7 (w.heap.size + 1) v7 ((ys.take (k + 1)).map f) by rw [HTA.out]; exact hown7)
        have HK7 := Lib.hid (HK1.out.grown hg7 (fun j e => by have := hob j e; omega))
        clear hown7 hg7 he7 hob hne q0 q1 q2 q3 q4 HO1 HK1 HS5 z6
        go_wp2
        go_roundw
        case rel => exact ⟨k + 1, by omega, by go_num, 1, rfl, by show _ = _; simp, HO7.out, HK7.out, p0, p1, p2, p3, p4⟩
        case measure => simp [intOf]; omega
      · clear hyk HKD
        go_wp2
        first | refine Zone.wp_region_gro 13 (by kernel_rfl) (by kernel_rfl) ?_ | refine Zone.wp_region 13 (by kernel_rfl) (by kernel_rfl) ?_
        simp only [List.take_succ_cons, List.take_zero, List.drop_succ_cons, List.drop_zero]
        iterate 4
          refine Zone.wpZ_step (fun K hK => ?_)
          go_simp
          (refine hK _ _ ?_; clear hK K)
        refine Zone.wpZ_free 26 (fun u W => ∃ g, u = .slice (some ⟨g, 0, none⟩) 1 1 ∧ Sl W 2 Col.cells (some ⟨g, 0, none⟩) 1 [⟨cb, 2⟩]) rfl (fun _ W W' hk ⟨g, h1, h2⟩ => ⟨g, h1, h2.keep hk⟩) ?_ ?_
        · intro p
          simp only [Zone.fill, Zone.lookFs, List.filter_nil]
          go_simp
          refine ⟨?_, Keep.alloc (Keep.refl _) _⟩
          have h8 := sl_blk (k := 2) (enc := Col.cells) (xs := [(⟨cb, 2⟩ : Col)]) (fun _ => rfl) (at_alloc (wr.gro p) ([(⟨cb, 2⟩ : Col)].flatMap Col.cells) 91) (by simp)
          simp only [size_gro, List.length_singleton] at h8
          exact h8
        iterate 6
          refine Zone.wpZ_step (fun K hK => ?_)
          unfold Zone.zone Zone.stepZ
          rw [Zone.lookFs_nil (by rfl)]
          go_simp
          (refine hK _ _ ?_; clear hK K)
        refine Zone.wpZ_step (fun K hK => ?_)
        refine Zone.zone_free1 (.bool (f y)) (d := 26) (by rfl) (fun p u hu => ?_) (hK _ _ ?_)
        · obtain ⟨g8, rfl, hs⟩ := hu
          go_simp
          go_at_call 21
          exact Zone.zc (HTK.out _ (HK.out.trans (below_gro wr p)) _ _ _ _ y HYZ.out hs (HSL1.out.keep (below_gro wr p)))
        clear hK K
        refine Zone.wpZ_free 34 (fun u W => ∃ g, u = .slice (some ⟨g, 0, none⟩) 1 1 ∧ Sl W 1 boolV (some ⟨g, 0, none⟩) 1 [f y]) rfl (fun _ W W' hk ⟨g, h1, h2⟩ => ⟨g, h1, h2.keep hk⟩) ?_ ?_
        · intro p
          rw [Zone.lookFs_nil (by rfl)]
          simp only [Zone.fill]
          go_simp
          refine ⟨?_, Keep.alloc (Keep.refl _) _⟩
          have h8 := sl_blk (k := 1) (enc := boolV) (xs := [f y]) (fun _ => rfl) (at_alloc (wr.gro p) ([f y].flatMap boolV) 4) (by simp)
          simp only [size_gro, List.length_singleton] at h8
          exact h8
        refine Zone.wpZ_nil ?_
        intro p
        simp only [Zone.fill]
        rintro u5 ⟨g5, rfl, hs5⟩ u6 hu6
        clear hu6
        simp only [Zone.dropFs, List.filter_nil, Zone.fill]
        have hkp := below_gro wr p
        have HS5 := Lib.hid hs5
        have HO1 := Lib.hid (HO.out.keep hkp)
        have HK1 := Lib.hid (HK.out.trans hkp)
        have z6 : w.heap.size < (wr.gro p).heap.size := Nat.lt_of_lt_of_le hz hkp.size
        have q0 := (hkp.cell (p := ⟨w.heap.size, 0, none⟩) hz).trans x0
        have q1 := (hkp.cell (p := ⟨w.heap.size, 1, none⟩) hz).trans x1
        have q2 := (hkp.cell (p := ⟨w.heap.size, 2, none⟩) hz).trans x2
        have q3 := (hkp.cell (p := ⟨w.heap.size, 3, none⟩) hz).trans x3
        have q4 := (hkp.cell (p := ⟨w.heap.size, 4, none⟩) hz).trans x4
        clear hs5 x0 x1 x2 x3 x4 hkp HO HK h0 h1 h2 w1 w2 w3 w4 w5 w6 HSL1 HSL hg
        generalize World.gro _ _ = w6 at HS5 HO1 HK1 z6 q0 q1 q2 q3 q4 ⊢
        go_wp2_with (at_builtin; refine Zone.hold ?_)
        refine Zone.unhold ?_
        refine wpList_app elt_b1 bool_len bool_one rfl (.tmp 22) (.tmp 34) rfl (ys := [f y]) HO1.out rfl rfl HS5.out (by have := HYL.out; simp; omega) (by omega) ?_
        intro v7 w7 hown7 hg7 he7
        have hob := fun j hj => (HO1.out.lt j hj).1
        have hne : some w.heap.size ≠ _ := fun e => by have := hob _ e.symm; omega
        have p0 := hg7.cell q0 hne
        have p1 := hg7.cell q1 hne
        have p2 := hg7.cell q2 hne
        have p3 := hg7.cell q3 hne
        have p4 := hg7.cell q4 hne
        have HO7 := Lib.hid (show OwnF w7 (w.heap.size + 1) v7 ((ys.take (k + 1)).map f) by rw [HTA.out]; exact hown7)
        have HK7 := Lib.hid (HK1.out.grown hg7 (fun j e => by have := hob j e; omega))
        clear hown7 hg7 he7 hob hne q0 q1 q2 q3 q4 HO1 HK1 HS5 z6
        go_wp2
        go_roundw
        case rel => exact ⟨k + 1, by omega, by go_num, 2, rfl, by show _ = _; simp, HO7.out, HK7.out, p0, p1, p2, p3, p4⟩
        case measure => simp [intOf]; omega
    · have : k = ys.length := by omega
      subst this
      rw [List.take_length] at HO
      go_wp2
      go_ret
      exact ⟨_, rfl, HO.out.base_mono (Nat.le_succ _), HK.out⟩
end Go.Proofs.YthigflnfccajoaaGreat
/- IdsRestrict: the document's comparison of restrictions. -/
namespace Go.Proofs.YthigflnfccajoaaGreat
open Go.RowKit Go.Zone Go.Shelf
attribute [local go_sem] Zone.zone Zone.stepZ Zone.fill Zone.lookFs Zone.goes Zone.goesUpon Zone.dropFs Zone.cell_gro Zone.frozen_gro Zone.size_gro Zone.lt_add Zone.drew_gro Zone.tape_gro Zone.keep_refl
attribute [local go_sem] Zone.lt_add2 Zone.lt_add3 Zone.lt_add4 Zone.lt_add5 Zone.lt_add6 Zone.lt_add7 Zone.lt_add8 Zone.lt_add9 Zone.lt_add10 Zone.lt_add11 Zone.lt_add12
attribute [local go_sem] Zone.calm_normal
set_option maxRecDepth 100000 in
set_option maxHeartbeats 8000000 in
theorem rsame_any (A B : Option Addr) (c d b1 b2 : Nat) (rs rs2 : List Rs) (w : World) (h1 : RL w b1 (.slice A rs.length c) rs) (h2 : RL w b2 (.slice B rs.length d) rs2)
    (he : rs.map (fun r => (r.col, r.may)) = rs2.map fun r => (r.col, r.may)) (hl : rs.length ≤ 1000000) (hm : ∀ r ∈ rs, r.may.length ≤ 1000000) :
    Calls Tryz.prog 13 #[.slice A rs.length c, .slice B rs.length d] w fun e w' => e = .returned (.bool true) ∧ Keep w w' := by
  have hll : rs2.length = rs.length := by have h := congrArg List.length he; rw [List.length_map, List.length_map] at h; exact h.symm
  have HX := Lib.hid (h1.sl rfl (by omega))
  have HY := Lib.hid (h2.sl hll.symm (by omega))
  have HXM := Lib.hid h1.may
  have HYM := Lib.hid h2.may
  have HE := Lib.hid (show ∀ i, (h : i < rs.length) → (h' : i < rs2.length) → rs[i].col = rs2[i].col ∧ rs[i].may = rs2[i].may from fun i h h' => by
    have h3 : (rs.map (fun r => (r.col, r.may)))[i]? = (rs2.map fun r => (r.col, r.may))[i]? := by rw [he]
    simpa [h, h'] using h3)
  have HM := Lib.hid hm
  have HLL := Lib.hid hll
  clear h1 h2 he hm hll
  go_enter Tryz.func13, Tryz.ntmps13
  go_wp2
  go_loopw [5] (fun i wr => ∃ k : Nat, k ≤ rs.length ∧ i = .int .i64 k ∧ Hid (Keep w wr)) (fun i _ => rs.length - (intOf i).toNat)
  case atStart => exact ⟨0, Nat.zero_le _, rfl, Keep.refl _⟩
  case round =>
    obtain ⟨k, hk, rfl, HK⟩ := hrel
    by_cases hlt : k < rs.length
    · have hlt2 : k < rs2.length := by have := HLL.out; omega
      obtain ⟨gx, ox, rfl, hgx, x0, x1⟩ := sl_rs (HX.out.keep HK.out) k hlt
      obtain ⟨gy, oy, rfl, hgy, y0, y1⟩ := sl_rs (HY.out.keep HK.out) k hlt2
      have hee := HE.out k hlt hlt2
      have HFX := Lib.hid (HXM.out rs[k] (List.getElem_mem hlt))
      have HFY := Lib.hid (HYM.out rs2[k] (List.getElem_mem hlt2))
      have hml := HM.out rs[k] (List.getElem_mem hlt)
      generalize rs[k] = r at x0 x1 HFX hml hee
      generalize rs2[k] = r2 at y0 y1 HFY hee
      obtain ⟨col, g1, may⟩ := r
      obtain ⟨col2, g2, may2⟩ := r2
      obtain ⟨rfl, rfl⟩ := hee
      have HFL := Lib.hid (fun W (hW : Keep w W) => flagsEq_any (some ⟨g1, 0, none⟩) (some ⟨g2, 0, none⟩) may.length may.length may may W (flags_sl (HFX.out.keep hW) hml) (flags_sl (HFY.out.keep hW) hml))
      dsimp only at x0 x1 y0 y1
      go_wp2
      first | refine Zone.wp_region_all_gro (by kernel_rfl) (by kernel_rfl) ?_ | refine Zone.wp_region_all (by kernel_rfl) (by kernel_rfl) ?_
      repeat
        refine Zone.wpZ_step (fun K hK => ?_)
        go_simp
        first
        | (refine hK _ _ ?_; clear hK K)
        | (apply Exists.intro
           refine ⟨fun p => ?_, hK _ _ ?_⟩
           ((go_at_call 15; refine (HFL.out _ (HK.out.trans (by repeat (first | exact Keep.refl _ | apply Keep.alloc | apply Keep.gro | apply Keep.drew | apply Keep.drewN)))).mono ?_; rintro e w5 ⟨rfl, hk5⟩; exact ⟨_, rfl, rfl, hk5⟩))
           clear hK K)
      refine Zone.wpZ_nil ?_
      intro p
      simp only [Zone.fill]
      go_wp2
      go_roundw
      case rel => exact ⟨k + 1, by omega, by go_num, HK.out.trans (by repeat (first | exact Keep.refl _ | apply Keep.alloc | apply Keep.gro | apply Keep.drew | apply Keep.drewN))⟩
      case measure => simp [intOf]; omega
    · have : k = rs.length := by omega
      subst this
      go_wp2
      go_ret
      exact ⟨rfl, HK.out.trans (by repeat (first | exact Keep.refl _ | apply Keep.alloc | apply Keep.gro | apply Keep.drew | apply Keep.drewN))⟩
set_option maxHeartbeats 1000000 in
theorem restrict1_any (s : ByteArray) (b1 b2 : Nat) (NA : Option Addr) (nc : Nat) (A : Option Addr) (c : Nat) (m0 m1 m2 : Mc) (w : World) (h1 : w.cell? ⟨b1, 0, none⟩ = some (.slice NA 3 nc)) (hn : Sl w 1 nmV NA nc names3) (h2 : w.cell? ⟨b2, 0, none⟩ = some (.slice A 3 c)) (hs : Sl w 1 ptrV A c [m0, m1, m2]) (hst : s.toList = nA ∨ s.toList = nB ∨ s.toList = nC) :
    Calls Tryz.prog 10 #[.string s, .pointer (some ⟨b1, 0, none⟩), .pointer (some ⟨b2, 0, none⟩)] w fun e w' => e = .returned (.pointer (some ⟨(pickM m0 m1 m2 s.toList).b, 0, none⟩)) ∧ Keep w w' := by
  have hb1 := World.block_lt_of_cell? _ _ h1
  have hb2 := World.block_lt_of_cell? _ _ h2
  simp only at hb1 hb2
  have HN := Lib.hid hn
  have HS := Lib.hid hs
  obtain ⟨ix, hil, e1, e2, e3⟩ : ∃ ix, ∃ h : ix < 3, names3[ix]'h = s.toList ∧ (∀ j, (hj : j < ix) → names3[j]'(by simp [names3]; omega) ≠ s.toList) ∧ [m0, m1, m2][ix]'h = pickM m0 m1 m2 s.toList :=
    ⟨ixN s.toList, ix_lt _, ix_at s.toList hst, ix_ne s.toList, pick_ix m0 m1 m2 s.toList⟩
  have HIX := Lib.hid e1
  have HNE := Lib.hid e2
  have HPK := Lib.hid e3
  clear e1 e2 e3
  obtain ⟨pm, hpm⟩ : ∃ pm, pickM m0 m1 m2 s.toList = pm := ⟨_, rfl⟩
  rw [hpm] at HPK ⊢
  clear hn hs hst hpm
  go_enter Tryz.func10, Tryz.ntmps10
  go_wp2
  go_loop [8] (fun i => ∃ k : Nat, k ≤ ix ∧ i = .int .i64 k) (fun i => 3 - (intOf i).toNat)
  case atStart => exact ⟨0, Nat.zero_le _, rfl⟩
  case round =>
    obtain ⟨k, hk, rfl⟩ := hrel
    have hk3 : k < 3 := by omega
    obtain ⟨nb, no, rfl, hnb, n0⟩ := sl_nm HN.out k hk3
    obtain ⟨x, hxe, hxl⟩ := enc_out (names3[k]'hk3)
    rw [hxe] at n0
    have HXL := Lib.hid hxl
    clear hxe hxl
    by_cases hlt : k < ix
    · have he : (x.toList == s.toList) = false := by rw [HXL.out]; exact beq_eq_false_iff_ne.2 (HNE.out k hlt)
      go_wp2
      go_round
      case rel => exact ⟨k + 1, by omega, by go_num⟩
      case measure => simp [intOf]; omega
    · have hke : k = ix := by omega
      subst hke
      have he : (x.toList == s.toList) = true := by rw [HXL.out, HIX.out]; simp
      obtain ⟨pb, po, rfl, hpb, p0⟩ := sl_ptr HS.out k hk3
      rw [HPK.out] at p0
      go_wp2
      go_ret
      exact ⟨rfl, (by repeat (first | exact Keep.refl _ | apply Keep.alloc | apply Keep.gro | apply Keep.drew | apply Keep.drewN))⟩
theorem of_restrict {w : World} {b1 b2 : Nat} {NA : Option Addr} {nc : Nat} {A : Option Addr} {c : Nat} {R : Value} {xs0 xs1 xs2 : List Val} {m0 m1 m2 : Mc} (h1 : w.cell? ⟨b1, 0, none⟩ = some (.slice NA 3 nc)) (hn : Sl w 1 nmV NA nc names3) (h : w.cell? ⟨b2, 0, none⟩ = some (.slice A 3 c)) (hm : Made w (.slice A 3 c) R xs0 xs1 xs2 [m0, m1, m2]) (S : List Nm) (hS : ∀ s ∈ S, s = nA ∨ s = nB ∨ s = nC) :
    OfOk w 10 #[.pointer (some ⟨b1, 0, none⟩), .pointer (some ⟨b2, 0, none⟩)] S (fun s => (pickM m0 m1 m2 s).b) kindS (fun s => (pickM m0 m1 m2 s).A) (fun s => (pickM m0 m1 m2 s).c) (fun s => (pickM m0 m1 m2 s).xs) := by
  refine ⟨enters_of Tryz.func10 (by kernel_rfl) rfl, fun W s hs hW => ?_, fun s _ => (pick_xs hm s).1.d, fun s _ => ?_, fun s _ => by have := (pick_xs hm s).2; omega⟩
  · obtain ⟨A', c', e, hsl⟩ := hm.ptrs
    cases e
    obtain ⟨sb, he, hl⟩ := enc_out s
    rw [he]
    have h1 := restrict1_any sb b1 b2 NA nc A c m0 m1 m2 W ((hW.cell (World.block_lt_of_cell? _ _ h1)).trans h1) (hn.keep hW) ((hW.cell (World.block_lt_of_cell? _ _ h)).trans h) (hsl.keep hW) (by rw [hl]; exact hS s hs)
    rw [hl] at h1
    exact h1
  · unfold kindS
    repeat' split
    all_goals simp
end Go.Proofs.YthigflnfccajoaaGreat
