
/- ids.each, ids.One: which ids a filter of one column takes. -/
import Derived.WalkKit
import Derived.Lib.Hide
import Derived.WalkSpells
import Derived.WalkLawsBesides
import Derived.BigQuiet
import Derived.Shelf.Abstract
import Derived.Test.YthigflnfccajoaaGreatIleaf
namespace Go.Proofs.YthigflnfccajoaaGreat
open Go.RowKit Go.Zone Go.Shelf
attribute [local go_sem] Zone.zone Zone.stepZ Zone.fill Zone.lookFs Zone.goes Zone.goesUpon Zone.dropFs Zone.cell_gro Zone.frozen_gro Zone.size_gro Zone.lt_add Zone.drew_gro Zone.tape_gro Zone.keep_refl
attribute [local go_sem] Zone.lt_add2 Zone.lt_add3 Zone.lt_add4 Zone.lt_add5 Zone.lt_add6 Zone.lt_add7 Zone.lt_add8 Zone.lt_add9 Zone.lt_add10 Zone.lt_add11 Zone.lt_add12
/-- A row of flags in memory. -/
structure Fl where
  A : Option Addr
  c : Nat
  xs : List Bool
def flV (s : Fl) : List Value := [.slice s.A s.xs.length s.c]
theorem fl_len (x : Fl) : (flV x).length = 1 := rfl
theorem fl_one (x : Fl) : ∀ u ∈ flV x, u.oneCell' = true := by simp [flV, Value.oneCell']
instance : Inhabited Fl := ⟨⟨none, 0, []⟩⟩
def FlIn (w : World) (s : Fl) : Prop := Sl w 1 boolV s.A s.c s.xs
theorem sl_fl {w : World} {c : Nat} {A : Option Addr} {xs : List Fl} (h : Sl w 1 flV A c xs) (i : Nat) (hi : i < xs.length) : ∃ b off, A = some ⟨b, off, none⟩ ∧ b < w.heap.size ∧ w.cell? ⟨b, off + i, none⟩ = some (.slice xs[i].A xs[i].xs.length xs[i].c) := by
  obtain ⟨b, off, hA, hc⟩ := h.at_ i hi
  have h0 := hc 0 _ rfl
  exact ⟨b, off, hA, World.block_lt_of_cell? w _ h0, by simpa using h0⟩
theorem sl_bool {w : World} {c : Nat} {A : Option Addr} {xs : List Bool} (h : Sl w 1 boolV A c xs) (i : Nat) (hi : i < xs.length) : ∃ b off, A = some ⟨b, off, none⟩ ∧ b < w.heap.size ∧ w.cell? ⟨b, off + i, none⟩ = some (.bool xs[i]) := by
  obtain ⟨b, off, hA, hc⟩ := h.at_ i hi
  have h0 := hc 0 _ rfl
  exact ⟨b, off, hA, World.block_lt_of_cell? w _ h0, by simpa using h0⟩
/-- How many of some sets hold an id. -/
def cnt (ss : List Fl) (id : Nat) : Nat := ss.countP fun s => s.xs.getD id false
theorem cnt_succ (ss : List Fl) (id j : Nat) (h : j < ss.length) : cnt (ss.take (j + 1)) id = cnt (ss.take j) id + (if ss[j].xs.getD id false then 1 else 0) := by
  unfold cnt
  rw [List.take_succ_eq_append_getElem h, List.countP_append, List.countP_singleton]
theorem cnt_le (ss : List Fl) (id j : Nat) : cnt (ss.take j) id ≤ j := Nat.le_trans List.countP_le_length (by simp; omega)
def eachF (n : Nat) (ss : List Fl) (p : Nat → Bool) : List Bool := (List.range n).map fun id => p (cnt ss id)
/-- The flags behind k rounds. -/
def eachTo (n : Nat) (ss : List Fl) (p : Nat → Bool) (k : Nat) : List Bool := (List.range k).map (fun id => p (cnt ss id)) ++ List.replicate (n - k) false
theorem eachTo_len (n : Nat) (ss : List Fl) (p : Nat → Bool) (k : Nat) (h : k ≤ n) : (eachTo n ss p k).length = n := by simp [eachTo]; omega
theorem eachTo_set (n : Nat) (ss : List Fl) (p : Nat → Bool) (k : Nat) (h : k < n) : (eachTo n ss p k).set k (p (cnt ss k)) = eachTo n ss p (k + 1) := by
  unfold eachTo
  rw [List.set_append_right _ _ (by simp), List.length_map, List.length_range, Nat.sub_self, show n - k = (n - (k + 1)) + 1 by omega, List.replicate_succ, List.set_cons_zero, List.range_succ]
  simp
theorem eachTo_done (n : Nat) (ss : List Fl) (p : Nat → Bool) : eachTo n ss p n = eachF n ss p := by simp [eachTo, eachF]
set_option maxRecDepth 100000 in
set_option maxHeartbeats 4000000 in
theorem each_f (n : Nat) (F : Option Addr) (m : Nat) (ss : List Fl) (gf : Nat) (lb : Array Value) (p : Nat → Bool) (w : World) (hn : n ≤ 1000000) (hs : Sl w 1 flV F m ss) (hin : ∀ s ∈ ss, FlIn w s ∧ s.xs.length = n) (hsl : ss.length ≤ 1000000)
    (eg : ∀ args w, (callFunc gf args).run Tryz.prog w = .ok (.enter gf args) w) (hp : ∀ W (k : Nat), Keep w W → k ≤ 1000000 → Calls Tryz.prog gf (#[.int .i64 k] ++ lb) W fun e w' => e = .returned (.bool (p k)) ∧ Keep W w') :
    Calls Tryz.prog 40 #[.int .i64 n, .slice F ss.length m, .func (.func gf) #[] lb] w fun e w' => e = .returned (.slice (some ⟨w.heap.size, 0, none⟩) n n) ∧ OwnF w' w.heap.size (.slice (some ⟨w.heap.size, 0, none⟩) n n) (eachF n ss p) ∧ Keep w w' := by
  have HS := Lib.hid hs
  have HI := Lib.hid hin
  have HP := Lib.hid hp
  obtain ⟨W', hr, ho, hk⟩ := own_make n w.heap.size w hn (Nat.le_refl _)
  have HO := Lib.hid (show OwnF W' w.heap.size (.slice (some ⟨w.heap.size, 0, none⟩) n n) (eachTo n ss p 0) by simpa [eachTo] using ho)
  have HK := Lib.hid hk
  clear ho hk hs hin hp
  generalize hg : w.heap.size = g at hr HO ⊢
  go_enter Tryz.func40, Tryz.ntmps40
  go_wp2
  go_loopw [8, 9, 11, 16, 21] (fun _ _ _ i _ wr => ∃ k : Nat, k ≤ n ∧ i = .int .i64 k ∧ Hid (OwnF wr g (.slice (some ⟨g, 0, none⟩) n n) (eachTo n ss p k)) ∧ Hid (Keep w wr)) (fun _ _ _ i _ _ => n - (intOf i).toNat)
  case atStart => exact ⟨0, Nat.zero_le _, rfl, HO.out, HK.out⟩
  case round =>
    obtain ⟨k, hk, rfl, HO1, HK1⟩ := hrel
    by_cases hlt : k < n
    · have hlen := eachTo_len n ss p k hk
      obtain ⟨c0, c1, c2, c3⟩ := own_cellF HO1.out hlen.symm k (by omega)
      generalize (eachTo n ss p k)[k] = u0 at c0
      have HES := Lib.hid (eachTo_set n ss p k hlt)
      have HGE := Lib.hid (show w.heap.size ≤ g by omega)
      have HLEN := Lib.hid hlen
      clear hlen c3
      go_wp2
      go_loop [9, 11, 21, 22, 23, 24, 25, 26, 27, 28, 29, 30, 31] (fun t _ j _ _ _ _ _ _ _ _ _ _ => ∃ q : Nat, q ≤ ss.length ∧ j = .int .i64 q ∧ t = .int .i64 (cnt (ss.take q) k)) (fun _ _ j _ _ _ _ _ _ _ _ _ _ => ss.length - (intOf j).toNat)
      case atStart => exact ⟨0, Nat.zero_le _, rfl, rfl⟩
      case round =>
        obtain ⟨q, hq, rfl, rfl⟩ := hrel
        by_cases hqs : q < ss.length
        · obtain ⟨b1, off1, rfl, hb1, e0⟩ := sl_fl (HS.out.keep HK1.out) q hqs
          obtain ⟨hfi, hfl⟩ := HI.out ss[q] (List.getElem_mem hqs)
          obtain ⟨b2, off2, hA2, hb2, e1⟩ := sl_bool (Sl.keep hfi HK1.out) k (by omega)
          have hcs := cnt_succ ss k q hqs
          have hcl := cnt_le ss k q
          have hg : ss[q].xs.getD k false = ss[q].xs[k]'(by omega) := by rw [List.getD_eq_getElem?_getD, List.getElem?_eq_getElem (by omega)]; rfl
          rw [hg] at hcs
          rw [hA2, hfl] at e0
          generalize ss[q].xs[k]'(by omega) = bb at hcs e1
          have HCS := Lib.hid hcs
          have hk2 : (k : Int) < (n : Int) := by omega
          have hk3 : (0 : Int) ≤ (k : Int) := by omega
          clear hcs hfi hfl hA2 hg
          cases bb
          · go_wp2
            go_round
            case rel => exact ⟨q + 1, by omega, by go_num, by rw [HCS.out]; simp⟩
            case measure => simp [intOf]; omega
          · go_wp2
            go_round
            case rel => exact ⟨q + 1, by omega, by go_num, by rw [HCS.out]; simp⟩
            case measure => simp [intOf]; omega
        · have : q = ss.length := by omega
          subst this
          rw [List.take_length]
          have hcl := cnt_le ss k ss.length
          rw [List.take_length] at hcl
          have hk2 : (k : Int) < (n : Int) := by omega
          have hk3 : (0 : Int) ≤ (k : Int) := by omega
          generalize hct : cnt ss k = ct at hcl HES ⊢
          clear hct
          go_wp2_with (go_at_fn gf; refine Zone.hold ?_)
          refine Zone.unhold ?_
          refine (HP.out wr ct HK1.out (by omega)).mono ?_
          rintro e w2 ⟨rfl, hk5⟩
          obtain ⟨p2, rfl⟩ := gro_of_below _ hk5
          have ho2 := own_setF (HO1.out.keep hk5) HLEN.out.symm k (p ct)
          rw [HES.out] at ho2
          have HO2 := Lib.hid ho2
          have HK2 := Lib.hid (HK1.out.trans hk5)
          clear ho2 hk5
          go_wp2
          go_roundw
          case rel => exact ⟨k + 1, by omega, by go_num, HO2.out, HK2.out.setCell HGE.out _⟩
          case measure => simp [intOf]; omega
    · have : k = n := by omega
      subst this
      rw [eachTo_done] at HO1
      go_wp2
      go_ret
      exact ⟨rfl, HO1.out, HK1.out⟩
/-- How many of some rows of flags hold an id. -/
def cntL (ls : List (List Bool)) (id : Nat) : Nat := ls.countP fun s => s.getD id false
theorem cnt_map (ss : List Fl) (id : Nat) : cnt ss id = cntL (ss.map Fl.xs) id := by simp [cnt, cntL, List.countP_map, Function.comp_def]
def eachL (n : Nat) (ls : List (List Bool)) (p : Nat → Bool) : List Bool := (List.range n).map fun id => p (cntL ls id)
theorem eachF_map (n : Nat) (ss : List Fl) (p : Nat → Bool) : eachF n ss p = eachL n (ss.map Fl.xs) p := by simp [eachF, eachL, cnt_map]
theorem map_att {α β : Type} (l : List α) (f : α → β) : (l.attach.map fun x => f x.1) = l.map f := List.attach_map_val (l := l) (f := f)
/-- Which ids a filter of one column takes. -/
def oneF (kind : Int) (ys : List Val) (n : Nd) : List Bool :=
  if n.op = 4 then leafF kind ys n
  else if n.op = 1 then eachL ys.length (n.kids.attach.map fun k => oneF kind ys k.1) (fun t => t == n.kids.length)
  else if n.op = 2 then eachL ys.length (n.kids.attach.map fun k => oneF kind ys k.1) (fun t => decide (0 < t))
  else if n.op = 3 then eachL ys.length (n.kids.attach.map fun k => oneF kind ys k.1) (fun t => t == 0)
  else List.replicate ys.length true
termination_by SizeOf.sizeOf n
decreasing_by all_goals exact kid_lt k.2
theorem oneF_eq (kind : Int) (ys : List Val) (n : Nd) : oneF kind ys n =
    if n.op = 4 then leafF kind ys n else if n.op = 1 then eachL ys.length (n.kids.map (oneF kind ys)) (fun t => t == n.kids.length)
    else if n.op = 2 then eachL ys.length (n.kids.map (oneF kind ys)) (fun t => decide (0 < t)) else if n.op = 3 then eachL ys.length (n.kids.map (oneF kind ys)) (fun t => t == 0) else List.replicate ys.length true := by
  rw [oneF]
  simp only [map_att n.kids (oneF kind ys)]
theorem oneF_len (kind : Int) (ys : List Val) (n : Nd) : (oneF kind ys n).length = ys.length := by
  rw [oneF_eq]
  repeat' split
  all_goals simp [leafF, eachL]
theorem info_f : (Tryz.prog.info? 45).map (fun i => (i.zero, i.size, i.bytes)) = some (some (.slice none 0 0), 1, 24) := by kernel_rfl
theorem elt_f : Elt Tryz.prog 87 45 1 24 := by
  obtain ⟨i, hi, h1, h2, h3⟩ := info_partsK info_f
  exact ⟨i, _, Tryz.underlying87, hi, h1, h2, h3, rfl, by decide, by decide⟩
abbrev OwnS (w : World) (base : Nat) (v : Value) (xs : List Fl) : Prop := Zone.Own w base 45 1 flV v xs
/-- The sets gathered so far, in the variable at block q. -/
structure Sets (w : World) (q base : Nat) (v : Value) (ss : List Fl) (ls : List (List Bool)) (n : Nat) : Prop where
  cell : w.cell? ⟨q, 0, none⟩ = some v
  froz : w.frozen? ⟨q, 0, none⟩ = false
  own : OwnS w base v ss
  fls : ∀ s ∈ ss, OwnF w base (.slice s.A s.xs.length s.c) s.xs ∧ s.xs.length = n
  eq : ss.map Fl.xs = ls
theorem Sets.keep {w w' : World} {q base n : Nat} {v : Value} {ss : List Fl} {ls : List (List Bool)} (h : Sets w q base v ss ls n) (hk : Keep w w') : Sets w' q base v ss ls n :=
  ⟨(hk.cell (World.block_lt_of_cell? _ _ h.cell)).trans h.cell, (hk.frozen (World.block_lt_of_cell? _ _ h.cell)).trans h.froz, h.own.keep hk, fun s hs => ⟨(h.fls s hs).1.keep hk, (h.fls s hs).2⟩, h.eq⟩
theorem own_apart {w : World} {b1 b2 : Nat} {v v2 : Value} {ss : List Fl} {xs : List Bool} (h : OwnS w b1 v ss) (h2 : OwnF w b2 v2 xs) : ∀ j, v.ownBlock = some j → v2.ownBlock ≠ some j := by
  intro j hj e
  rcases h.2 with ⟨rfl, _⟩ | ⟨g, cap, cur, rfl, _, hg, _⟩
  · cases hj
  rcases h2.2 with ⟨rfl, _⟩ | ⟨g2, cap2, cur2, rfl, _, hg2, _⟩
  · cases e
  simp only [Value.ownBlock, Option.map_some, Option.some.injEq] at hj e
  subst hj; subst e
  rw [hg] at hg2
  injection hg2 with hg2
  injection hg2 with _ h3 _
  exact absurd h3 (by decide)
theorem fl_in {w : World} {b : Nat} {s : Fl} (h : OwnF w b (.slice s.A s.xs.length s.c) s.xs) (hl : s.xs.length ≤ 1000000) : FlIn w s := by
  obtain ⟨A, c, he, hs⟩ := h.sl bool_len (by omega)
  injection he with h1 _ h2
  unfold FlIn
  rw [h1, h2]
  exact hs
theorem one1_any (q k m : Nat) (A : Option Addr) (c : Nat) (w : World) (hm : m ≤ 1000000) (hk : k ≤ 1000000) (h : w.cell? ⟨q, 0, none⟩ = some (.slice A m c)) : Calls Tryz.prog 41 #[.int .i64 k, .pointer (some ⟨q, 0, none⟩)] w fun e w' => e = .returned (.bool (k == m)) ∧ Keep w w' := by
  have hb := World.block_lt_of_cell? _ _ h
  simp only at hb
  have hkm : ((k : Int) == (m : Int)) = (k == m) := by rw [Bool.eq_iff_iff]; simp; omega
  have HKM := Lib.hid hkm
  clear hkm
  go_enter Tryz.func41, Tryz.ntmps41
  go_wp2
  go_ret
  exact ⟨ret_bool (by first | exact HKM.out | (have := HKM.out; simpa using this)), (by repeat (first | exact Keep.refl _ | apply Keep.alloc | apply Keep.gro | apply Keep.drew | apply Keep.drewN))⟩
theorem one2_any (k : Nat) (w : World) : Calls Tryz.prog 42 #[.int .i64 k] w fun e w' => e = .returned (.bool (decide (0 < k))) ∧ Keep w w' := by
  go_enter Tryz.func42, Tryz.ntmps42
  go_wp2
  go_ret
  exact ⟨ret_bool (by simp), (by repeat (first | exact Keep.refl _ | apply Keep.alloc | apply Keep.gro | apply Keep.drew | apply Keep.drewN))⟩
theorem one3_any (k : Nat) (w : World) : Calls Tryz.prog 43 #[.int .i64 k] w fun e w' => e = .returned (.bool (k == 0)) ∧ Keep w w' := by
  go_enter Tryz.func43, Tryz.ntmps43
  go_wp2
  go_ret
  exact ⟨ret_bool (by rw [Bool.eq_iff_iff]; simp), (by repeat (first | exact Keep.refl _ | apply Keep.alloc | apply Keep.gro | apply Keep.drew | apply Keep.drewN))⟩
end Go.Proofs.YthigflnfccajoaaGreat
/- ids.One: which ids a filter of one column takes. -/
namespace Go.Proofs.YthigflnfccajoaaGreat
open Go.RowKit Go.Zone Go.Shelf
attribute [local go_sem] Zone.zone Zone.stepZ Zone.fill Zone.lookFs Zone.goes Zone.goesUpon Zone.dropFs Zone.cell_gro Zone.frozen_gro Zone.size_gro Zone.lt_add Zone.drew_gro Zone.tape_gro Zone.keep_refl
attribute [local go_sem] Zone.lt_add2 Zone.lt_add3 Zone.lt_add4 Zone.lt_add5 Zone.lt_add6 Zone.lt_add7 Zone.lt_add8 Zone.lt_add9 Zone.lt_add10 Zone.lt_add11 Zone.lt_add12
attribute [local go_sem] Zone.calm_normal
/-- What One gives. -/
def OneR (base n : Nat) (L : List Bool) (v : Value) (W : World) : Prop := ∃ A c, v = .slice A n c ∧ OwnF W base (.slice A n c) L
theorem OneR.mono {base n : Nat} {L : List Bool} : Mono (OneR base n L) := fun _ _ _ hk ⟨A, c, h1, h2⟩ => ⟨A, c, h1, h2.keep hk⟩
theorem oneR_of {W : World} {base n : Nat} {L : List Bool} {v : Value} (h : OwnF W base v L) (hl : L.length = n) (hn : n ≤ 1000000) : OneR base n L v W := by
  obtain ⟨A, c, rfl, _⟩ := h.sl bool_len (by omega)
  subst hl
  exact ⟨A, c, rfl, h⟩
theorem OneR.base {W : World} {b1 b2 n : Nat} {L : List Bool} {v : Value} (h : OneR b1 n L v W) (hs : b2 ≤ b1) : OneR b2 n L v W := by
  obtain ⟨A, c, h1, h2⟩ := h
  exact ⟨A, c, h1, h2.base_mono hs⟩
def OneAt (b : Nat) (kind : Int) (ys : List Val) (k : Nd) (w : World) : Prop :=
  ∀ W, Keep w W → Calls Tryz.prog 16 #[.pointer (some ⟨b, 0, none⟩), k.v] W fun e w' => ∃ v, e = .returned v ∧ OneR W.heap.size ys.length (oneF kind ys k) v w' ∧ Keep W w'
set_option maxRecDepth 100000 in
set_option maxHeartbeats 4000000 in
theorem one_f (b : Nat) (kind : Int) (A : Option Addr) (c : Nat) (ys : List Val) (w0 : World) (b0 : Nat) (n : Nd) (hn : Nd.In w0 b0 n) (hkk : kind = 1 ∨ kind = 2) (hyl : ys.length ≤ 1000000) : ∀ (w : World), Keep w0 w → DictAt w b kind A c ys → n.sz ≤ 1000000 →
    Calls Tryz.prog 16 #[.pointer (some ⟨b, 0, none⟩), n.v] w fun e w' => ∃ v, e = .returned v ∧ OneR w.heap.size ys.length (oneF kind ys n) v w' ∧ Keep w w' := by
  induction hn with
  | mk n hk hv hA hB hi ih =>
  intro w hk0 hat hsz
  have hkne : kind ≠ 0 := by omega
  have HS := Lib.hid (hk.keep hk0)
  have hkl := hk.len
  have hvl := hv.len
  have HAT := Lib.hid hat
  have HLEN := Lib.hid (fun W (hW : Keep w W) => len_at W (hat.keep hW))
  simp only [if_neg hkne] at HLEN
  have HLF := Lib.hid (fun W (hW : Keep w W) => leaf_f b kind A c ys w0 b0 n (.mk n hk hv hA hB hi) W (hk0.trans hW) (hat.keep hW) hkk hyl)
  have HKL := Lib.hid (show n.kids.length ≤ 1000000 from by
    have h1 := sz_eq n
    have h2 : ∀ l : List Nd, l.length ≤ (l.map Nd.sz).sum := fun l => by
      induction l with
      | nil => simp
      | cons x r ih => have := sz_eq x; simp only [List.length_cons, List.map_cons, List.sum_cons]; omega
    have := h2 n.kids
    omega)
  have IH := Lib.hid (show ∀ k ∈ n.kids, OneAt b kind ys k w from fun k hk W hW => ih k hk W (hk0.trans hW) (hat.keep hW) (by have := sz_mem n.kids k hk; have := sz_eq n; omega))
  clear hk hv hA hB hi ih hk0 hat hsz hkk hkne
  obtain ⟨op, KA, kc, kids, col, cmp, VB, vd, vals⟩ := n
  simp only [Nd.v] at hkl hvl HS IH HLF HKL ⊢
  rw [oneF_eq]
  simp only
  by_cases h4 : op = 4
  · subst h4
    rw [if_pos rfl]
    have hll : (leafF kind ys ⟨4, KA, kc, kids, col, cmp, VB, vd, vals⟩).length = ys.length := by simp [leafF]
    have HLL := Lib.hid hll
    clear hll
    generalize leafF kind ys _ = L at HLF HLL ⊢
    go_enter Tryz.func16, Tryz.ntmps16
    go_wp2_with (go_at_call 18; refine Zone.hold ?_)
    refine Zone.unhold ?_
    refine (HLF.out _ (by repeat (first | exact Keep.refl _ | apply Keep.alloc | apply Keep.gro | apply Keep.drew | apply Keep.drewN))).mono ?_
    rintro e w2 ⟨v, rfl, hown, hk⟩
    have HR := Lib.hid (oneR_of hown HLL.out hyl)
    have HK := Lib.hid (Keep.trans (show Keep w _ from (by repeat (first | exact Keep.refl _ | apply Keep.alloc | apply Keep.gro | apply Keep.drew | apply Keep.drewN))) hk)
    clear hown hk
    go_wp2
    go_ret
    exact ⟨v, rfl, HR.out.base (by simp), HK.out⟩
  · have d4 : (op == 4) = false := by simpa using h4
    rw [if_neg h4]
    clear h4 HLF
    have HEQ := Lib.hid (show eachL = eachL from rfl)
    obtain ⟨R, hR⟩ : ∃ R, (if op = 1 then eachL ys.length (List.map (oneF kind ys) kids) fun t => t == kids.length else if op = 2 then eachL ys.length (List.map (oneF kind ys) kids) fun t => decide (0 < t) else if op = 3 then eachL ys.length (List.map (oneF kind ys) kids) fun t => t == 0 else List.replicate ys.length true) = R := ⟨_, rfl⟩
    rw [hR]
    have HRE := Lib.hid hR
    clear hR HEQ
    go_enter Tryz.func16, Tryz.ntmps16
    go_wp2
    go_loopw [7, 17] (fun _ i wr => ∃ k : Nat, k ≤ kids.length ∧ i = .int .i64 k ∧ ∃ v ss, Hid (Sets wr (w.heap.size + 1) (w.heap.size + 1 + 1) v ss ((kids.take k).map (oneF kind ys)) ys.length) ∧ Hid (At wr w.heap.size [.int .u8 op, .slice KA kids.length kc, .string col, .int .u8 cmp, .slice VB vals.length vd]) ∧ Hid (Keep w wr) ∧ w.heap.size + 1 < wr.heap.size) (fun _ i _ => kids.length - (intOf i).toNat)
    case atStart =>
      refine ⟨0, Nat.zero_le _, rfl, .slice none 0 0, [], ⟨by simp [go_sem], by simp [go_sem], Own.nil_ _ _ _ _ _, fun s hs => (by cases hs), rfl⟩, ?_, (by repeat (first | exact Keep.refl _ | apply Keep.alloc | apply Keep.gro | apply Keep.drew | apply Keep.drewN)), by simp⟩
      show At _ _ _
      (intro j u hu; rcases j with _ | _ | _ | _ | _ | _ | _ | j <;> first | (cases hu; simp [go_sem]; done) | (exact absurd hu (by simp)))
    case round =>
      obtain ⟨k, hk, rfl, v, ss, HSS, HX, HK, hz⟩ := hrel
      by_cases hlt : k < kids.length
      · obtain ⟨g, off, rfl, hg, h0, h1, h2, h3, h4⟩ := sl_nd (HS.out.keep HK.out) k hlt
        have HC := Lib.hid (fun W (hW : Keep wr W) => IH.out kids[k] (List.getElem_mem hlt) W (HK.out.trans hW))
        have hv0 := HSS.out.cell
        have hl0 : w.heap.size < wr.heap.size := by omega
        have HLI := Lib.hid hlt
        go_wp2
        first | refine Zone.wp_region_gro 5 (by kernel_rfl) (by kernel_rfl) ?_ | refine Zone.wp_region 5 (by kernel_rfl) (by kernel_rfl) ?_
        simp only [List.take_succ_cons, List.take_zero, List.drop_succ_cons, List.drop_zero]
        iterate 3
          refine Zone.wpZ_step (fun K hK => ?_)
          go_simp
          (refine hK _ _ ?_; clear hK K)
        refine Zone.wpZ_free 24 (OneR (w.heap.size + 1 + 1) ys.length (oneF kind ys kids[k])) rfl OneR.mono ?_ ?_
        · intro p
          simp only [Zone.fill, Zone.lookFs, List.filter_nil]
          go_simp
          go_at_call 16
          refine (HC.out _ (by repeat (first | exact Keep.refl _ | apply Keep.alloc | apply Keep.gro | apply Keep.drew | apply Keep.drewN))).mono ?_
          rintro e w5 ⟨v5, rfl, hr5, hk5⟩
          exact ⟨v5, rfl, hr5.base (by simp [size_gro]; omega), hk5⟩
        refine Zone.wpZ_free 25 (fun u W => ∃ g s, u = .slice (some ⟨g, 0, none⟩) 1 1 ∧ Sl W 1 flV (some ⟨g, 0, none⟩) 1 [s] ∧ OwnF W (w.heap.size + 1 + 1) (.slice s.A s.xs.length s.c) s.xs ∧ s.xs = oneF kind ys kids[k]) rfl (fun _ W W' hk ⟨g, s, h1, h2, h3, h4⟩ => ⟨g, s, h1, h2.keep hk, h3.keep hk, h4⟩) ?_ ?_
        · intro p
          rw [show Zone.lookFs _ _ _ = [(24, OneR (w.heap.size + 1 + 1) ys.length (oneF kind ys kids[k]))] from rfl]
          rintro v5 ⟨A5, c5, rfl, hr5⟩
          go_simp
          refine ⟨⟨⟨A5, c5, oneF kind ys kids[k]⟩, ?_, ?_, rfl⟩, Keep.alloc (Keep.refl _) _⟩
          · have h7 : [(⟨A5, c5, oneF kind ys kids[k]⟩ : Fl)].flatMap flV = [Value.slice A5 ys.length c5] := by simp [flV, oneF_len]
            have h6 : At (((wr.alloc (.cells #[.int .u8 kids[k].op, .slice kids[k].A kids[k].kids.length kids[k].c, .string kids[k].col, .int .u8 kids[k].cmp, .slice kids[k].B kids[k].vals.length kids[k].d] 27)).gro p).alloc (.cells #[.slice A5 ys.length c5] 45)) ((wr.alloc (.cells #[.int .u8 kids[k].op, .slice kids[k].A kids[k].kids.length kids[k].c, .string kids[k].col, .int .u8 kids[k].cmp, .slice kids[k].B kids[k].vals.length kids[k].d] 27)).gro p).heap.size ([(⟨A5, c5, oneF kind ys kids[k]⟩ : Fl)].flatMap flV) := by
              rw [h7]; exact at_alloc _ [.slice A5 ys.length c5] 45
            have h8 := sl_blk (k := 1) (enc := flV) (fun _ => rfl) h6 (by simp)
            simp only [size_gro, World.size_alloc, List.length_singleton] at h8
            exact h8
          · show OwnF _ _ (.slice A5 (oneF kind ys kids[k]).length c5) _
            rw [oneF_len]
            exact hr5.keep (Keep.alloc (Keep.refl _) _)
        refine Zone.wpZ_nil ?_
        intro p
        simp only [Zone.fill]
        rintro u5 ⟨g5, s5, rfl, hs5, hf5, hx5⟩ u6 hu6
        clear hu6
        simp only [Zone.dropFs, List.filter_nil, Zone.fill]
        have HSS1 := Lib.hid ((HSS.out.keep (show Keep wr _ from Keep.alloc (Keep.refl _) (.cells #[.int .u8 kids[k].op, .slice kids[k].A kids[k].kids.length kids[k].c, .string kids[k].col, .int .u8 kids[k].cmp, .slice kids[k].B kids[k].vals.length kids[k].d] 27))).keep (below_gro _ p))
        have hz1 : w.heap.size + 1 < ((wr.alloc (.cells #[.int .u8 kids[k].op, .slice kids[k].A kids[k].kids.length kids[k].c, .string kids[k].col, .int .u8 kids[k].cmp, .slice kids[k].B kids[k].vals.length kids[k].d] 27)).gro p).heap.size := by simp [size_gro]; omega
        have HK1 := Lib.hid ((HK.out.trans (Keep.alloc (Keep.refl _) (.cells #[.int .u8 kids[k].op, .slice kids[k].A kids[k].kids.length kids[k].c, .string kids[k].col, .int .u8 kids[k].cmp, .slice kids[k].B kids[k].vals.length kids[k].d] 27))).trans (below_gro _ p))
        have HX1 := Lib.hid ((HX.out.keep (Keep.alloc (Keep.refl _) (.cells #[.int .u8 kids[k].op, .slice kids[k].A kids[k].kids.length kids[k].c, .string kids[k].col, .int .u8 kids[k].cmp, .slice kids[k].B kids[k].vals.length kids[k].d] 27))).keep (below_gro _ p))
        have HF5 := Lib.hid hf5
        have HS5 := Lib.hid hs5
        have HX5 := Lib.hid hx5
        clear hf5 hs5 hx5 hv0 hl0 h0 h1 h2 h3 h4 HSS HK HX HC hz hg
        generalize World.gro _ _ = w5 at HSS1 hz1 HK1 HX1 HF5 HS5 ⊢
        have hlen5 : ss.length = k := by have := congrArg List.length HSS1.out.eq; simp at this; omega
        go_wp2_with (at_builtin; refine Zone.hold ?_)
        refine Zone.unhold ?_
        refine wpList_app elt_f fl_len fl_one rfl (.tmp 21) (.tmp 25) rfl (ys := [s5]) HSS1.out.own rfl rfl HS5.out (by have := HKL.out; simp; omega) (by omega) ?_
        intro v1 w6 hown6 hg6 _
        obtain ⟨s6, hs6⟩ : ∃ s6, ss ++ [s5] = s6 := ⟨_, rfl⟩
        rw [hs6] at hown6
        have hl6 : s6.length ≤ 1000001 := by have := HKL.out; rw [← hs6]; simp; omega
        obtain ⟨A9, c9, rfl, _⟩ := hown6.sl fl_len (by omega)
        have HO6 := Lib.hid hown6
        have hob := fun j (hj : v.ownBlock = some j) => HSS1.out.own.lt j hj
        have hc6 := hg6.cell HSS1.out.cell (fun e => by have h := (hob _ e.symm).1; simp only at h; omega)
        have hf6 : w6.frozen? ⟨w.heap.size + 1, 0, none⟩ = false := by
          have hb6 := hg6.block (w.heap.size + 1) hz1 (fun e => by have := (hob _ e.symm).1; omega)
          have := HSS1.out.froz
          unfold World.frozen? at this ⊢
          rw [hb6]; exact this
        have HX6 := Lib.hid (At.by_ hg6 HX1.out (fun e => by have := (hob _ e.symm).1; omega))
        have HK6 := Lib.hid (HK1.out.grown hg6 (fun j e => by have := (hob _ e).1; omega))
        have hfl6 : ∀ s ∈ s6, OwnF w6 (w.heap.size + 1 + 1) (.slice s.A s.xs.length s.c) s.xs ∧ s.xs.length = ys.length := fun s hs => by
          rw [← hs6] at hs
          rcases List.mem_append.1 hs with hs | hs
          · exact ⟨(HSS1.out.fls s hs).1.grown hg6 (own_apart HSS1.out.own (HSS1.out.fls s hs).1), (HSS1.out.fls s hs).2⟩
          · rw [List.mem_singleton.1 hs]
            exact ⟨HF5.out.grown hg6 (own_apart HSS1.out.own HF5.out), by rw [HX5.out, oneF_len]⟩
        have HFL6 := Lib.hid hfl6
        have heq6 : s6.map Fl.xs = (kids.take (k + 1)).map (oneF kind ys) := by
          rw [← hs6, List.map_append, HSS1.out.eq, List.take_succ_eq_append_getElem HLI.out, List.map_append]
          show _ ++ [s5.xs] = _ ++ [oneF kind ys kids[k]]
          rw [HX5.out]
        have HEQ6 := Lib.hid heq6
        clear heq6 hs6 hl6
        have hz6 : w.heap.size + 1 < w6.heap.size := World.block_lt_of_cell? _ _ hc6
        clear hown6 hg6 hob hfl6 HSS1 HX1 HK1 HF5 HS5 HX5 hz1 hlen5
        go_wp2
        go_roundw
        case rel =>
          have hgs := By.set w6 ⟨w.heap.size + 1, 0, none⟩ (.slice A9 s6.length c9)
          have hne : ∀ {g : Nat}, w.heap.size + 1 < g → some g ≠ some (w.heap.size + 1) := fun h e => by have := Option.some.inj e; omega
          refine ⟨k + 1, by omega, by go_num, _, s6, ⟨World.cell?_setCell_same _ _ _ hc6, by rw [World.frozen?_setCell]; exact hf6, HO6.out.grown hgs (fun j e h => ?_), fun s hs => ⟨(HFL6.out s hs).1.grown hgs (fun j e h => ?_), (HFL6.out s hs).2⟩, HEQ6.out⟩, At.by_ hgs HX6.out (fun e => by have := Option.some.inj e; simp at this), HK6.out.setCell (by simp) _, by simpa using hz6⟩
          · have h1 := (HO6.out.lt j h).1
            injection e with e
            simp only at e; omega
          · have h1 := ((HFL6.out s hs).1.lt j h).1
            injection e with e
            simp only at e; omega
        case measure => simp [intOf]; omega
      · have : k = kids.length := by omega
        subst this
        rw [List.take_length] at HSS
        have hsl : ss.length = kids.length := by have := congrArg List.length HSS.out.eq; simpa using this
        obtain ⟨A9, c9, rfl, hsl9⟩ := HSS.out.own.sl fl_len (by have := HKL.out; omega)
        have hv0 := HSS.out.cell
        have hl0 : w.heap.size < wr.heap.size := by omega
        have hx0 := HX.out 0 _ rfl
        have HS9 := Lib.hid hsl9
        have HIN := Lib.hid (show ∀ W, Keep wr W → ∀ s ∈ ss, FlIn W s ∧ s.xs.length = ys.length from fun W hW s hs => ⟨fl_in ((HSS.out.fls s hs).1.keep hW) (by have := (HSS.out.fls s hs).2; omega), (HSS.out.fls s hs).2⟩)
        have HSL := Lib.hid hsl
        have HEQ := Lib.hid HSS.out.eq
        clear hsl9 hsl
        by_cases h1 : op = 1
        · subst h1
          have hR := HRE.out
          rw [if_pos rfl] at hR
          have HR := Lib.hid hR
          clear hR HRE
          go_wp2
          first | refine Zone.wp_region_all_gro (by kernel_rfl) (by kernel_rfl) ?_ | refine Zone.wp_region_all (by kernel_rfl) (by kernel_rfl) ?_
          repeat
            refine Zone.wpZ_step (fun K hK => ?_)
            go_simp
            first
            | (refine hK _ _ ?_; clear hK K)
            | (apply Exists.intro
               refine ⟨fun p => ?_, hK _ _ ?_⟩
               ((go_at_call 34; exact Zone.zs (HLEN.out _ (HK.out.trans (by repeat (first | exact Keep.refl _ | apply Keep.alloc | apply Keep.gro | apply Keep.drew | apply Keep.drewN))))))
               clear hK K)
          refine Zone.wpZ_free 36 (OneR w.heap.size ys.length R) rfl OneR.mono ?_ ?_
          · intro p
            simp only [Zone.fill, Zone.lookFs, List.filter_nil]
            go_simp
            go_at_call 40
            have hk3 : Keep wr (wr.gro p) := below_gro _ p
            refine (each_f ys.length A9 c9 ss 41 #[.pointer (some ⟨w.heap.size + 1, 0, none⟩)] (fun t => t == ss.length) _ hyl (HS9.out.keep hk3) (HIN.out _ hk3) (by have := HKL.out; have := HSL.out; omega) (enters_of Tryz.func41 (by kernel_rfl) rfl) (fun W k hW hk => one1_any (w.heap.size + 1) k ss.length A9 c9 W (by have := HKL.out; have := HSL.out; omega) hk (((hk3.trans hW).cell (p := ⟨w.heap.size + 1, 0, none⟩) hz).trans hv0))).mono ?_
            rintro e w5 ⟨rfl, hown, hk5⟩
            refine ⟨_, rfl, ⟨_, _, rfl, ?_⟩, hk5⟩
            have hb : w.heap.size ≤ (wr.gro p).heap.size := Nat.le_trans (Nat.le_of_lt hl0) hk3.size
            rw [eachF_map, HEQ.out] at hown
            try rw [HSL.out] at hown
            rw [HR.out] at hown
            exact hown.base_mono hb
          refine Zone.wpZ_free 4 (OneR w.heap.size ys.length R) rfl OneR.mono ?_ ?_
          · intro p
            rw [show Zone.lookFs _ _ _ = [(36, OneR w.heap.size ys.length R)] from rfl]
            rintro v5 hv5
            go_simp
            (try exact ⟨hv5, Keep.refl _⟩)
          refine Zone.wpZ_nil ?_
          intro p
          simp only [Zone.fill]
          rintro u4 hu4
          change ∀ v, OneR w.heap.size ys.length R v (wr.gro p) → Zone.fill _ [] _ _
          rintro u36 hu36
          simp only [Zone.fill]
          have HU := Lib.hid hu4
          have HKG := Lib.hid (HK.out.trans (below_gro wr p))
          clear hu36 hu4
          go_wp2
          go_ret
          exact ⟨u4, rfl, HU.out, HKG.out⟩
        by_cases h2 : op = 2
        · subst h2
          have hR := HRE.out
          rw [if_neg h1, if_pos rfl] at hR
          have HR := Lib.hid hR
          clear hR HRE h1
          go_wp2
          first | refine Zone.wp_region_all_gro (by kernel_rfl) (by kernel_rfl) ?_ | refine Zone.wp_region_all (by kernel_rfl) (by kernel_rfl) ?_
          repeat
            refine Zone.wpZ_step (fun K hK => ?_)
            go_simp
            first
            | (refine hK _ _ ?_; clear hK K)
            | (apply Exists.intro
               refine ⟨fun p => ?_, hK _ _ ?_⟩
               ((go_at_call 34; exact Zone.zs (HLEN.out _ (HK.out.trans (by repeat (first | exact Keep.refl _ | apply Keep.alloc | apply Keep.gro | apply Keep.drew | apply Keep.drewN))))))
               clear hK K)
          refine Zone.wpZ_free 42 (OneR w.heap.size ys.length R) rfl OneR.mono ?_ ?_
          · intro p
            simp only [Zone.fill, Zone.lookFs, List.filter_nil]
            go_simp
            go_at_call 40
            have hk3 : Keep wr (wr.gro p) := below_gro _ p
            refine (each_f ys.length A9 c9 ss 42 #[] (fun t => decide (0 < t)) _ hyl (HS9.out.keep hk3) (HIN.out _ hk3) (by have := HKL.out; have := HSL.out; omega) (enters_of Tryz.func42 (by kernel_rfl) rfl) (fun W k _ _ => one2_any k W)).mono ?_
            rintro e w5 ⟨rfl, hown, hk5⟩
            refine ⟨_, rfl, ⟨_, _, rfl, ?_⟩, hk5⟩
            have hb : w.heap.size ≤ (wr.gro p).heap.size := Nat.le_trans (Nat.le_of_lt hl0) hk3.size
            rw [eachF_map, HEQ.out] at hown
            try rw [HSL.out] at hown
            rw [HR.out] at hown
            exact hown.base_mono hb
          refine Zone.wpZ_free 4 (OneR w.heap.size ys.length R) rfl OneR.mono ?_ ?_
          · intro p
            rw [show Zone.lookFs _ _ _ = [(42, OneR w.heap.size ys.length R)] from rfl]
            rintro v5 hv5
            go_simp
            (try exact ⟨hv5, Keep.refl _⟩)
          refine Zone.wpZ_nil ?_
          intro p
          simp only [Zone.fill]
          rintro u4 hu4
          change ∀ v, OneR w.heap.size ys.length R v (wr.gro p) → Zone.fill _ [] _ _
          rintro u36 hu36
          simp only [Zone.fill]
          have HU := Lib.hid hu4
          have HKG := Lib.hid (HK.out.trans (below_gro wr p))
          clear hu36 hu4
          go_wp2
          go_ret
          exact ⟨u4, rfl, HU.out, HKG.out⟩
        by_cases h3 : op = 3
        · subst h3
          have hR := HRE.out
          rw [if_neg h1, if_neg h2, if_pos rfl] at hR
          have HR := Lib.hid hR
          clear hR HRE h1 h2
          go_wp2
          first | refine Zone.wp_region_all_gro (by kernel_rfl) (by kernel_rfl) ?_ | refine Zone.wp_region_all (by kernel_rfl) (by kernel_rfl) ?_
          repeat
            refine Zone.wpZ_step (fun K hK => ?_)
            go_simp
            first
            | (refine hK _ _ ?_; clear hK K)
            | (apply Exists.intro
               refine ⟨fun p => ?_, hK _ _ ?_⟩
               ((go_at_call 34; exact Zone.zs (HLEN.out _ (HK.out.trans (by repeat (first | exact Keep.refl _ | apply Keep.alloc | apply Keep.gro | apply Keep.drew | apply Keep.drewN))))))
               clear hK K)
          refine Zone.wpZ_free 48 (OneR w.heap.size ys.length R) rfl OneR.mono ?_ ?_
          · intro p
            simp only [Zone.fill, Zone.lookFs, List.filter_nil]
            go_simp
            go_at_call 40
            have hk3 : Keep wr (wr.gro p) := below_gro _ p
            refine (each_f ys.length A9 c9 ss 43 #[] (fun t => t == 0) _ hyl (HS9.out.keep hk3) (HIN.out _ hk3) (by have := HKL.out; have := HSL.out; omega) (enters_of Tryz.func43 (by kernel_rfl) rfl) (fun W k _ _ => one3_any k W)).mono ?_
            rintro e w5 ⟨rfl, hown, hk5⟩
            refine ⟨_, rfl, ⟨_, _, rfl, ?_⟩, hk5⟩
            have hb : w.heap.size ≤ (wr.gro p).heap.size := Nat.le_trans (Nat.le_of_lt hl0) hk3.size
            rw [eachF_map, HEQ.out] at hown
            try rw [HSL.out] at hown
            rw [HR.out] at hown
            exact hown.base_mono hb
          refine Zone.wpZ_free 4 (OneR w.heap.size ys.length R) rfl OneR.mono ?_ ?_
          · intro p
            rw [show Zone.lookFs _ _ _ = [(48, OneR w.heap.size ys.length R)] from rfl]
            rintro v5 hv5
            go_simp
            (try exact ⟨hv5, Keep.refl _⟩)
          refine Zone.wpZ_nil ?_
          intro p
          simp only [Zone.fill]
          rintro u4 hu4
          change ∀ v, OneR w.heap.size ys.length R v (wr.gro p) → Zone.fill _ [] _ _
          rintro u36 hu36
          simp only [Zone.fill]
          have HU := Lib.hid hu4
          have HKG := Lib.hid (HK.out.trans (below_gro wr p))
          clear hu36 hu4
          go_wp2
          go_ret
          exact ⟨u4, rfl, HU.out, HKG.out⟩
        have hR := HRE.out
        rw [if_neg h1, if_neg h2, if_neg h3] at hR
        have HR := Lib.hid hR
        have d1 : (op == 1) = false := by simpa using h1
        have d2 : (op == 2) = false := by simpa using h2
        have d3 : (op == 3) = false := by simpa using h3
        clear hR HRE h1 h2 h3
        go_wp2_with (first | (go_at_call 34; refine (HLEN.out _ (HK.out.trans (by repeat (first | exact Keep.refl _ | apply Keep.alloc | apply Keep.gro | apply Keep.drew | apply Keep.drewN)))).mono ?_; rintro e w' ⟨rfl, rfl⟩) | (go_at_call 33; refine Zone.hold ?_))
        refine Zone.unhold ?_
        refine (all_f ys.length true _ hyl).mono ?_
        rintro e w5 ⟨rfl, hown, hk5⟩
        rw [HR.out] at hown
        have HO5 := Lib.hid (hown.base_mono (show w.heap.size ≤ wr.heap.size from Nat.le_of_lt hl0))
        have HK5 := Lib.hid (HK.out.trans hk5)
        clear hown hk5
        go_wp2
        go_ret
        exact ⟨_, rfl, ⟨_, _, rfl, HO5.out⟩, HK5.out⟩
end Go.Proofs.YthigflnfccajoaaGreat
