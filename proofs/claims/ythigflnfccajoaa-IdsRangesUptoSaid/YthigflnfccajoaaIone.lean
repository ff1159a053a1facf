
/- ids.each, ids.One: which ids a filter of one column takes. -/
import Derived.WalkKit
import Derived.Lib.Hide
import Derived.WalkSpells
import Derived.WalkLawsBesides
import Derived.BigQuiet
import Derived.Shelf.Abstract
import Derived.Test.YthigflnfccajoaaIleaf
namespace Go.Proofs.Ythigflnfccajoaa
open Go.RowKit Go.Zone Go.Shelf
attribute [local go_sem] Zone.zone Zone.stepZ Zone.fill Zone.lookFs Zone.goes Zone.goesUpon Zone.dropFs Zone.cell_gro Zone.frozen_gro Zone.size_gro Zone.lt_add Zone.drew_gro Zone.tape_gro Zone.keep_refl
attribute [local go_sem] Zone.lt_add2 Zone.lt_add3 Zone.lt_add4 Zone.lt_add5 Zone.lt_add6 Zone.lt_add7 Zone.lt_add8 Zone.lt_add9 Zone.lt_add10 Zone.lt_add11 Zone.lt_add12
/-- A row of flags in memory. -/
structure Fl where
  A : Option Addr
  c : Nat
  xs : List Bool
def flV (s : Fl) : List Value := [.slice s.A s.xs.length s.c]
theorem fl_len (x : Fl) : (flV x).length = 1 := rfl
theorem fl_one (x : Fl) : ∀ u ∈ flV x, u.oneCell' = true := by simp [flV, Value.oneCell']
instance : Inhabited Fl := ⟨⟨none, 0, []⟩⟩
def FlIn (w : World) (s : Fl) : Prop := Sl w 1 boolV s.A s.c s.xs
theorem sl_fl {w : World} {c : Nat} {A : Option Addr} {xs : List Fl} (h : Sl w 1 flV A c xs) (i : Nat) (hi : i < xs.length) : ∃ b off, A = some ⟨b, off, none⟩ ∧ b < w.heap.size ∧ w.cell? ⟨b, off + i, none⟩ = some (.slice xs[i].A xs[i].xs.length xs[i].c) := by
  obtain ⟨b, off, hA, hc⟩ := h.at_ i hi
  have h0 := hc 0 _ rfl
  exact ⟨b, off, hA, World.block_lt_of_cell? w _ h0, by simpa using h0⟩
theorem sl_bool {w : World} {c : Nat} {A : Option Addr} {xs : List Bool} (h : Sl w 1 boolV A c xs) (i : Nat) (hi : i < xs.length) : ∃ b off, A = some ⟨b, off, none⟩ ∧ b < w.heap.size ∧ w.cell? ⟨b, off + i, none⟩ = some (.bool xs[i]) := by
  obtain ⟨b, off, hA, hc⟩ := h.at_ i hi
  have h0 := hc 0 _ rfl
  exact ⟨b, off, hA, World.block_lt_of_cell? w _ h0, by simpa using h0⟩
/-- How many of some sets hold an id. -/
def cnt (ss : List Fl) (id : Nat) : Nat := ss.countP fun s => s.xs.getD id false
theorem cnt_succ (ss : List Fl) (id j : Nat) (h : j < ss.length) : cnt (ss.take (j + 1)) id = cnt (ss.take j) id + (if ss[j].xs.getD id false then 1 else 0) := by
  unfold cnt
  rw [List.take_succ_eq_append_getElem h, List.countP_append, List.countP_singleton]
theorem cnt_le (ss : List Fl) (id j : Nat) : cnt (ss.take j) id ≤ j := Nat.le_trans List.countP_le_length (by simp; omega)
def eachF (n : Nat) (ss : List Fl) (p : Nat → Bool) : List Bool := (List.range n).map fun id => p (cnt ss id)
/-- The flags behind k rounds. -/
def eachTo (n : Nat) (ss : List Fl) (p : Nat → Bool) (k : Nat) : List Bool := (List.range k).map (fun id => p (cnt ss id)) ++ List.replicate (n - k) false
theorem eachTo_len (n : Nat) (ss : List Fl) (p : Nat → Bool) (k : Nat) (h : k ≤ n) : (eachTo n ss p k).length = n := by simp [eachTo]; omega
theorem eachTo_set (n : Nat) (ss : List Fl) (p : Nat → Bool) (k : Nat) (h : k < n) : (eachTo n ss p k).set k (p (cnt ss k)) = eachTo n ss p (k + 1) := by
  unfold eachTo
  rw [List.set_append_right _ _ (by simp), List.length_map, List.length_range, Nat.sub_self, show n - k = (n - (k + 1)) + 1 by omega, List.replicate_succ, List.set_cons_zero, List.range_succ]
  simp
theorem eachTo_done (n : Nat) (ss : List Fl) (p : Nat → Bool) : eachTo n ss p n = eachF n ss p := by simp [eachTo, eachF]
set_option maxRecDepth 100000 in
set_option maxHeartbeats 4000000 in
theorem each_f (n : Nat) (F : Option Addr) (m : Nat) (ss : List Fl) (gf : Nat) (lb : Array Value) (p : Nat → Bool) (w : World) (hn : n ≤ 1000000) (hs : Sl w 1 flV F m ss) (hin : ∀ s ∈ ss, FlIn w s ∧ s.xs.length = n) (hsl : ss.length ≤ 1000000)
    (eg : ∀ args w, (callFunc gf args).run Try.prog w = .ok (.enter gf args) w) (hp : ∀ W (k : Nat), Keep w W → k ≤ 1000000 → Calls Try.prog gf (#[.int .i64 k] ++ lb) W fun e w' => e = .returned (.bool (p k)) ∧ Keep W w') :
    Calls Try.prog 98 #[.int .i64 n, .slice F ss.length m, .func (.func gf) #[] lb] w fun e w' => e = .returned (.slice (some ⟨w.heap.size, 0, none⟩) n n) ∧ OwnF w' w.heap.size (.slice (some ⟨w.heap.size, 0, none⟩) n n) (eachF n ss p) ∧ Keep w w' := by
  have HS := Lib.hid hs
  have HI := Lib.hid hin
  have HP := Lib.hid hp
  obtain ⟨W', hr, ho, hk⟩ := own_make n w.heap.size w hn (Nat.le_refl _)
  have HO := Lib.hid (show OwnF W' w.heap.size (.slice (some ⟨w.heap.size, 0, none⟩) n n) (eachTo n ss p 0) by simpa [eachTo] using ho)
  have HK := Lib.hid hk
  clear ho hk hs hin hp
  generalize hg : w.heap.size = g at hr HO ⊢
  go_enter Try.func98, Try.ntmps98
  go_wp2
  go_loopw [8, 9, 11, 16, 21] (fun _ _ _ i _ wr => ∃ k : Nat, k ≤ n ∧ i = .int .i64 k ∧ Hid (OwnF wr g (.slice (some ⟨g, 0, none⟩) n n) (eachTo n ss p k)) ∧ Hid (Keep w wr)) (fun _ _ _ i _ _ => n - (intOf i).toNat)
  case atStart => exact ⟨0, Nat.zero_le _, rfl, HO.out, HK.out⟩
  case round =>
    obtain ⟨k, hk, rfl, HO1, HK1⟩ := hrel
    by_cases hlt : k < n
    · have hlen := eachTo_len n ss p k hk
      obtain ⟨c0, c1, c2, c3⟩ := own_cellF HO1.out hlen.symm k (by omega)
      generalize (eachTo n ss p k)[k] = u0 at c0
      have HES := Lib.hid (eachTo_set n ss p k hlt)
      have HGE := Lib.hid (show w.heap.size ≤ g by omega)
      have HLEN := Lib.hid hlen
      clear hlen c3
      go_wp2
      go_loop [9, 11, 21, 22, 23, 24, 25, 26, 27, 28, 29, 30, 31] (fun t _ j _ _ _ _ _ _ _ _ _ _ => ∃ q : Nat, q ≤ ss.length ∧ j = .int .i64 q ∧ t = .int .i64 (cnt (ss.take q) k)) (fun _ _ j _ _ _ _ _ _ _ _ _ _ => ss.length - (intOf j).toNat)
      case atStart => exact ⟨0, Nat.zero_le _, rfl, rfl⟩
      case round =>
        obtain ⟨q, hq, rfl, rfl⟩ := hrel
        by_cases hqs : q < ss.length
        · obtain ⟨b1, off1, rfl, hb1, e0⟩ := sl_fl (HS.out.keep HK1.out) q hqs
          obtain ⟨hfi, hfl⟩ := HI.out ss[q] (List.getElem_mem hqs)
          obtain ⟨b2, off2, hA2, hb2, e1⟩ := sl_bool (Sl.keep hfi HK1.out) k (by omega)
          have hcs := cnt_succ ss k q hqs
          have hcl := cnt_le ss k q
          have hg : ss[q].xs.getD k false = ss[q].xs[k]'(by omega) := by rw [List.getD_eq_getElem?_getD, List.getElem?_eq_getElem (by omega)]; rfl
          rw [hg] at hcs
          rw [hA2, hfl] at e0
          generalize ss[q].xs[k]'(by omega) = bb at hcs e1
          have HCS := Lib.hid hcs
          have hk2 : (k : Int) < (n : Int) := by omega
          have hk3 : (0 : Int) ≤ (k : Int) := by omega
          clear hcs hfi hfl hA2 hg
          cases bb
          · go_wp2
            go_round
            case rel => exact ⟨q + 1, by omega, by go_num, by rw [HCS.out]; simp⟩
            case measure => simp [intOf]; omega
          · go_wp2
            go_round
            case rel => exact ⟨q + 1, by omega, by go_num, by rw [HCS.out]; simp⟩
            case measure => simp [intOf]; omega
        · have : q = ss.length := by omega
          subst this
          rw [List.take_length]
          have hcl := cnt_le ss k ss.length
          rw [List.take_length] at hcl
          have hk2 : (k : Int) < (n : Int) := by omega
          have hk3 : (0 : Int) ≤ (k : Int) := by omega
          generalize hct : cnt ss k = ct at hcl HES ⊢
          clear hct
          go_wp2_with (go_at_fn gf; refine Zone.hold ?_)
          refine Zone.unhold ?_
          refine (HP.out wr ct HK1.out (by omega)).mono ?_
          rintro e w2 ⟨rfl, hk5⟩
          obtain ⟨p2, rfl⟩ := gro_of_below _ hk5
          have ho2 := own_setF (HO1.out.keep hk5) HLEN.out.symm k (p ct)
          rw [HES.out] at ho2
          have HO2 := Lib.hid ho2
          have HK2 := Lib.hid (HK1.out.trans hk5)
          clear ho2 hk5
          go_wp2
          go_roundw
          case rel => exact ⟨k + 1, by omega, by go_num, HO2.out, HK2.out.setCell HGE.out _⟩
          case measure => simp [intOf]; omega
    · have : k = n := by omega
      subst this
      rw [eachTo_done] at HO1
      go_wp2
      go_ret
      exact ⟨rfl, HO1.out, HK1.out⟩
/-- How many of some rows of flags hold an id. -/
def cntL (ls : List (List Bool)) (id : Nat) : Nat := ls.countP fun s => s.getD id false
theorem cnt_map (ss : List Fl) (id : Nat) : cnt ss id = cntL (ss.map Fl.xs) id := by simp [cnt, cntL, List.countP_map, Function.comp_def]
def eachL (n : Nat) (ls : List (List Bool)) (p : Nat → Bool) : List Bool := (List.range n).map fun id => p (cntL ls id)
theorem eachF_map (n : Nat) (ss : List Fl) (p : Nat → Bool) : eachF n ss p = eachL n (ss.map Fl.xs) p := by simp [eachF, eachL, cnt_map]
theorem map_att {α β : Type} (l : List α) (f : α → β) : (l.attach.map fun x => f x.1) = l.map f := List.attach_map_val (l := l) (f := f)
/-- Which ids a filter of one column takes. -/
def oneF (kind : Int) (ys : List Val) (n : Nd) : List Bool :=
  if n.op = 4 then leafF kind ys n
  else if n.op = 1 then eachL ys.length (n.kids.attach.map fun k => oneF kind ys k.1) (fun t => t == n.kids.length)
  else if n.op = 2 then eachL ys.length (n.kids.attach.map fun k => oneF kind ys k.1) (fun t => decide (0 < t))
  else if n.op = 3 then eachL ys.length (n.kids.attach.map fun k => oneF kind ys k.1) (fun t => t == 0)
  else List.replicate ys.length true
termination_by SizeOf.sizeOf n
decreasing_by all_goals exact kid_lt k.2
theorem oneF_eq (kind : Int) (ys : List Val) (n : Nd) : oneF kind ys n =
    if n.op = 4 then leafF kind ys n else if n.op = 1 then eachL ys.length (n.kids.map (oneF kind ys)) (fun t => t == n.kids.length)
    else if n.op = 2 then eachL ys.length (n.kids.map (oneF kind ys)) (fun t => decide (0 < t)) else if n.op = 3 then eachL ys.length (n.kids.map (oneF kind ys)) (fun t => t == 0) else List.replicate ys.length true := by
  rw [oneF]
  simp only [map_att n.kids (oneF kind ys)]
theorem oneF_len (kind : Int) (ys : List Val) (n : Nd) : (oneF kind ys n).length = ys.length := by
  rw [oneF_eq]
  repeat' split
  all_goals simp [leafF, eachL]
theorem info_f : (Try.prog.info? 50).map (fun i => (i.zero, i.size, i.bytes)) = some (some (.slice none 0 0), 1, 24) := by kernel_rfl
theorem elt_f : Elt Try.prog 142 50 1 24 := by
  obtain ⟨i, hi, h1, h2, h3⟩ := info_partsK info_f
  exact ⟨i, _, Try.underlying142, hi, h1, h2, h3, rfl, by decide, by decide⟩
abbrev OwnS (w : World) (base : Nat) (v : Value) (xs : List Fl) : Prop := Zone.Own w base 50 1 flV v xs
/-- The sets gathered so far, in the variable at block q. -/
structure Sets (w : World) (q base : Nat) (v : Value) (ss : List Fl) (ls : List (List Bool)) (n : Nat) : Prop where
  cell : w.cell? ⟨q, 0, none⟩ = some v
  froz : w.frozen? ⟨q, 0, none⟩ = false
  own : OwnS w base v ss
  fls : ∀ s ∈ ss, OwnF w base (.slice s.A s.xs.length s.c) s.xs ∧ s.xs.length = n
  eq : ss.map Fl.xs = ls
theorem Sets.keep {w w' : World} {q base n : Nat} {v : Value} {ss : List Fl} {ls : List (List Bool)} (h : Sets w q base v ss ls n) (hk : Keep w w') : Sets w' q base v ss ls n :=
  ⟨(hk.cell (World.block_lt_of_cell? _ _ h.cell)).trans h.cell, (hk.frozen (World.block_lt_of_cell? _ _ h.cell)).trans h.froz, h.own.keep hk, fun s hs => ⟨(h.fls s hs).1.keep hk, (h.fls s hs).2⟩, h.eq⟩
theorem own_apart {w : World} {b1 b2 : Nat} {v v2 : Value} {ss : List Fl} {xs : List Bool} (h : OwnS w b1 v ss) (h2 : OwnF w b2 v2 xs) : ∀ j, v.ownBlock = some j → v2.ownBlock ≠ some j := by
  intro j hj e
  rcases h.2 with ⟨rfl, _⟩ | ⟨g, cap, cur, rfl, _, hg, _⟩
  · cases hj
  rcases h2.2 with ⟨rfl, _⟩ | ⟨g2, cap2, cur2, rfl, _, hg2, _⟩
  · cases e
  simp only [Value.ownBlock, Option.map_some, Option.some.injEq] at hj e
  subst hj; subst e
  rw [hg] at hg2
  injection hg2 with hg2
  injection hg2 with _ h3 _
  exact absurd h3 (by decide)
theorem fl_in {w : World} {b : Nat} {s : Fl} (h : OwnF w b (.slice s.A s.xs.length s.c) s.xs) (hl : s.xs.length ≤ 1000000) : FlIn w s := by
  obtain ⟨A, c, he, hs⟩ := h.sl bool_len (by omega)
  injection he with h1 _ h2
  unfold FlIn
  rw [h1, h2]
  exact hs
theorem one1_any (q k m : Nat) (A : Option Addr) (c : Nat) (w : World) (hm : m ≤ 1000000) (hk : k ≤ 1000000) (h : w.cell? ⟨q, 0, none⟩ = some (.slice A m c)) : Calls Try.prog 99 #[.int .i64 k, .pointer (some ⟨q, 0, none⟩)] w fun e w' => e = .returned (.bool (k == m)) ∧ Keep w w' := by
  have hb := World.block_lt_of_cell? _ _ h
  simp only at hb
  have hkm : ((k : Int) == (m : Int)) = (k == m) := by rw [Bool.eq_iff_iff]; simp; omega
  have HKM := Lib.hid hkm
  clear hkm
  go_enter Try.func99, Try.ntmps99
  go_wp2
  go_ret
  exact ⟨ret_bool (by first | exact HKM.out | (have := HKM.out; simpa using this)), (by repeat (first | exact Keep.refl _ | apply Keep.alloc | apply Keep.gro | apply Keep.drew | apply Keep.drewN))⟩
theorem one2_any (k : Nat) (w : World) : Calls Try.prog 100 #[.int .i64 k] w fun e w' => e = .returned (.bool (decide (0 < k))) ∧ Keep w w' := by
  go_enter Try.func100, Try.ntmps100
  go_wp2
  go_ret
  exact ⟨ret_bool (by simp), (by repeat (first | exact Keep.refl _ | apply Keep.alloc | apply Keep.gro | apply Keep.drew | apply Keep.drewN))⟩
theorem one3_any (k : Nat) (w : World) : Calls Try.prog 101 #[.int .i64 k] w fun e w' => e = .returned (.bool (k == 0)) ∧ Keep w w' := by
  go_enter Try.func101, Try.ntmps101
  go_wp2
  go_ret
  exact ⟨ret_bool (by rw [Bool.eq_iff_iff]; simp), (by repeat (first | exact Keep.refl _ | apply Keep.alloc | apply Keep.gro | apply Keep.drew | apply Keep.drewN))⟩
end Go.Proofs.Ythigflnfccajoaa
