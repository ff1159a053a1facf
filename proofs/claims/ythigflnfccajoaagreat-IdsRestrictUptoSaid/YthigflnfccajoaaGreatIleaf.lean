
/- ids.Leaf: which ids a leaf takes. -/
import Derived.WalkKit
import Derived.Lib.Hide
import Derived.WalkSpells
import Derived.WalkLawsBesides
import Derived.BigQuiet
import Derived.Shelf.Abstract
import Derived.TacticsInMore
import Derived.LoopNIn
import Derived.LoopIn
import Derived.Laws.EntriesVeiled
import Derived.Test.YthigflnfccajoaaGreatQtakes
import Derived.Test.YthigflnfccajoaaGreatQvalid
import Derived.Test.YthigflnfccajoaaGreatIall
namespace Go.Proofs.YthigflnfccajoaaGreat
open Go.RowKit Go.Zone Go.Shelf
attribute [local go_sem] Zone.zone Zone.stepZ Zone.fill Zone.lookFs Zone.goes Zone.goesUpon Zone.dropFs Zone.cell_gro Zone.frozen_gro Zone.size_gro Zone.lt_add Zone.drew_gro Zone.tape_gro Zone.keep_refl
attribute [local go_sem] Zone.lt_add2 Zone.lt_add3 Zone.lt_add4 Zone.lt_add5 Zone.lt_add6 Zone.lt_add7 Zone.lt_add8 Zone.lt_add9 Zone.lt_add10 Zone.lt_add11 Zone.lt_add12
attribute [local go_sem] Oper.semAt_some Zone.wide_fn Zone.wide_depth Zone.wide_round Fence.inRound_fn Fence.inRound_depth Fence.inRound_round
attribute [local go_sem] Zone.calm_normal
theorem Stable.own_ {α : Type} {B base k : Nat} {e : TypeId} {enc : α → List Value} (v : Value) (xs : List α) : Stable B fun W => Zone.Own W base e k enc v xs :=
  ⟨fun _ _ h hk => Zone.Own.keep h hk, fun W l o o' h _ hl ho => Zone.Own.grown h (grownBy_putObj' W l o') fun j e hj => by
    cases e
    rcases h.2 with ⟨rfl, _⟩ | ⟨g, cap, cur, rfl, _, hg, _⟩
    · cases hj
    · simp only [Value.ownBlock, Option.map_some, Option.some.injEq] at hj
      subst hj
      rw [hg] at hl
      cases hl
      simp [Obj.isCells] at ho⟩
theorem Stable.at_ {B : Nat} (g : Nat) (vs : List Value) : Stable B fun W => At W g vs :=
  ⟨fun _ _ h hk => h.keep hk, fun W l o o' h hb hl ho j u hu => (Stable.cell (B := B) ⟨g, j, none⟩ u).put W l o o' (h j u hu) hb hl ho⟩
def colKind (kind : Int) : Int := if kind = 2 then 2 else 1
def leafT1 (kind : Int) (n : Nd) (y : Val) : Bool := takesB [⟨n.col, colKind kind⟩] [y] n
def leafF (kind : Int) (ys : List Val) (n : Nd) : List Bool := ys.map (leafT1 kind n)
/-- The flags behind some rounds. -/
def flagsF (f : Val → Bool) (m : Nat) (pre : List (Nat × Val)) : List Bool := pre.map (fun x => f x.2) ++ List.replicate (m - pre.length) false
theorem flags_len (f : Val → Bool) (m : Nat) (pre : List (Nat × Val)) (h : pre.length ≤ m) : (flagsF f m pre).length = m := by simp [flagsF]; omega
theorem flags_set (f : Val → Bool) (m : Nat) (pre : List (Nat × Val)) (x : Nat × Val) (h : pre.length < m) : (flagsF f m pre).set pre.length (f x.2) = flagsF f m (pre ++ [x]) := by
  unfold flagsF
  rw [List.set_append_right _ _ (by simp), List.length_map, Nat.sub_self, show m - pre.length = (m - (pre.length + 1)) + 1 by omega, List.replicate_succ, List.set_cons_zero]
  simp
theorem flags_all (f : Val → Bool) : ∀ (k : Nat) (ys : List Val), (idx k ys).map (fun x => f x.2) = ys.map f
  | _, [] => rfl
  | k, y :: r => by simp [idx, flags_all f (k + 1) r]
theorem flags_done (f : Val → Bool) (ys : List Val) : flagsF f ys.length (idx 0 ys) = ys.map f := by
  unfold flagsF
  rw [flags_all, idx_len, Nat.sub_self]; simp
set_option maxRecDepth 100000 in
set_option maxHeartbeats 4000000 in
theorem leaf_f (b : Nat) (kind : Int) (A : Option Addr) (c : Nat) (ys : List Val) (w0 : World) (b0 : Nat) (n : Nd) (hn : Nd.In w0 b0 n) (w : World) (hk0 : Keep w0 w) (hat : DictAt w b kind A c ys) (hkk : kind = 1 ∨ kind = 2) (hyl : ys.length ≤ 1000000) :
    Calls Tryz.prog 18 #[.pointer (some ⟨b, 0, none⟩), n.v] w fun e w' => ∃ v, e = .returned v ∧ OwnF w' w.heap.size v (leafF kind ys n) ∧ Keep w w' := by
  have HAT := Lib.hid hat
  have HN := Lib.hid hn
  have HK0 := Lib.hid hk0
  have hkne : kind ≠ 0 := by omega
  have hvl := hn.vals_.len
  have hkl := hn.kids_.len
  have HLEN := Lib.hid (fun W (hW : Keep w W) => len_at W (hat.keep hW))
  simp only [if_neg hkne] at HLEN
  have HKIND := Lib.hid (fun W (hW : Keep w W) => kind_at W (hat.keep hW))
  have HF := Lib.hid (show leafF kind ys n = ys.map (leafT1 kind n) from rfl)
  obtain ⟨f, hf⟩ : ∃ f, leafT1 kind n = f := ⟨_, rfl⟩
  have HT := Lib.hid (fun (y : Val) => (show takesB [⟨n.col, colKind kind⟩] [y] n = f y from by rw [← hf]; rfl))
  rw [hf] at HF
  have HKD := Lib.hid (show (kind = 2 ∧ colKind kind = 2) ∨ (kind ≠ 2 ∧ colKind kind = 1) from by unfold colKind; by_cases h : kind = 2 <;> simp [h])
  have HKN := Lib.hid hkne
  obtain ⟨ck, hck⟩ : ∃ ck, colKind kind = ck := ⟨_, rfl⟩
  rw [hck] at HKD HT
  obtain ⟨W1, hr, ho, hk⟩ := own_make ys.length w.heap.size (w.alloc (.cells #[.int .u8 n.op, .slice n.A n.kids.length n.c, .string n.col, .int .u8 n.cmp, .slice n.B n.vals.length n.d] 27)) hyl (by simp)
  have a0 : At W1 w.heap.size n.cells := (at_alloc w n.cells 27).keep hk
  have HO := Lib.hid ho
  have HK1 := Lib.hid (show Keep w W1 from ((Keep.refl w).alloc _).trans hk)
  have hz1 : w.heap.size + 1 < W1.heap.size ∨ ys.length = 0 := by
    rcases Nat.eq_zero_or_pos ys.length with h | h
    · exact .inr h
    · have := (own_cellF ho (by simp) 0 (by simpa using h)).2.2.1
      simp at this; exact .inl this
  have HZ1 := Lib.hid hz1
  have A0 := Lib.hid a0
  have hzz : w.heap.size < W1.heap.size := Nat.lt_of_lt_of_le (by simp) hk.size
  have y2 := a0 2 _ rfl
  simp only [World.size_alloc] at hr HO
  clear hat hk0 hn hkk ho hk hf hck hz1 a0 hkne
  simp only [Nd.v]
  rcases HKD.out with ⟨hk2, hc2⟩ | ⟨hk2, hc2⟩
  · have d2 : (kind == 2) = true := by simp [hk2]
    subst hc2
    clear hk2 HKD
    refine Zone.calls_of_marks Tryz.func18 rfl ?_
    simp only [Tryz.ntmps18, List.size_toArray, List.length_cons, List.length_nil, Nat.reduceAdd, Nat.reduceSub, Array.replicate_succ, Array.replicate_zero, List.push_toArray, List.append_toArray, List.nil_append, List.cons_append]
    go_wp2_with (first | (go_at_call 34; refine (HLEN.out _ (by repeat (first | exact Keep.refl _ | apply Keep.alloc | apply Keep.gro | apply Keep.drew | apply Keep.drewN))).mono ?_; rintro e w' ⟨rfl, rfl⟩) | (go_at_call 44; refine (HKIND.out _ (HK1.out.trans (by repeat (first | exact Keep.refl _ | apply Keep.alloc | apply Keep.gro | apply Keep.drew | apply Keep.drewN)))).mono ?_; rintro e w' ⟨rfl, rfl⟩) | (go_at_call 45; refine (all_any _ _).mono ?_; rintro e w' ⟨rfl, rfl⟩))
    generalize hW : World.alloc _ _ = w7
    have a5 : w7.cell? ⟨W1.heap.size, 0, none⟩ = some (.slice (some ⟨w.heap.size + 1, 0, none⟩) ys.length ys.length) := by rw [← hW]; simp [go_sem]
    have aC : At w7 (W1.heap.size + 1) [.string n.col, .int .u8 2] := by rw [← hW]; (intro j u hu; rcases j with _ | _ | _ | _ | _ | _ | _ | j <;> first | (cases hu; simp [go_sem]; done) | (exact absurd hu (by simp)))
    have a7 : w7.cell? ⟨W1.heap.size + 1 + 1, 0, none⟩ = some (.slice (some ⟨W1.heap.size + 1, 0, none⟩) 1 1) := by rw [← hW]; simp [go_sem]
    have aP : w7.cell? ⟨W1.heap.size + 1 + 1 + 1, 0, none⟩ = some (.pointer (some ⟨b, 0, none⟩)) := by rw [← hW]; simp [go_sem]
    have HK7 : Hid (Keep W1 w7) := by show Keep _ _; rw [← hW]; exact (by repeat (first | exact Keep.refl _ | apply Keep.alloc | apply Keep.gro | apply Keep.drew | apply Keep.drewN))
    have HZ7 : Hid (w7.heap.size = W1.heap.size + 1 + 1 + 1 + 1) := by show _ = _; rw [← hW]; simp
    clear hW HLEN HKIND d2 hr y2
    refine Zone.wp_range_frame ?frame2 (gf := 76) (lb := #[.pointer (some ⟨W1.heap.size + 1 + 1 + 1, 0, none⟩)]) rfl (enters_of Tryz.func76 (by kernel_rfl) rfl) (all_iter (W1.heap.size + 1 + 1 + 1) b kind A c ys HKN.out) (fun _ => rfl)
      (fun pre W => Keep w W ∧ (OwnF W w.heap.size (.slice (some ⟨w.heap.size + 1, 0, none⟩) ys.length ys.length) (flagsF f ys.length pre) ∧ (At W w.heap.size n.cells ∧ (W.cell? ⟨W1.heap.size, 0, none⟩ = some (.slice (some ⟨w.heap.size + 1, 0, none⟩) ys.length ys.length) ∧
        (At W (W1.heap.size + 1) [.string n.col, .int .u8 2] ∧ (W.cell? ⟨W1.heap.size + 1 + 1, 0, none⟩ = some (.slice (some ⟨W1.heap.size + 1, 0, none⟩) 1 1) ∧ W.cell? ⟨W1.heap.size + 1 + 1 + 1, 0, none⟩ = some (.pointer (some ⟨b, 0, none⟩)))))))) (fun _ _ _ => False)
      (fun x Bx W => At W Bx x.2.cells)
      (fun s => (Stable.below w (by have := HZ7.out; omega)).and ((Stable.own_ _ _).and ((Stable.at_ _ _).and ((Stable.cell _ _).and ((Stable.at_ _ _).and ((Stable.cell _ _).and (Stable.cell _ _))))))) (fun _ _ => Stable.pure False) (fun x Bx => Stable.at_ _ _)
      (fun s A h => ⟨h.2.2.2.2.2.2, HAT.out.keep h.1⟩) ⟨HK1.out.trans HK7.out, by simpa [flagsF] using HO.out.keep HK7.out, A0.out.keep HK7.out, a5, aC, a7, aP⟩ ?assign2 ?body2 ?done2 ?stop2
    case assign2 =>
      rintro r pre x suf W K hx hI hK
      clear hI
      obtain ⟨Bx, hBx⟩ : ∃ Bx, W.heap.size = Bx := ⟨_, rfl⟩
      simp only [encIV]
      gi_wp2
      refine hK Bx _ ?_ ?_
      rotate_left
      · exact (by repeat (first | exact Keep.refl _ | apply Keep.alloc | apply Keep.gro | apply Keep.drew | apply Keep.drewN))
      subst hBx
      exact at_alloc W [.int .u8 x.2.k, .int .i64 x.2.n, .string x.2.s] 51
    case body2 =>
      rintro r pre x suf Bx W hx ⟨hkw, ho, hn0, h5, hC, h7, hP⟩ hbx
      obtain ⟨hi, hxe⟩ := idx_at hx
      obtain ⟨xi, y⟩ := x
      simp only [Prod.mk.injEq] at hxe
      obtain ⟨rfl, hy⟩ := hxe
      have hfl := flags_len f ys.length pre (by omega)
      have hset := flags_set f ys.length pre (pre.length, y) hi
      obtain ⟨c0, c1, c2, c3⟩ := own_cellF ho hfl.symm pre.length (by omega)
      have c3 : w.heap.size + 1 < W.heap.size ∧ True := ⟨c2, trivial⟩
      generalize (flagsF f ys.length pre)[pre.length] = u0 at c0
      have n0 := hn0 0 _ rfl
      have n1 := hn0 1 _ rfl
      have n2 := hn0 2 _ rfl
      have n3 := hn0 3 _ rfl
      have n4 := hn0 4 _ rfl
      have m0 := hbx 0 _ rfl
      have m1 := hbx 1 _ rfl
      have m2 := hbx 2 _ rfl
      have l0 := World.block_lt_of_cell? _ _ n0
      have l5 := World.block_lt_of_cell? _ _ h5
      have l7 := World.block_lt_of_cell? _ _ h7
      have lm := World.block_lt_of_cell? _ _ m0
      simp only at l0 l5 l7 lm
      have HTK := Lib.hid (fun A2 W' (hW : Keep W W') (hs : Sl W' 3 Val.cells A2 1 [y]) => takes_any (cols := [⟨n.col, 2⟩]) (row := [y]) w0 b0 n HN.out W' (HK0.out.trans (hkw.trans hW)) ((sl_blk (k := 2) (enc := Col.cells) (xs := [⟨n.col, 2⟩]) (fun _ => rfl) hC (by simp)).keep hW) hs)
      have HTY := Lib.hid (HT.out y)
      have HX := Lib.hid hx
      have HSET := Lib.hid hset
      have HFL := Lib.hid hfl
      have HO1 := Lib.hid ho
      have HKW := Lib.hid hkw
      have HN0 := Lib.hid hn0
      have HCC := Lib.hid hC
      have HPP := Lib.hid hP
      have HC3 := Lib.hid c3
      have hi1 : (pre.length : Int) < (ys.length : Int) := by omega
      have hi2 : (0 : Int) ≤ (pre.length : Int) := by omega
      clear hx hset hfl ho hkw hn0 hC hP hbx hy c3 a5 aC a7 aP
      obtain ⟨yk, yn, yw⟩ := y
      gi_wp2
      first | refine Zone.wpR_region_gro 8 (by kernel_rfl) (by kernel_rfl) ?_ | refine Zone.wpR_region 8 (by kernel_rfl) (by kernel_rfl) ?_
      simp only [List.take_succ_cons, List.take_zero, List.drop_succ_cons, List.drop_zero]
      iterate 5
        refine Zone.wpZ_step (fun K hK => ?_)
        go_simp
        (refine hK _ _ ?_; clear hK K)
      refine Zone.wpZ_free 30 (fun u W => ∃ g, u = .slice (some ⟨g, 0, none⟩) 1 1 ∧ Sl W 3 Val.cells (some ⟨g, 0, none⟩) 1 [(⟨yk, yn, yw⟩ : Val)]) rfl (fun _ W W' hk ⟨g, h1, h2⟩ => ⟨g, h1, h2.keep hk⟩) ?_ ?_
      · intro p
        simp only [Zone.fill, Zone.lookFs, List.filter_nil]
        go_simp
        exact ⟨sl_one (by simp [go_sem]) (by simp [go_sem]) (by simp [go_sem]), Keep.alloc (Keep.refl _) _⟩
      refine Zone.wpZ_step (fun K hK => ?_)
      refine Zone.zone_free1 (.bool (f ⟨yk, yn, yw⟩)) (d := 30) (by rfl) (fun p u hu => ?_) (hK _ _ ?_)
      · obtain ⟨g5, rfl, hs5⟩ := hu
        go_simp
        go_at_call 35
        have := HTK.out (some ⟨g5, 0, none⟩) _ (below_gro W p) hs5
        rw [HTY.out] at this
        exact Zone.zc this
      clear hK K
      refine Zone.wpZ_step (fun K hK => ?_)
      unfold Zone.zone Zone.stepZ
      rw [Zone.lookFs_nil (by rfl)]
      go_simp
      (refine hK _ _ ?_; clear hK K)
      refine Zone.wpZ_nil ?_
      intro p
      simp only [Zone.fill]
      intro u hu
      clear hu
      have HGK := Lib.hid (below_gro W p)
      have q0 := (HGK.out.cell (p := ⟨w.heap.size + 1, pre.length, none⟩) HC3.out.1).trans c0
      have q1 := (HGK.out.frozen (p := ⟨w.heap.size + 1, pre.length, none⟩) HC3.out.1).trans c1
      have HX5 := Lib.hid (HGK.out.cell (p := ⟨W1.heap.size, 0, none⟩) l5 |>.trans h5)
      have HX7 := Lib.hid (HGK.out.cell (p := ⟨W1.heap.size + 1 + 1, 0, none⟩) l7 |>.trans h7)
      have HXP := Lib.hid ((HGK.out.cell (World.block_lt_of_cell? _ _ HPP.out)).trans HPP.out)
      have HXO := Lib.hid (own_setF (HO1.out.keep HGK.out) HFL.out.symm pre.length (f ⟨yk, yn, yw⟩))
      have HXN := Lib.hid (HN0.out.keep HGK.out)
      have HXC := Lib.hid (HCC.out.keep HGK.out)
      have HWK := Lib.hid (HKW.out.trans HGK.out)
      have HB1 := Lib.hid (HZ1.out)
      rw [HSET.out] at HXO
      clear c0 c1 n0 n1 n2 n3 n4 m0 m1 m2 l0 l5 l7 lm h5 h7 HTK HTY HX HSET HO1 HKW HN0 HCC HPP
      generalize W.gro p = w9 at q0 q1 HX5 HX7 HXP HXO HXN HXC HWK HGK ⊢
      go_wp2
      rw [Zone.calm_normal]
      have hne1 : ∀ {k : Nat}, k ≠ w.heap.size + 1 → some k ≠ some (w.heap.size + 1) := fun h e => h (Option.some.inj e)
      have hg9 := By.set w9 ⟨w.heap.size + 1, pre.length, none⟩ (.bool (f ⟨yk, yn, yw⟩))
      have hz9 : w.heap.size + 1 < W1.heap.size := by rcases HB1.out with h | h <;> omega
      exact ⟨(KeepsFrom.keep HGK.out).trans (KeepsFrom.set _ _ _), HWK.out.setCell (Nat.le_succ _) _, HXO.out, At.by_ hg9 HXN.out (hne1 (by omega)), hg9.cell HX5.out (hne1 (by show W1.heap.size ≠ _; omega)), At.by_ hg9 HXC.out (hne1 (by omega)), hg9.cell HX7.out (hne1 (by show W1.heap.size + 1 + 1 ≠ _; omega)), hg9.cell HXP.out (hne1 (by show W1.heap.size + 1 + 1 + 1 ≠ _; omega))⟩
    case done2 =>
      rintro E W hE ⟨hkw, ho, hn0, h5, hC, h7, hP⟩ hb
      have HE := Lib.hid hb
      rw [flags_done, ← HF.out] at ho
      have HO2 := Lib.hid ho
      have HKW := Lib.hid hkw
      have l5 := World.block_lt_of_cell? _ _ h5
      have hE2 : w.heap.size ≤ E := by have := HZ7.out; omega
      simp only at l5
      clear hkw ho hn0 hC h7 hP hb a5 aC a7 aP hE
      go_wp2
      refine postM_mark (.inl rfl) rfl HE.out (postM_of_body (v := .slice (some ⟨w.heap.size + 1, 0, none⟩) ys.length ys.length) (.inl rfl) rfl ?_ ⟨_, rfl, ?_, ?_⟩)
      · simp [results, Tryz.results18, go_sem]
      · exact (Stable.own_ (B := w.heap.size) _ _).put W E _ _ HO2.out hE2 HE.out rfl
      · exact keep_put _ HKW.out hE2
    case stop2 => exact fun _ _ _ _ _ h => h.elim
  · have d2 : (kind == 2) = false := by simp [hk2]
    subst hc2
    clear hk2 HKD
    refine Zone.calls_of_marks Tryz.func18 rfl ?_
    simp only [Tryz.ntmps18, List.size_toArray, List.length_cons, List.length_nil, Nat.reduceAdd, Nat.reduceSub, Array.replicate_succ, Array.replicate_zero, List.push_toArray, List.append_toArray, List.nil_append, List.cons_append]
    go_wp2_with (first | (go_at_call 34; refine (HLEN.out _ (by repeat (first | exact Keep.refl _ | apply Keep.alloc | apply Keep.gro | apply Keep.drew | apply Keep.drewN))).mono ?_; rintro e w' ⟨rfl, rfl⟩) | (go_at_call 44; refine (HKIND.out _ (HK1.out.trans (by repeat (first | exact Keep.refl _ | apply Keep.alloc | apply Keep.gro | apply Keep.drew | apply Keep.drewN)))).mono ?_; rintro e w' ⟨rfl, rfl⟩) | (go_at_call 45; refine (all_any _ _).mono ?_; rintro e w' ⟨rfl, rfl⟩))
    generalize hW : World.alloc _ _ = w7
    have a5 : w7.cell? ⟨W1.heap.size, 0, none⟩ = some (.slice (some ⟨w.heap.size + 1, 0, none⟩) ys.length ys.length) := by rw [← hW]; simp [go_sem]
    have aC : At w7 (W1.heap.size + 1) [.string n.col, .int .u8 1] := by rw [← hW]; (intro j u hu; rcases j with _ | _ | _ | _ | _ | _ | _ | j <;> first | (cases hu; simp [go_sem]; done) | (exact absurd hu (by simp)))
    have a7 : w7.cell? ⟨W1.heap.size + 1 + 1, 0, none⟩ = some (.slice (some ⟨W1.heap.size + 1, 0, none⟩) 1 1) := by rw [← hW]; simp [go_sem]
    have aP : w7.cell? ⟨W1.heap.size + 1 + 1 + 1, 0, none⟩ = some (.pointer (some ⟨b, 0, none⟩)) := by rw [← hW]; simp [go_sem]
    have HK7 : Hid (Keep W1 w7) := by show Keep _ _; rw [← hW]; exact (by repeat (first | exact Keep.refl _ | apply Keep.alloc | apply Keep.gro | apply Keep.drew | apply Keep.drewN))
    have HZ7 : Hid (w7.heap.size = W1.heap.size + 1 + 1 + 1 + 1) := by show _ = _; rw [← hW]; simp
    clear hW HLEN HKIND d2 hr y2
    refine Zone.wp_range_frame ?frame1 (gf := 76) (lb := #[.pointer (some ⟨W1.heap.size + 1 + 1 + 1, 0, none⟩)]) rfl (enters_of Tryz.func76 (by kernel_rfl) rfl) (all_iter (W1.heap.size + 1 + 1 + 1) b kind A c ys HKN.out) (fun _ => rfl)
      (fun pre W => Keep w W ∧ (OwnF W w.heap.size (.slice (some ⟨w.heap.size + 1, 0, none⟩) ys.length ys.length) (flagsF f ys.length pre) ∧ (At W w.heap.size n.cells ∧ (W.cell? ⟨W1.heap.size, 0, none⟩ = some (.slice (some ⟨w.heap.size + 1, 0, none⟩) ys.length ys.length) ∧
        (At W (W1.heap.size + 1) [.string n.col, .int .u8 1] ∧ (W.cell? ⟨W1.heap.size + 1 + 1, 0, none⟩ = some (.slice (some ⟨W1.heap.size + 1, 0, none⟩) 1 1) ∧ W.cell? ⟨W1.heap.size + 1 + 1 + 1, 0, none⟩ = some (.pointer (some ⟨b, 0, none⟩)))))))) (fun _ _ _ => False)
      (fun x Bx W => At W Bx x.2.cells)
      (fun s => (Stable.below w (by have := HZ7.out; omega)).and ((Stable.own_ _ _).and ((Stable.at_ _ _).and ((Stable.cell _ _).and ((Stable.at_ _ _).and ((Stable.cell _ _).and (Stable.cell _ _))))))) (fun _ _ => Stable.pure False) (fun x Bx => Stable.at_ _ _)
      (fun s A h => ⟨h.2.2.2.2.2.2, HAT.out.keep h.1⟩) ⟨HK1.out.trans HK7.out, by simpa [flagsF] using HO.out.keep HK7.out, A0.out.keep HK7.out, a5, aC, a7, aP⟩ ?assign1 ?body1 ?done1 ?stop1
    case assign1 =>
      rintro r pre x suf W K hx hI hK
      clear hI
      obtain ⟨Bx, hBx⟩ : ∃ Bx, W.heap.size = Bx := ⟨_, rfl⟩
      simp only [encIV]
      gi_wp2
      refine hK Bx _ ?_ ?_
      rotate_left
      · exact (by repeat (first | exact Keep.refl _ | apply Keep.alloc | apply Keep.gro | apply Keep.drew | apply Keep.drewN))
      subst hBx
      exact at_alloc W [.int .u8 x.2.k, .int .i64 x.2.n, .string x.2.s] 51
    case body1 =>
      rintro r pre x suf Bx W hx ⟨hkw, ho, hn0, h5, hC, h7, hP⟩ hbx
      obtain ⟨hi, hxe⟩ := idx_at hx
      obtain ⟨xi, y⟩ := x
      simp only [Prod.mk.injEq] at hxe
      obtain ⟨rfl, hy⟩ := hxe
      have hfl := flags_len f ys.length pre (by omega)
      have hset := flags_set f ys.length pre (pre.length, y) hi
      obtain ⟨c0, c1, c2, c3⟩ := own_cellF ho hfl.symm pre.length (by omega)
      have c3 : w.heap.size + 1 < W.heap.size ∧ True := ⟨c2, trivial⟩
      generalize (flagsF f ys.length pre)[pre.length] = u0 at c0
      have n0 := hn0 0 _ rfl
      have n1 := hn0 1 _ rfl
      have n2 := hn0 2 _ rfl
      have n3 := hn0 3 _ rfl
      have n4 := hn0 4 _ rfl
      have m0 := hbx 0 _ rfl
      have m1 := hbx 1 _ rfl
      have m2 := hbx 2 _ rfl
      have l0 := World.block_lt_of_cell? _ _ n0
      have l5 := World.block_lt_of_cell? _ _ h5
      have l7 := World.block_lt_of_cell? _ _ h7
      have lm := World.block_lt_of_cell? _ _ m0
      simp only at l0 l5 l7 lm
      have HTK := Lib.hid (fun A2 W' (hW : Keep W W') (hs : Sl W' 3 Val.cells A2 1 [y]) => takes_any (cols := [⟨n.col, 1⟩]) (row := [y]) w0 b0 n HN.out W' (HK0.out.trans (hkw.trans hW)) ((sl_blk (k := 2) (enc := Col.cells) (xs := [⟨n.col, 1⟩]) (fun _ => rfl) hC (by simp)).keep hW) hs)
      have HTY := Lib.hid (HT.out y)
      have HX := Lib.hid hx
      have HSET := Lib.hid hset
      have HFL := Lib.hid hfl
      have HO1 := Lib.hid ho
      have HKW := Lib.hid hkw
      have HN0 := Lib.hid hn0
      have HCC := Lib.hid hC
      have HPP := Lib.hid hP
      have HC3 := Lib.hid c3
      have hi1 : (pre.length : Int) < (ys.length : Int) := by omega
      have hi2 : (0 : Int) ≤ (pre.length : Int) := by omega
      clear hx hset hfl ho hkw hn0 hC hP hbx hy c3 a5 aC a7 aP
      obtain ⟨yk, yn, yw⟩ := y
      gi_wp2
      first | refine Zone.wpR_region_gro 8 (by kernel_rfl) (by kernel_rfl) ?_ | refine Zone.wpR_region 8 (by kernel_rfl) (by kernel_rfl) ?_
      simp only [List.take_succ_cons, List.take_zero, List.drop_succ_cons, List.drop_zero]
      iterate 5
        refine Zone.wpZ_step (fun K hK => ?_)
        go_simp
        (refine hK _ _ ?_; clear hK K)
      refine Zone.wpZ_free 30 (fun u W => ∃ g, u = .slice (some ⟨g, 0, none⟩) 1 1 ∧ Sl W 3 Val.cells (some ⟨g, 0, none⟩) 1 [(⟨yk, yn, yw⟩ : Val)]) rfl (fun _ W W' hk ⟨g, h1, h2⟩ => ⟨g, h1, h2.keep hk⟩) ?_ ?_
      · intro p
        simp only [Zone.fill, Zone.lookFs, List.filter_nil]
        go_simp
        exact ⟨sl_one (by simp [go_sem]) (by simp [go_sem]) (by simp [go_sem]), Keep.alloc (Keep.refl _) _⟩
      refine Zone.wpZ_step (fun K hK => ?_)
      refine Zone.zone_free1 (.bool (f ⟨yk, yn, yw⟩)) (d := 30) (by rfl) (fun p u hu => ?_) (hK _ _ ?_)
      · obtain ⟨g5, rfl, hs5⟩ := hu
        go_simp
        go_at_call 35
        have := HTK.out (some ⟨g5, 0, none⟩) _ (below_gro W p) hs5
        rw [HTY.out] at this
        exact Zone.zc this
      clear hK K
      refine Zone.wpZ_step (fun K hK => ?_)
      unfold Zone.zone Zone.stepZ
      rw [Zone.lookFs_nil (by rfl)]
      go_simp
      (refine hK _ _ ?_; clear hK K)
      refine Zone.wpZ_nil ?_
      intro p
      simp only [Zone.fill]
      intro u hu
      clear hu
      have HGK := Lib.hid (below_gro W p)
      have q0 := (HGK.out.cell (p := ⟨w.heap.size + 1, pre.length, none⟩) HC3.out.1).trans c0
      have q1 := (HGK.out.frozen (p := ⟨w.heap.size + 1, pre.length, none⟩) HC3.out.1).trans c1
      have HX5 := Lib.hid (HGK.out.cell (p := ⟨W1.heap.size, 0, none⟩) l5 |>.trans h5)
      have HX7 := Lib.hid (HGK.out.cell (p := ⟨W1.heap.size + 1 + 1, 0, none⟩) l7 |>.trans h7)
      have HXP := Lib.hid ((HGK.out.cell (World.block_lt_of_cell? _ _ HPP.out)).trans HPP.out)
      have HXO := Lib.hid (own_setF (HO1.out.keep HGK.out) HFL.out.symm pre.length (f ⟨yk, yn, yw⟩))
      have HXN := Lib.hid (HN0.out.keep HGK.out)
      have HXC := Lib.hid (HCC.out.keep HGK.out)
      have HWK := Lib.hid (HKW.out.trans HGK.out)
      have HB1 := Lib.hid (HZ1.out)
      rw [HSET.out] at HXO
      clear c0 c1 n0 n1 n2 n3 n4 m0 m1 m2 l0 l5 l7 lm h5 h7 HTK HTY HX HSET HO1 HKW HN0 HCC HPP
      generalize W.gro p = w9 at q0 q1 HX5 HX7 HXP HXO HXN HXC HWK HGK ⊢
      go_wp2
      rw [Zone.calm_normal]
      have hne1 : ∀ {k : Nat}, k ≠ w.heap.size + 1 → some k ≠ some (w.heap.size + 1) := fun h e => h (Option.some.inj e)
      have hg9 := By.set w9 ⟨w.heap.size + 1, pre.length, none⟩ (.bool (f ⟨yk, yn, yw⟩))
      have hz9 : w.heap.size + 1 < W1.heap.size := by rcases HB1.out with h | h <;> omega
      exact ⟨(KeepsFrom.keep HGK.out).trans (KeepsFrom.set _ _ _), HWK.out.setCell (Nat.le_succ _) _, HXO.out, At.by_ hg9 HXN.out (hne1 (by omega)), hg9.cell HX5.out (hne1 (by show W1.heap.size ≠ _; omega)), At.by_ hg9 HXC.out (hne1 (by omega)), hg9.cell HX7.out (hne1 (by show W1.heap.size + 1 + 1 ≠ _; omega)), hg9.cell HXP.out (hne1 (by show W1.heap.size + 1 + 1 + 1 ≠ _; omega))⟩
    case done1 =>
      rintro E W hE ⟨hkw, ho, hn0, h5, hC, h7, hP⟩ hb
      have HE := Lib.hid hb
      rw [flags_done, ← HF.out] at ho
      have HO2 := Lib.hid ho
      have HKW := Lib.hid hkw
      have l5 := World.block_lt_of_cell? _ _ h5
      have hE2 : w.heap.size ≤ E := by have := HZ7.out; omega
      simp only at l5
      clear hkw ho hn0 hC h7 hP hb a5 aC a7 aP hE
      go_wp2
      refine postM_mark (.inl rfl) rfl HE.out (postM_of_body (v := .slice (some ⟨w.heap.size + 1, 0, none⟩) ys.length ys.length) (.inl rfl) rfl ?_ ⟨_, rfl, ?_, ?_⟩)
      · simp [results, Tryz.results18, go_sem]
      · exact (Stable.own_ (B := w.heap.size) _ _).put W E _ _ HO2.out hE2 HE.out rfl
      · exact keep_put _ HKW.out hE2
    case stop1 => exact fun _ _ _ _ _ h => h.elim
end Go.Proofs.YthigflnfccajoaaGreat
