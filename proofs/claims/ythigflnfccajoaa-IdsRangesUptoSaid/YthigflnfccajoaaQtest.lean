
/- What is wrong with a question: a test. -/
import Derived.WalkKit
import Derived.Lib.Hide
import Derived.WalkSpells
import Derived.WalkLawsBesides
import Derived.BigQuiet
import Derived.Shelf.Abstract
import Derived.Deep.RegionWith
import Derived.Deep.CutRange
import Derived.Deep.DeepCutAuto
import Derived.Deep.CutBlock
import Derived.Test.YthigflnfccajoaaQtree
namespace Go.Proofs.Ythigflnfccajoaa
open Go.RowKit Go.Zone Go.Shelf
attribute [local go_sem] Zone.zone Zone.stepZ Zone.fill Zone.lookFs Zone.goes Zone.goesUpon Zone.dropFs Zone.cell_gro Zone.frozen_gro Zone.size_gro Zone.lt_add Zone.drew_gro Zone.tape_gro Zone.keep_refl
attribute [local go_sem] Zone.lt_add2 Zone.lt_add3 Zone.lt_add4 Zone.lt_add5 Zone.lt_add6 Zone.lt_add7 Zone.lt_add8 Zone.lt_add9 Zone.lt_add10 Zone.lt_add11 Zone.lt_add12
/-- A test, as it lies in memory. -/
structure Ts where
  op : Int
  A : Option Addr
  c : Nat
  kids : List Ts
  out : Int
  cmp : Int
  v : Val
def Ts.cells (n : Ts) : List Value := [.int .u8 n.op, .slice n.A n.kids.length n.c, .int .i64 n.out, .int .u8 n.cmp, .int .u8 n.v.k, .int .i64 n.v.n, .string n.v.s]
@[reducible] def Ts.val (n : Ts) : Value := .agg #[.int .u8 n.op, .slice n.A n.kids.length n.c, .int .i64 n.out, .int .u8 n.cmp, .int .u8 n.v.k, .int .i64 n.v.n, .string n.v.s]
instance : Inhabited Ts := ⟨⟨0, none, 0, [], 0, 0, default⟩⟩
inductive Ts.In (w : World) (b : Nat) : Ts → Prop where
  | mk (n : Ts) (hk : Sl w 7 Ts.cells n.A n.c n.kids) (hA : ∀ g off, n.A = some ⟨g, off, none⟩ → 0 < n.kids.length → g ≠ b) (hi : ∀ k ∈ n.kids, Ts.In w b k) : Ts.In w b n
theorem Ts.In.kids_ {w : World} {b : Nat} {n : Ts} (h : Ts.In w b n) : Sl w 7 Ts.cells n.A n.c n.kids := by cases h; assumption
theorem Ts.In.neA {w : World} {b : Nat} {n : Ts} (h : Ts.In w b n) : ∀ g off, n.A = some ⟨g, off, none⟩ → 0 < n.kids.length → g ≠ b := by cases h; assumption
theorem Ts.In.kid {w : World} {b : Nat} {n : Ts} (h : Ts.In w b n) : ∀ k ∈ n.kids, Ts.In w b k := by cases h; assumption
theorem Ts.In.by_ {w w' : World} {b : Nat} {n : Ts} (h : Ts.In w b n) (hg : w.grownBy w' (some b)) : Ts.In w' b n := by
  induction h with
  | mk n hk hA _ ih => exact .mk n (By.sl hg hk fun g off e hp he => hA g off e hp (Option.some.inj he)) hA ih
theorem Ts.In.keep {w w' : World} {b : Nat} {n : Ts} (h : Ts.In w b n) (hg : Keep w w') : Ts.In w' b n := h.by_ (By.keep hg)
theorem kidT_lt {n k : Ts} (h : k ∈ n.kids) : SizeOf.sizeOf k < SizeOf.sizeOf n := by
  have h1 := List.sizeOf_lt_of_mem h
  cases n
  simp only [Ts.mk.sizeOf_spec] at h1 ⊢
  omega
def zeroB (v : Val) : Bool := v.k == 0 && (v.n == 0 && v.s.toList.isEmpty)
def formT (n : Ts) (depth : Nat) : Bool := n.out != 0 || n.cmp != 0 || !zeroB n.v || !innerB n.op n.kids.length depth
def leafT (kinds : List Int) (e : Int) (n : Ts) : Int :=
  valsE (outK kinds n.out) (outE kinds (soE e (decide (0 < n.kids.length) || decide (n.cmp < 1) || decide (6 < n.cmp)) 5) n.out) [n.v]
def testE (kinds : List Int) (depth : Nat) (e : Int) (n : Ts) : Int :=
  if 64 < depth then soE e true 11 else if n.op = 4 then leafT kinds e n
  else n.kids.attach.foldl (fun e k => testE kinds (depth + 1) e k.1) (soE e (formT n depth) 5)
termination_by SizeOf.sizeOf n
decreasing_by exact kidT_lt k.2
def testsE (kinds : List Int) (depth : Nat) (e : Int) (l : List Ts) : Int := l.foldl (testE kinds depth) e
theorem testE_eq (kinds : List Int) (depth : Nat) (e : Int) (n : Ts) : testE kinds depth e n = if 64 < depth then soE e true 11 else if n.op = 4 then leafT kinds e n else testsE kinds (depth + 1) (soE e (formT n depth) 5) n.kids := by
  rw [testE]
  unfold testsE
  congr 2
  exact List.foldl_attach (l := n.kids) (f := testE kinds (depth + 1))
theorem testsE_succ (kinds : List Int) (depth : Nat) (e : Int) (l : List Ts) (i : Nat) (h : i < l.length) : testsE kinds depth e (l.take (i + 1)) = testE kinds depth (testsE kinds depth e (l.take i)) l[i] := by
  unfold testsE
  rw [List.take_succ_eq_append_getElem h, List.foldl_append]
  rfl
theorem sl_ts {w : World} {c : Nat} {A : Option Addr} {xs : List Ts} (h : Sl w 7 Ts.cells A c xs) (i : Nat) (hi : i < xs.length) : ∃ b off, A = some ⟨b, off, none⟩ ∧ b < w.heap.size ∧ w.cell? ⟨b, off + i * 7, none⟩ = some (.int .u8 xs[i].op) ∧
    w.cell? ⟨b, off + i * 7 + 1, none⟩ = some (.slice xs[i].A xs[i].kids.length xs[i].c) ∧ w.cell? ⟨b, off + i * 7 + 2, none⟩ = some (.int .i64 xs[i].out) ∧ w.cell? ⟨b, off + i * 7 + 3, none⟩ = some (.int .u8 xs[i].cmp) ∧
    w.cell? ⟨b, off + i * 7 + 4, none⟩ = some (.int .u8 xs[i].v.k) ∧ w.cell? ⟨b, off + i * 7 + 5, none⟩ = some (.int .i64 xs[i].v.n) ∧ w.cell? ⟨b, off + i * 7 + 6, none⟩ = some (.string xs[i].v.s) := by
  obtain ⟨b, off, hA, hc⟩ := h.at_ i hi
  have h0 := hc 0 _ rfl
  exact ⟨b, off, hA, World.block_lt_of_cell? w _ h0, h0, hc 1 _ rfl, hc 2 _ rfl, hc 3 _ rfl, hc 4 _ rfl, hc 5 _ rfl, hc 6 _ rfl⟩
theorem sl_one {w : World} {g : Nat} {v : Val} (h0 : w.cell? ⟨g, 0, none⟩ = some (.int .u8 v.k)) (h1 : w.cell? ⟨g, 1, none⟩ = some (.int .i64 v.n)) (h2 : w.cell? ⟨g, 2, none⟩ = some (.string v.s)) : Sl w 3 Val.cells (some ⟨g, 0, none⟩) 1 [v] :=
  ⟨by simp, by simp, by simp, fun i hi => ⟨g, 0, rfl, fun j u hu => by
    have hi0 : i = 0 := by simpa using hi
    subst hi0
    have hj : j < 3 := (by obtain ⟨h1, _⟩ := List.getElem?_eq_some_iff.1 hu; simpa [Val.cells] using h1)
    rw [← hu]
    rcases j with _ | _ | _ | j
    · simpa [Val.cells] using h0
    · simpa [Val.cells] using h1
    · simpa [Val.cells] using h2
    · omega⟩⟩
section
variable {b c d : Nat} {A B : Option Addr} {cols : List Col} {kinds : List Int}
set_option maxHeartbeats 8000000 in
theorem test_any (w0 : World) (n : Ts) (hn : Ts.In w0 b n) : ∀ (w : World) (e : Int) (depth : Nat), depth ≤ 100 → w0.grownBy w (some b) → Wr w b A c cols B d kinds e → Sl w 1 byteK B d kinds →
    Calls Try.prog 23 #[.pointer (some ⟨b, 0, none⟩), n.val, .int .i64 depth] w fun r w' => r = .returned (.tuple #[]) ∧ Wr w' b A c cols B d kinds (testE kinds depth e n) ∧ w.grownBy w' (some b) := by
  induction hn with
  | mk n hk hA hi ih =>
  intro w e depth hd hg h hc
  have hn : Ts.In w b n := (Ts.In.mk n hk hA hi).by_ hg
  have H := Lib.hid h
  have HC := Lib.hid hc
  have HN := Lib.hid hn
  have hb := h.lt
  have hkl := hn.kids_.len
  have IH := Lib.hid ih
  have HG0 := Lib.hid hg
  clear h hc hn hk hA hi ih hg
  obtain ⟨op, KA, kc, kids, out, cmp, v⟩ := n
  rw [testE_eq]
  simp only [Ts.val] at hkl IH ⊢
  by_cases h64 : 64 < depth
  · rw [if_pos h64]
    go_enter Try.func23, Try.ntmps23
    go_wp2_with (go_at_call 16; refine Zone.hold ?_)
    refine Zone.unhold ?_
    refine (so_any _ 11 _ (H.out.keep (by repeat (first | exact Keep.refl _ | apply Keep.alloc | apply Keep.gro | apply Keep.drew | apply Keep.drewN)))).mono ?_
    rintro e' w1 ⟨rfl, HW1, HG1⟩
    go_wp2
    exact bodyPost_ret (v := .tuple #[]) (by simp [results, Try.results23, go_sem]) rfl ⟨rfl, HW1, By.trans (By.keep (by repeat (first | exact Keep.refl _ | apply Keep.alloc | apply Keep.gro | apply Keep.drew | apply Keep.drewN))) HG1⟩
  · rw [if_neg h64]
    by_cases h4 : op = 4
    · subst h4
      rw [if_pos rfl]
      unfold leafT
      simp only
      generalize hfm : (decide (0 < kids.length) || decide (cmp < 1) || decide (6 < cmp)) = fm
      have HFM := Lib.hid hfm
      clear hfm
      go_enter Try.func23, Try.ntmps23
      go_upto_region 4 with fail
      go_cut [] from 17 to 32 (fun wx => Hid (Wr wx b A c cols B d kinds (soE e fm 5)) ∧ Hid (w.grownBy wx (some b)) ∧ Hid (At wx w.heap.size [.int .u8 4, .slice KA kids.length kc, .int .i64 out, .int .u8 cmp, .int .u8 v.k, .int .i64 v.n, .string v.s]))
      case first =>
        have hF := HFM.out
        cases hce : decide (0 < kids.length)
        · cases hcm : decide (cmp < 1)
          · simp only [hce, hcm, Bool.false_or] at hF
            have HFF := Lib.hid hF
            clear hF
            go_wp2_with (go_at_call 16; refine Zone.hold ?_)
            refine Zone.unhold ?_
            refine (so_any _ 5 _ (H.out.keep (by repeat (first | exact Keep.refl _ | apply Keep.alloc | apply Keep.gro | apply Keep.drew | apply Keep.drewN)))).mono ?_
            rintro e' w1 ⟨rfl, HW1, HG1⟩
            go_wp2_with fail
            go_meet
            exact ⟨by rw [← HFF.out]; exact HW1, By.trans (By.keep (by repeat (first | exact Keep.refl _ | apply Keep.alloc | apply Keep.gro | apply Keep.drew | apply Keep.drewN))) HG1, fun j u hu => HG1.cell (by rw [← hu]; have hj : j < 7 := (by obtain ⟨h1, _⟩ := List.getElem?_eq_some_iff.1 hu; simpa using h1); rcases j with _ | _ | _ | _ | _ | _ | _ | j <;> first | (simp [go_sem]; done) | (simp [go_sem, *]; done) | omega) (by simp; omega)⟩
          · simp only [hce, hcm, Bool.false_or, Bool.true_or] at hF
            have HFF := Lib.hid hF
            clear hF
            go_wp2_with (go_at_call 16; refine Zone.hold ?_)
            refine Zone.unhold ?_
            refine (so_any _ 5 _ (H.out.keep (by repeat (first | exact Keep.refl _ | apply Keep.alloc | apply Keep.gro | apply Keep.drew | apply Keep.drewN)))).mono ?_
            rintro e' w1 ⟨rfl, HW1, HG1⟩
            go_wp2_with fail
            go_meet
            exact ⟨by rw [← HFF.out]; exact HW1, By.trans (By.keep (by repeat (first | exact Keep.refl _ | apply Keep.alloc | apply Keep.gro | apply Keep.drew | apply Keep.drewN))) HG1, fun j u hu => HG1.cell (by rw [← hu]; have hj : j < 7 := (by obtain ⟨h1, _⟩ := List.getElem?_eq_some_iff.1 hu; simpa using h1); rcases j with _ | _ | _ | _ | _ | _ | _ | j <;> first | (simp [go_sem]; done) | (simp [go_sem, *]; done) | omega) (by simp; omega)⟩
        · simp only [hce, Bool.true_or] at hF
          have HFF := Lib.hid hF
          clear hF
          go_wp2_with (go_at_call 16; refine Zone.hold ?_)
          refine Zone.unhold ?_
          refine (so_any _ 5 _ (H.out.keep (by repeat (first | exact Keep.refl _ | apply Keep.alloc | apply Keep.gro | apply Keep.drew | apply Keep.drewN)))).mono ?_
          rintro e' w1 ⟨rfl, HW1, HG1⟩
          go_wp2_with fail
          go_meet
          exact ⟨by rw [← HFF.out]; exact HW1, By.trans (By.keep (by repeat (first | exact Keep.refl _ | apply Keep.alloc | apply Keep.gro | apply Keep.drew | apply Keep.drewN))) HG1, fun j u hu => HG1.cell (by rw [← hu]; have hj : j < 7 := (by obtain ⟨h1, _⟩ := List.getElem?_eq_some_iff.1 hu; simpa using h1); rcases j with _ | _ | _ | _ | _ | _ | _ | j <;> first | (simp [go_sem]; done) | (simp [go_sem, *]; done) | omega) (by simp; omega)⟩
      case rest =>
        rename World => w4
        obtain ⟨HW4, HG4, HX⟩ := hcut
        have HK4 := Lib.hid (By.sl HG4.out HC.out (fun g off hg hp he => H.out.nb g off hg hp (Option.some.inj he)))
        have x2 := HX.out 2 _ rfl
        have x4 := HX.out 4 _ rfl
        have x5 := HX.out 5 _ rfl
        have x6 := HX.out 6 _ rfl
        have hq := World.block_lt_of_cell? _ _ x2
        simp only at hq
        have hbw := HW4.out.lt
        clear H HC HN HFM IH HG0 HX
        go_upto_region 5 with fail
        go_region_with (first
          | (go_at_call 24
             refine (out_any out _ (HW4.out.keep (by repeat (first | exact Keep.refl _ | apply Keep.alloc | apply Keep.gro | apply Keep.drew | apply Keep.drewN))) (HK4.out.keep (by repeat (first | exact Keep.refl _ | apply Keep.alloc | apply Keep.gro | apply Keep.drew | apply Keep.drewN)))).mono ?_
             rintro e' w5 ⟨rfl, HW5, HG5⟩
             have y4 : w5.cell? ⟨w.heap.size, 4, none⟩ = some (.int .u8 v.k) := HG5.cell (by simp [go_sem, x4, hq]) (by simp; omega)
             have y5 : w5.cell? ⟨w.heap.size, 5, none⟩ = some (.int .i64 v.n) := HG5.cell (by simp [go_sem, x5, hq]) (by simp; omega)
             have y6 : w5.cell? ⟨w.heap.size, 6, none⟩ = some (.string v.s) := HG5.cell (by simp [go_sem, x6, hq]) (by simp; omega)
             have hq5 := World.block_lt_of_cell? _ _ y4
             have hs5 := HG5.size
             simp only at hq5)
          | (go_at_call 55
             refine (values_any (some ⟨_, 0, none⟩) 1 [v] (outK kinds out) _ (HW5.keep (by repeat (first | exact Keep.refl _ | apply Keep.alloc | apply Keep.gro | apply Keep.drew | apply Keep.drewN))) (sl_one ?_ ?_ ?_) ?_).mono ?_
             · first | (simp [go_sem]; done) | exact HG5.cell (by simp [go_sem]) (by simp; omega)
             · first | (simp [go_sem]; done) | exact HG5.cell (by simp [go_sem]) (by simp; omega)
             · first | (simp [go_sem]; done) | exact HG5.cell (by simp [go_sem]) (by simp; omega)
             · rintro g off h
               cases h
               simp at hs5
               omega
             rintro e' w6 ⟨rfl, HW6, HG6⟩))
        all_goals go_wp2
        all_goals exact bodyPost_ret (v := .tuple #[]) (by simp [results, Try.results23, go_sem]) rfl ⟨rfl, HW6, By.trans HG4.out (By.trans (By.keep (by repeat (first | exact Keep.refl _ | apply Keep.alloc | apply Keep.gro | apply Keep.drew | apply Keep.drewN))) (By.trans HG5 (By.trans (By.keep (by repeat (first | exact Keep.refl _ | apply Keep.alloc | apply Keep.gro | apply Keep.drew | apply Keep.drewN))) HG6)))⟩
    · rw [if_neg h4]
      generalize hfm : formT ⟨op, KA, kc, kids, out, cmp, v⟩ depth = fm
      unfold formT at hfm
      simp only at hfm
      have HFM := Lib.hid hfm
      have h4' : (op == 4) = false := by simp [h4]
      clear hfm
      go_enter Try.func23, Try.ntmps23
      go_upto_region 6 with fail
      go_cut [] from 42 to 67 (fun wx => Hid (Wr wx b A c cols B d kinds (soE e fm 5)) ∧ Hid (w.grownBy wx (some b)) ∧ Hid (At wx w.heap.size [.int .u8 op, .slice KA kids.length kc, .int .i64 out, .int .u8 cmp, .int .u8 v.k, .int .i64 v.n, .string v.s]))
      case first =>
        have hF := HFM.out
        cases hce : (out != 0)
        · cases hcm : (cmp != 0)
          · obtain ⟨vk, vn, vs⟩ := v
            by_cases hvk : vk = 0
            · subst hvk
              by_cases hvn : vn = 0
              · subst hvn
                by_cases hvs : vs.toList = []
                · have hz : zeroB ⟨0, 0, vs⟩ = true := by simp [zeroB, hvs]
                  simp only [hce, hcm, hz, Bool.not_true, Bool.false_or, Bool.true_or] at hF
                  have HFF := Lib.hid hF
                  clear hF hz
                  go_wp2_with (first | (go_at_call 54; refine (inner_any' _ _ _ _).mono ?_; rintro e w' ⟨rfl, hk⟩; (first | obtain ⟨p, rfl⟩ := Zone.gro_of_gro _ _ hk | obtain ⟨p, rfl⟩ := Zone.gro_of_below _ hk); clear hk) | (go_at_call 16; refine Zone.hold ?_))
                  refine Zone.unhold ?_
                  refine (so_any _ 5 _ (H.out.keep (by repeat (first | exact Keep.refl _ | apply Keep.alloc | apply Keep.gro | apply Keep.drew | apply Keep.drewN)))).mono ?_
                  rintro e' w1 ⟨rfl, HW1, HG1⟩
                  go_wp2_with fail
                  go_meet
                  exact ⟨by rw [← HFF.out]; exact HW1, By.trans (By.keep (by repeat (first | exact Keep.refl _ | apply Keep.alloc | apply Keep.gro | apply Keep.drew | apply Keep.drewN))) HG1, fun j u hu => HG1.cell (by rw [← hu]; have hj : j < 7 := (by obtain ⟨h1, _⟩ := List.getElem?_eq_some_iff.1 hu; simpa using h1); rcases j with _ | _ | _ | _ | _ | _ | _ | j <;> first | (simp [go_sem]; done) | (simp [go_sem, *]; done) | omega) (by simp; omega)⟩
                · have hz : zeroB ⟨0, 0, vs⟩ = false := by simp [zeroB, hvs]
                  simp only [hce, hcm, hz, Bool.not_true, Bool.not_false, Bool.false_or, Bool.true_or] at hF
                  have HFF := Lib.hid hF
                  clear hF hz
                  go_wp2_with (go_at_call 16; refine Zone.hold ?_)
                  refine Zone.unhold ?_
                  refine (so_any _ 5 _ (H.out.keep (by repeat (first | exact Keep.refl _ | apply Keep.alloc | apply Keep.gro | apply Keep.drew | apply Keep.drewN)))).mono ?_
                  rintro e' w1 ⟨rfl, HW1, HG1⟩
                  go_wp2_with fail
                  go_meet
                  exact ⟨by rw [← HFF.out]; exact HW1, By.trans (By.keep (by repeat (first | exact Keep.refl _ | apply Keep.alloc | apply Keep.gro | apply Keep.drew | apply Keep.drewN))) HG1, fun j u hu => HG1.cell (by rw [← hu]; have hj : j < 7 := (by obtain ⟨h1, _⟩ := List.getElem?_eq_some_iff.1 hu; simpa using h1); rcases j with _ | _ | _ | _ | _ | _ | _ | j <;> first | (simp [go_sem]; done) | (simp [go_sem, *]; done) | omega) (by simp; omega)⟩
              · have hz : zeroB ⟨0, vn, vs⟩ = false := by simp [zeroB, hvn]
                simp only [hce, hcm, hz, Bool.not_true, Bool.not_false, Bool.false_or, Bool.true_or] at hF
                have HFF := Lib.hid hF
                clear hF hz
                go_wp2_with (go_at_call 16; refine Zone.hold ?_)
                refine Zone.unhold ?_
                refine (so_any _ 5 _ (H.out.keep (by repeat (first | exact Keep.refl _ | apply Keep.alloc | apply Keep.gro | apply Keep.drew | apply Keep.drewN)))).mono ?_
                rintro e' w1 ⟨rfl, HW1, HG1⟩
                go_wp2_with fail
                go_meet
                exact ⟨by rw [← HFF.out]; exact HW1, By.trans (By.keep (by repeat (first | exact Keep.refl _ | apply Keep.alloc | apply Keep.gro | apply Keep.drew | apply Keep.drewN))) HG1, fun j u hu => HG1.cell (by rw [← hu]; have hj : j < 7 := (by obtain ⟨h1, _⟩ := List.getElem?_eq_some_iff.1 hu; simpa using h1); rcases j with _ | _ | _ | _ | _ | _ | _ | j <;> first | (simp [go_sem]; done) | (simp [go_sem, *]; done) | omega) (by simp; omega)⟩
            · have hz : zeroB ⟨vk, vn, vs⟩ = false := by simp [zeroB, hvk]
              simp only [hce, hcm, hz, Bool.not_true, Bool.not_false, Bool.false_or, Bool.true_or] at hF
              have HFF := Lib.hid hF
              clear hF hz
              go_wp2_with (go_at_call 16; refine Zone.hold ?_)
              refine Zone.unhold ?_
              refine (so_any _ 5 _ (H.out.keep (by repeat (first | exact Keep.refl _ | apply Keep.alloc | apply Keep.gro | apply Keep.drew | apply Keep.drewN)))).mono ?_
              rintro e' w1 ⟨rfl, HW1, HG1⟩
              go_wp2_with fail
              go_meet
              exact ⟨by rw [← HFF.out]; exact HW1, By.trans (By.keep (by repeat (first | exact Keep.refl _ | apply Keep.alloc | apply Keep.gro | apply Keep.drew | apply Keep.drewN))) HG1, fun j u hu => HG1.cell (by rw [← hu]; have hj : j < 7 := (by obtain ⟨h1, _⟩ := List.getElem?_eq_some_iff.1 hu; simpa using h1); rcases j with _ | _ | _ | _ | _ | _ | _ | j <;> first | (simp [go_sem]; done) | (simp [go_sem, *]; done) | omega) (by simp; omega)⟩
          · simp only [hce, hcm, Bool.false_or, Bool.true_or] at hF
            have HFF := Lib.hid hF
            clear hF
            go_wp2_with (go_at_call 16; refine Zone.hold ?_)
            refine Zone.unhold ?_
            refine (so_any _ 5 _ (H.out.keep (by repeat (first | exact Keep.refl _ | apply Keep.alloc | apply Keep.gro | apply Keep.drew | apply Keep.drewN)))).mono ?_
            rintro e' w1 ⟨rfl, HW1, HG1⟩
            go_wp2_with fail
            go_meet
            exact ⟨by rw [← HFF.out]; exact HW1, By.trans (By.keep (by repeat (first | exact Keep.refl _ | apply Keep.alloc | apply Keep.gro | apply Keep.drew | apply Keep.drewN))) HG1, fun j u hu => HG1.cell (by rw [← hu]; have hj : j < 7 := (by obtain ⟨h1, _⟩ := List.getElem?_eq_some_iff.1 hu; simpa using h1); rcases j with _ | _ | _ | _ | _ | _ | _ | j <;> first | (simp [go_sem]; done) | (simp [go_sem, *]; done) | omega) (by simp; omega)⟩
        · simp only [hce, Bool.true_or] at hF
          have HFF := Lib.hid hF
          clear hF
          go_wp2_with (go_at_call 16; refine Zone.hold ?_)
          refine Zone.unhold ?_
          refine (so_any _ 5 _ (H.out.keep (by repeat (first | exact Keep.refl _ | apply Keep.alloc | apply Keep.gro | apply Keep.drew | apply Keep.drewN)))).mono ?_
          rintro e' w1 ⟨rfl, HW1, HG1⟩
          go_wp2_with fail
          go_meet
          exact ⟨by rw [← HFF.out]; exact HW1, By.trans (By.keep (by repeat (first | exact Keep.refl _ | apply Keep.alloc | apply Keep.gro | apply Keep.drew | apply Keep.drewN))) HG1, fun j u hu => HG1.cell (by rw [← hu]; have hj : j < 7 := (by obtain ⟨h1, _⟩ := List.getElem?_eq_some_iff.1 hu; simpa using h1); rcases j with _ | _ | _ | _ | _ | _ | _ | j <;> first | (simp [go_sem]; done) | (simp [go_sem, *]; done) | omega) (by simp; omega)⟩
      case rest =>
        rename World => w4
        obtain ⟨HW4, HG4, HX⟩ := hcut
        have hx1 := HX.out 1 _ rfl
        have hq := World.block_lt_of_cell? _ _ hx1
        simp only at hq
        have HKS := Lib.hid (HN.out.by_ HG4.out)
        have HC4 := Lib.hid (By.sl HG4.out HC.out (fun g off hg hp he => H.out.nb g off hg hp (Option.some.inj he)))
        have HNB := Lib.hid H.out.nb
        have HG5 := Lib.hid (By.trans HG0.out HG4.out)
        clear HFM HN HC H HG0 HX
        have hdw : IntKind.i64.wrap ((depth : Int) + 1) = ((depth + 1 : Nat) : Int) := by rw [IntWalk.i64_in _ ⟨by omega, by omega⟩]; omega
        go_wp2
        go_loopw [71] (fun i wr => ∃ m : Nat, m ≤ kids.length ∧ i = .int .i64 m ∧ Hid (Wr wr b A c cols B d kinds (testsE kinds (depth + 1) (soE e fm 5) (kids.take m))) ∧ Hid (w4.grownBy wr (some b))) (fun i _ => kids.length - (intOf i).toNat)
        case atStart => exact ⟨0, Nat.zero_le _, rfl, HW4.out, World.grownBy.refl _ _⟩
        case round =>
          obtain ⟨m, hm, rfl, HWr, HGr⟩ := hrel
          by_cases hlt : m < kids.length
          · have hS2 := By.sl HGr.out HKS.out.kids_ (fun g off hg hp he => HKS.out.neA g off hg hp (Option.some.inj he))
            simp only at hS2
            obtain ⟨g, off, hA, hg, k0, k1, k2, k3, k4, k5, k6⟩ := sl_ts hS2 m hlt
            subst hA
            have HI := Lib.hid (IH.out kids[m] (List.getElem_mem hlt))
            have HSC := Lib.hid (By.sl HGr.out HC4.out (fun g off hg hp he => HNB.out g off hg hp (Option.some.inj he)))
            have HEE := Lib.hid (testsE_succ kinds (depth + 1) (soE e fm 5) kids m hlt)
            clear hS2
            go_wp2_with (go_at_call 23; refine Zone.hold ?_)
            refine Zone.unhold ?_
            rw [show (depth : Int) + 1 = ((depth + 1 : Nat) : Int) by omega]
            refine (HI.out _ _ (depth + 1) (by omega) (By.trans HG5.out (By.trans HGr.out (By.keep (by repeat (first | exact Keep.refl _ | apply Keep.alloc | apply Keep.gro | apply Keep.drew | apply Keep.drewN))))) (HWr.out.keep (by repeat (first | exact Keep.refl _ | apply Keep.alloc | apply Keep.gro | apply Keep.drew | apply Keep.drewN))) (HSC.out.keep (by repeat (first | exact Keep.refl _ | apply Keep.alloc | apply Keep.gro | apply Keep.drew | apply Keep.drewN)))).mono ?_
            rintro e' w5 ⟨rfl, HW5, HG6⟩
            go_wp2
            go_roundw
            case rel => exact ⟨m + 1, by omega, by go_num, by rw [HEE.out]; exact HW5, By.trans HGr.out (By.trans (By.keep (Keep.alloc (Keep.refl wr) _)) HG6)⟩
            case measure => simp [intOf]; omega
          · have : m = kids.length := by omega
            subst this
            rw [List.take_length] at HWr
            go_wp2
            exact bodyPost_end (v := .tuple #[]) (by simp [results, Try.results23, go_sem]) rfl ⟨rfl, HWr.out, By.trans HG4.out HGr.out⟩
end
end Go.Proofs.Ythigflnfccajoaa
