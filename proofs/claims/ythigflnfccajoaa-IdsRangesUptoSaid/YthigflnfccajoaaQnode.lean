
/- What is wrong with a question: a filter's leaf. -/
import Derived.WalkKit
import Derived.Lib.Hide
import Derived.WalkSpells
import Derived.WalkLawsBesides
import Derived.BigQuiet
import Derived.Shelf.Abstract
import Derived.Deep.RegionWith
import Derived.Deep.CutRange
import Derived.Deep.DeepCutAuto
import Derived.Deep.CutBlock
import Derived.Test.YthigflnfccajoaaQleaf
namespace Go.Proofs.Ythigflnfccajoaa
open Go.RowKit Go.Zone Go.Shelf
attribute [local go_sem] Zone.zone Zone.stepZ Zone.fill Zone.lookFs Zone.goes Zone.goesUpon Zone.dropFs Zone.cell_gro Zone.frozen_gro Zone.size_gro Zone.lt_add Zone.drew_gro Zone.tape_gro Zone.keep_refl
attribute [local go_sem] Zone.lt_add2 Zone.lt_add3 Zone.lt_add4 Zone.lt_add5 Zone.lt_add6 Zone.lt_add7 Zone.lt_add8 Zone.lt_add9 Zone.lt_add10 Zone.lt_add11 Zone.lt_add12
/-- A filter, as it lies in memory. -/
structure Nd where
  op : Int
  A : Option Addr
  c : Nat
  kids : List Nd
  col : ByteArray
  cmp : Int
  B : Option Addr
  d : Nat
  vals : List Val
def Nd.cells (n : Nd) : List Value := [.int .u8 n.op, .slice n.A n.kids.length n.c, .string n.col, .int .u8 n.cmp, .slice n.B n.vals.length n.d]
@[reducible] def Nd.v (n : Nd) : Value := .agg #[.int .u8 n.op, .slice n.A n.kids.length n.c, .string n.col, .int .u8 n.cmp, .slice n.B n.vals.length n.d]
instance : Inhabited Nd := ⟨⟨0, none, 0, [], ByteArray.empty, 0, none, 0, []⟩⟩
/-- It lies in this world, in blocks other than b's. -/
inductive Nd.In (w : World) (b : Nat) : Nd → Prop where
  | mk (n : Nd) (hk : Sl w 5 Nd.cells n.A n.c n.kids) (hv : Sl w 3 Val.cells n.B n.d n.vals) (hA : ∀ g off, n.A = some ⟨g, off, none⟩ → 0 < n.kids.length → g ≠ b) (hB : ∀ g off, n.B = some ⟨g, off, none⟩ → 0 < n.vals.length → g ≠ b) (hi : ∀ k ∈ n.kids, Nd.In w b k) : Nd.In w b n
theorem Nd.In.vals_ {w : World} {b : Nat} {n : Nd} (h : Nd.In w b n) : Sl w 3 Val.cells n.B n.d n.vals := by cases h; assumption
theorem Nd.In.kids_ {w : World} {b : Nat} {n : Nd} (h : Nd.In w b n) : Sl w 5 Nd.cells n.A n.c n.kids := by cases h; assumption
theorem Nd.In.neA {w : World} {b : Nat} {n : Nd} (h : Nd.In w b n) : ∀ g off, n.A = some ⟨g, off, none⟩ → 0 < n.kids.length → g ≠ b := by cases h; assumption
theorem Nd.In.neB {w : World} {b : Nat} {n : Nd} (h : Nd.In w b n) : ∀ g off, n.B = some ⟨g, off, none⟩ → 0 < n.vals.length → g ≠ b := by cases h; assumption
theorem Nd.In.kid {w : World} {b : Nat} {n : Nd} (h : Nd.In w b n) : ∀ k ∈ n.kids, Nd.In w b k := by cases h; assumption
theorem Nd.In.by_ {w w' : World} {b : Nat} {n : Nd} (h : Nd.In w b n) (hg : w.grownBy w' (some b)) : Nd.In w' b n := by
  induction h with
  | mk n hk hv hA hB _ ih => exact .mk n (By.sl hg hk fun g off e hp he => hA g off e hp (Option.some.inj he)) (By.sl hg hv fun g off e hp he => hB g off e hp (Option.some.inj he)) hA hB ih
theorem Nd.In.keep {w w' : World} {b : Nat} {n : Nd} (h : Nd.In w b n) (hg : Keep w w') : Nd.In w' b n := h.by_ (By.keep hg)

def leafOk (n : Nd) : Bool := if 1 ≤ n.cmp ∧ n.cmp ≤ 6 then (n.vals.length : Int) == 1 else if n.cmp = 7 then true else if n.cmp = 8 then (n.vals.length : Int) == 2 else false
def leafE1 (e : Int) (n : Nd) : Int := if n.cmp = 7 then soE e (decide (100 < (n.vals.length : Int))) 3 else e
def leafE (cols : List Col) (e : Int) (n : Nd) : Int :=
  valsE (if (findC cols n.col).2 then kindC (findC cols n.col).1.kind else 0)
    (soE (soE (soE (leafE1 e n) (!leafOk n || decide (0 < n.kids.length)) 5) (!(findC cols n.col).2) 7) ((findC cols n.col).2 && (findC cols n.col).1.kind == 3) 9) n.vals
section
variable {b c d : Nat} {A B : Option Addr} {cols : List Col} {kinds : List Int} {e : Int}
set_option maxHeartbeats 8000000 in
theorem leaf_any (n : Nd) (w : World) (h : Wr w b A c cols B d kinds e) (hc : Sl w 2 Col.cells A c cols) (hn : Nd.In w b n) :
    Calls Try.prog 53 #[.pointer (some ⟨b, 0, none⟩), n.v] w fun r w' => r = .returned (.tuple #[]) ∧ Wr w' b A c cols B d kinds (leafE cols e n) ∧ w.grownBy w' (some b) := by
  have H := Lib.hid h
  have HC := Lib.hid hc
  have HN := Lib.hid hn
  have hb := h.lt
  have hkl := hn.kids_.len
  have hvl := hn.vals_.len
  clear h hc hn
  obtain ⟨op, KA, kc, kids, col, cmp, VB, vd, vals⟩ := n
  simp only [Nd.v] at hkl hvl ⊢
  have HF0 := Lib.hid (fun W (hS : Sl W 2 Col.cells A c cols) => find_any A c cols col W hS)
  unfold leafE
  simp only
  generalize findC cols col = f at HF0 ⊢
  obtain ⟨⟨nm, k⟩, has⟩ := f
  simp only at HF0 ⊢
  generalize hok : leafOk ⟨op, KA, kc, kids, col, cmp, VB, vd, vals⟩ = ok
  generalize he1 : leafE1 e ⟨op, KA, kc, kids, col, cmp, VB, vd, vals⟩ = e1
  simp only [leafOk, leafE1] at hok he1
  have HOK := Lib.hid hok
  have HE1 := Lib.hid he1
  clear hok he1
  go_enter Try.func53, Try.ntmps53
  go_upto_block 0 with fail
  go_cut [5] from 8 to 35 (fun s5 wx => s5 = .bool ok ∧ Hid (Wr wx b A c cols B d kinds e1) ∧ Hid (At wx w.heap.size [.int .u8 op, .slice KA kids.length kc, .string col, .int .u8 cmp, .slice VB vals.length vd]) ∧ Hid (w.grownBy wx (some b)))
  case first =>
    go_wp2_with (go_at_call 16; refine Zone.hold ?_)
    all_goals have hO := HOK.out
    all_goals have hE := HE1.out
    all_goals clear HOK HE1
    all_goals first
    | (go_meet
       refine ⟨congrArg Value.bool ?_, ?_, fun j u hu => ?_, By.keep (show Keep w (w.alloc (.cells #[.int .u8 op, .slice KA kids.length kc, .string col, .int .u8 cmp, .slice VB vals.length vd] 31)) from (by repeat (first | exact Keep.refl _ | apply Keep.alloc | apply Keep.gro | apply Keep.drew | apply Keep.drewN)))⟩
       · rw [← hO]
         repeat' split
         all_goals (first | rfl | (exfalso; simp_all; done) | (exfalso; simp_all; omega))
       · rw [← hE]
         split
         · exfalso; simp_all
         · exact H.out.keep (by repeat (first | exact Keep.refl _ | apply Keep.alloc | apply Keep.gro | apply Keep.drew | apply Keep.drewN))
       · have hj : j < 5 := by have := List.getElem?_eq_some_iff.1 hu; obtain ⟨h1, _⟩ := this; simpa using h1
         rw [← hu]
         rcases j with _ | _ | _ | _ | _ | j <;> first | (simp [go_sem]; done) | omega)
    | (refine Zone.unhold ?_
       refine (so_any _ 3 _ (H.out.keep (by repeat (first | exact Keep.refl _ | apply Keep.alloc | apply Keep.gro | apply Keep.drew | apply Keep.drewN)))).mono ?_
       rintro e' w1 ⟨rfl, HW1, HG1⟩
       go_wp2_with fail
       go_meet
       refine ⟨congrArg Value.bool ?_, ?_, fun j u hu => HG1.cell ?_ (by simp; omega), By.trans (By.keep (show Keep w (w.alloc (.cells #[.int .u8 op, .slice KA kids.length kc, .string col, .int .u8 cmp, .slice VB vals.length vd] 31)) from (by repeat (first | exact Keep.refl _ | apply Keep.alloc | apply Keep.gro | apply Keep.drew | apply Keep.drewN)))) HG1⟩
       · rw [← hO]
         repeat' split
         all_goals (first | rfl | (exfalso; simp_all; done) | (exfalso; simp_all; omega))
       · rw [← hE]
         split
         · exact HW1
         · exfalso; simp_all
       · have hj : j < 5 := by have := List.getElem?_eq_some_iff.1 hu; obtain ⟨h1, _⟩ := this; simpa using h1
         rw [← hu]
         rcases j with _ | _ | _ | _ | _ | j <;> first | (simp [go_sem]; done) | omega)
  case rest =>
    obtain ⟨rfl, HW, HX, HG⟩ := hcut
    clear HOK HE1 H
    have HC2 := Lib.hid (HW.out.cols_ (w1 := w) HG.out HC.out)
    have HV := Lib.hid (HN.out.by_ HG.out).vals_
    have HNB := Lib.hid HN.out.neB
    simp only at HV HNB
    clear HC HN
    have hx1 := HX.out 1 _ rfl
    have hgw := World.block_lt_of_cell? _ _ hx1
    simp only at hgw
    generalize hq0 : w.heap.size = q0 at HX hx1 hgw hb ⊢
    rename World => w4
    go_upto_region 9 with fail
    go_cut [] from 36 to 45 (fun wx => Hid (Wr wx b A c cols B d kinds (soE e1 (!ok || decide (0 < kids.length)) 5)) ∧ Hid (w4.grownBy wx (some b)))
    case first =>
      cases ok
      · go_wp2_with (go_at_call 16; refine Zone.hold ?_)
        refine Zone.unhold ?_
        refine (so_any _ 5 _ HW.out).mono ?_
        rintro e' w1 ⟨rfl, HW1, HG1⟩
        go_wp2_with fail
        go_meet
        exact ⟨HW1, HG1⟩
      · go_wp2_with (go_at_call 16; refine Zone.hold ?_)
        refine Zone.unhold ?_
        refine (so_any _ 5 _ HW.out).mono ?_
        rintro e' w1 ⟨rfl, HW1, HG1⟩
        go_wp2_with fail
        go_meet
        exact ⟨HW1, HG1⟩
    case rest =>
      rename World => w5
      obtain ⟨HW5, HG5⟩ := hcut
      have HX5 := Lib.hid (At.by_ HG5.out HX.out (by intro h; have := Option.some.inj h; omega))
      have HC5 := Lib.hid (HW5.out.cols_ HG5.out HC2.out)
      have HV5 := Lib.hid (By.sl HG5.out HV.out (fun g off hA hp he => HNB.out g off hA hp (Option.some.inj he)))
      have HGA := Lib.hid (By.trans HG.out HG5.out)
      clear HW HG HX HC2 HV HG5 hx1 hgw
      have hx2 := HX5.out 2 _ rfl
      have hgw := World.block_lt_of_cell? _ _ hx2
      have hc0 := HW5.out.c0
      have hb1 := HW5.out.lt
      simp only at hgw
      go_upto_region 10 with fail
      go_cut [6, 7] from 46 to 55 (fun s6 s7 wx => s7 = .bool has ∧ ∃ q, s6 = .pointer (some ⟨q, 0, none⟩) ∧ w5.heap.size ≤ q ∧ q < wx.heap.size ∧ Hid (Keep w5 wx) ∧ wx.cell? ⟨q, 0, none⟩ = some (.string nm) ∧ wx.cell? ⟨q, 1, none⟩ = some (.int .u8 k))
      case first =>
        go_region_with (go_at_call 50; refine (HF0.out _ (HC5.out.keep (by repeat (first | exact Keep.refl _ | apply Keep.alloc | apply Keep.gro | apply Keep.drew | apply Keep.drewN)))).mono ?_; rintro e w' ⟨rfl, hk⟩; (first | obtain ⟨p, rfl⟩ := Zone.gro_of_gro _ _ hk | obtain ⟨p, rfl⟩ := Zone.gro_of_below _ hk); clear hk)
        all_goals
          go_wp2_with fail
          go_meet
        all_goals exact ⟨rfl, _, rfl, by simp, by simp [size_gro] <;> omega, (by repeat (first | exact Keep.refl _ | apply Keep.alloc | apply Keep.gro | apply Keep.drew | apply Keep.drewN | (refine Keep.setCell ?_ (by simp) _))), by simp [go_sem], by simp [go_sem]⟩
      case rest =>
        rename World => w6
        obtain ⟨rfl, q, rfl, hq, hqw, HK, hk0, hk1⟩ := hcut
        have HX6 := Lib.hid (HX5.out.keep HK.out)
        have HV6 := Lib.hid (HV5.out.keep HK.out)
        have HW6 := Lib.hid (HW5.out.keep HK.out)
        have HGB := Lib.hid (By.trans HGA.out (By.keep HK.out))
        clear HX5 HV5 HW5 HK HC5 HGA hx2 hc0 HF0
        go_wp2_with (go_at_call 16; refine Zone.hold ?_)
        refine Zone.unhold ?_
        refine (so_any _ 7 _ (HW6.out)).mono ?_
        rintro e' w7 ⟨rfl, HW7, HG7⟩
        have hy0 : w7.cell? ⟨q, 0, none⟩ = some (.string nm) := HG7.cell hk0 (by simp; omega)
        have hy1 : w7.cell? ⟨q, 1, none⟩ = some (.int .u8 k) := HG7.cell hk1 (by simp; omega)
        have HX7 := Lib.hid (At.by_ HG7 HX6.out (by intro h; have := Option.some.inj h; omega))
        have HV7 := Lib.hid (By.sl HG7 HV6.out (fun g off hA hp he => HNB.out g off hA hp (Option.some.inj he)))
        have HGC := Lib.hid (By.trans HGB.out HG7)
        have HW8 := Lib.hid HW7
        have hlt7 := World.block_lt_of_cell? _ _ hy0
        simp only at hlt7
        clear hk0 hk1 HX6 HV6 HW6 HGB HW7 HG7
        cases has
        · go_wp2_with (go_at_call 16; refine Zone.hold ?_)
          refine Zone.unhold ?_
          refine (so_any _ 9 _ (HW8.out)).mono ?_
          rintro e' w8 ⟨rfl, HW9, HG8⟩
          have HX8 := At.by_ HG8 HX7.out (by intro h; have := Option.some.inj h; omega)
          have HV8 := Lib.hid (By.sl HG8 HV7.out (fun g off hA hp he => HNB.out g off hA hp (Option.some.inj he)))
          have hz := HX8 4 _ rfl
          have hltz := World.block_lt_of_cell? _ _ hz
          simp only at hltz
          clear hy0 hy1 HX7 HV7 HX8
          go_wp2_with (go_at_call 55; refine Zone.hold ?_)
          refine Zone.unhold ?_
          refine (values_any VB vd vals 0 _ HW9 HV8.out HNB.out).mono ?_
          rintro e' w9 ⟨rfl, HW10, HG9⟩
          go_wp2
          exact bodyPost_end (v := .tuple #[]) (by simp [results, Try.results53, go_sem]) rfl ⟨rfl, HW10, By.trans HGC.out (By.trans HG8 HG9)⟩
        · go_wp2_with (go_at_call 16; refine Zone.hold ?_)
          refine Zone.unhold ?_
          refine (so_any _ 9 _ (HW8.out)).mono ?_
          rintro e' w8 ⟨rfl, HW9, HG8⟩
          have HX8 := At.by_ HG8 HX7.out (by intro h; have := Option.some.inj h; omega)
          have HV8 := Lib.hid (By.sl HG8 HV7.out (fun g off hA hp he => HNB.out g off hA hp (Option.some.inj he)))
          have hz := HX8 4 _ rfl
          have hltz := World.block_lt_of_cell? _ _ hz
          simp only at hltz
          have hu0 : w8.cell? ⟨q, 0, none⟩ = some (.string nm) := HG8.cell hy0 (by simp; omega)
          have hu1 : w8.cell? ⟨q, 1, none⟩ = some (.int .u8 k) := HG8.cell hy1 (by simp; omega)
          have hltq := World.block_lt_of_cell? _ _ hu0
          simp only at hltq
          clear hy0 hy1 HX7 HV7 HX8 hlt7
          go_wp2
          first | refine Zone.wp_region_gro 5 (by kernel_rfl) (by kernel_rfl) ?_ | refine Zone.wp_region 5 (by kernel_rfl) (by kernel_rfl) ?_
          simp only [List.take_succ_cons, List.take_zero, List.drop_succ_cons, List.drop_zero]
          repeat
            refine Zone.wpZ_step (fun K hK => ?_)
            go_simp
            first
            | (refine hK _ _ ?_; clear hK K)
            | (apply Exists.intro
               refine ⟨fun p => ?_, hK _ _ ?_⟩
               ((go_at_call 51; exact Zone.zc (kind_any ⟨nm, k⟩ _)))
               clear hK K)
          refine Zone.wpZ_nil ?_
          intro p
          simp only [Zone.fill]
          go_wp2_with (go_at_call 55; refine Zone.hold ?_)
          refine Zone.unhold ?_
          refine (values_any VB vd vals (kindC k) _ (HW9.keep (below_gro _ _)) (HV8.out.keep (below_gro _ _)) HNB.out).mono ?_
          rintro e' w9 ⟨rfl, HW10, HG9⟩
          go_wp2
          exact bodyPost_end (v := .tuple #[]) (by simp [results, Try.results53, go_sem]) rfl ⟨rfl, HW10, By.trans HGC.out (By.trans HG8 (By.trans (By.keep (below_gro _ _)) HG9))⟩
end
end Go.Proofs.Ythigflnfccajoaa
