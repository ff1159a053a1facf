
/- What is wrong with a question: query.Validate, of questions that group and order by nothing. -/
import Derived.WalkKit
import Derived.Lib.Hide
import Derived.WalkSpells
import Derived.WalkLawsBesides
import Derived.BigQuiet
import Derived.Shelf.Abstract
import Derived.Deep.RegionWith
import Derived.Deep.CutRange
import Derived.Deep.DeepCutAuto
import Derived.Deep.CutBlock
import Derived.Test.YthigflnfccajoaaQkinds
namespace Go.Proofs.Ythigflnfccajoaa
open Go.RowKit Go.Zone Go.Shelf
attribute [local go_sem] Zone.zone Zone.stepZ Zone.fill Zone.lookFs Zone.goes Zone.goesUpon Zone.dropFs Zone.cell_gro Zone.frozen_gro Zone.size_gro Zone.lt_add Zone.drew_gro Zone.tape_gro Zone.keep_refl
attribute [local go_sem] Zone.lt_add2 Zone.lt_add3 Zone.lt_add4 Zone.lt_add5 Zone.lt_add6 Zone.lt_add7 Zone.lt_add8 Zone.lt_add9 Zone.lt_add10 Zone.lt_add11 Zone.lt_add12
theorem sl_ne {α : Type} {w : World} {k c b : Nat} {enc : α → List Value} {A : Option Addr} {xs : List α} (h : Sl w k enc A c xs) (h0 : ∀ x, 0 < (enc x).length) (hb : w.heap.size ≤ b) : ∀ g off, A = some ⟨g, off, none⟩ → 0 < xs.length → g ≠ b := by
  rintro g off rfl hl rfl
  obtain ⟨b', off', hA, hc⟩ := h.at_ 0 hl
  have hx := h0 xs[0]
  cases he : enc xs[0] with
  | nil => rw [he] at hx; exact absurd hx (by simp)
  | cons u r =>
    have := hc 0 u (by rw [he]; rfl)
    have hlt := World.block_lt_of_cell? w _ this
    injection hA with hA
    injection hA with h1 h2
    simp only at hlt
    omega
theorem Nd.In.fresh {w : World} {b0 b : Nat} {n : Nd} (h : Nd.In w b0 n) (hb : w.heap.size ≤ b) : Nd.In w b n := by
  induction h with
  | mk n hk hv hA hB _ ih => exact .mk n hk hv (sl_ne hk (fun _ => by simp [Nd.cells]) hb) (sl_ne hv (fun _ => by simp [Val.cells]) hb) ih
theorem Ts.In.fresh {w : World} {b0 b : Nat} {n : Ts} (h : Ts.In w b0 n) (hb : w.heap.size ≤ b) : Ts.In w b n := by
  induction h with
  | mk n hk hA _ ih => exact .mk n hk (sl_ne hk (fun _ => by simp [Ts.cells]) hb) ih
theorem at_alloc (w : World) (vs : List Value) (T : TypeId) : At (w.alloc (.cells vs.toArray T)) w.heap.size vs := fun j u hu => by
  unfold World.cell? World.alloc
  simpa using hu
theorem sl_blk {α : Type} {w : World} {g k : Nat} {enc : α → List Value} {xs : List α} (hk : ∀ x, (enc x).length = k) (h : At w g (xs.flatMap enc)) (hl : xs.length ≤ 1000) : Sl w k enc (some ⟨g, 0, none⟩) xs.length xs :=
  ⟨Nat.le_refl _, by omega, by omega, fun i hi => ⟨g, 0, rfl, fun j u hu => by
    rw [Nat.zero_add]
    exact h _ _ (flat_get hk xs i j hi u hu)⟩⟩
/-- What Validate looks at: its question in block n0, and what the question holds, beside the gatherer in block nb. -/
structure Vq (w : World) (nb n0 : Nat) (vs : List Value) (A : Option Addr) (c : Nat) (cols : List Col) (B : Option Addr) (d : Nat) (kinds : List Int) (aA : Option Addr) (ac : Nat) (ags : List Ag) (f : Nd) (h : Ts) : Prop where
  x : At w n0 vs
  cs : Sl w 2 Col.cells A c cols
  ks : Sl w 1 byteK B d kinds
  gs : Sl w 2 Ag.cells aA ac ags
  nf : Nd.In w nb f
  nt : Ts.In w nb h
  ne : n0 ≠ nb
  nA : ∀ g off, A = some ⟨g, off, none⟩ → 0 < cols.length → g ≠ nb
  nB : ∀ g off, B = some ⟨g, off, none⟩ → 0 < kinds.length → g ≠ nb
  nG : ∀ g off, aA = some ⟨g, off, none⟩ → 0 < ags.length → g ≠ nb
theorem Vq.by_ {w w' : World} {nb n0 : Nat} {vs : List Value} {A : Option Addr} {c : Nat} {cols : List Col} {B : Option Addr} {d : Nat} {kinds : List Int} {aA : Option Addr} {ac : Nat} {ags : List Ag} {f : Nd} {h : Ts}
    (H : Vq w nb n0 vs A c cols B d kinds aA ac ags f h) (hg : w.grownBy w' (some nb)) : Vq w' nb n0 vs A c cols B d kinds aA ac ags f h :=
  ⟨At.by_ hg H.x (fun e => H.ne (Option.some.inj e)), By.sl hg H.cs (fun g off e hp q => H.nA g off e hp (Option.some.inj q)), By.sl hg H.ks (fun g off e hp q => H.nB g off e hp (Option.some.inj q)),
    By.sl hg H.gs (fun g off e hp q => H.nG g off e hp (Option.some.inj q)), H.nf.by_ hg, H.nt.by_ hg, H.ne, H.nA, H.nB, H.nG⟩
/-- What is wrong with a question that groups and orders by nothing. -/
def validE (cols : List Col) (f : Nd) (ags : List Ag) (h : Ts) (limit : Int) : Int :=
  testE (kindsQ cols [] ags.length) 1 (nodeE cols 1 (aggsE cols (soE (soE (soE 0 (decide (limit < -1)) 2) (decide (16 < (ags.length : Int))) 3) ((ags.length : Int) == 0) 5) ags) f) h
set_option maxHeartbeats 4000000 in
theorem valid_any (f : Nd) (hv : Ts) (aA : Option Addr) (ac : Nat) (ags : List Ag) (bA : Option Addr) (bc : Nat) (oA : Option Addr) (oc : Nat) (limit : Int) (A : Option Addr) (c : Nat) (cols : List Col) (w : World) (hc : Sl w 2 Col.cells A c cols) (ha : Sl w 2 Ag.cells aA ac ags)
    (hf : Nd.In w w.heap.size f) (hh : Ts.In w w.heap.size hv) (hbc : bc ≤ 9223372036854775807) (hoc : oc ≤ 9223372036854775807) (hl : ags.length ≤ 1000000) :
    Calls Try.prog 6 #[.slice A cols.length c, Qr.val ⟨f, bA, bc, [], aA, ac, ags, hv, oA, oc, [], limit⟩] w fun r w' => r = .returned (.int .i64 (validE cols f ags hv limit)) ∧ Keep w w' := by
  have HC := Lib.hid hc
  have HA := Lib.hid ha
  have HF := Lib.hid hf
  have HH := Lib.hid hh
  have hkl := hf.kids_.len
  have hvl := hf.vals_.len
  have htl := hh.kids_.len
  clear hc ha hf hh
  simp only [Qr.val, List.length_nil]
  go_enter Try.func6, Try.ntmps6
  go_wp2_with (go_at_call 15; refine Zone.hold ?_)
  refine Zone.unhold ?_
  refine (kinds_any ⟨f, bA, bc, [], aA, ac, ags, hv, oA, oc, [], limit⟩ A c cols _ (HC.out.keep (by repeat (first | exact Keep.refl _ | apply Keep.alloc | apply Keep.gro | apply Keep.drew | apply Keep.drewN))) (Sl.nil_ _ hbc) (HA.out.keep (by repeat (first | exact Keep.refl _ | apply Keep.alloc | apply Keep.gro | apply Keep.drew | apply Keep.drewN))) (by simp; omega)).mono ?_
  rintro e w1 ⟨v, rfl, hown, hk⟩
  obtain ⟨B, d, rfl, hs⟩ := hown.sl k_len (by simp [kindsQ]; omega)
  have HX := Lib.hid ((at_alloc w [.int .u8 f.op, .slice f.A f.kids.length f.c, .string f.col, .int .u8 f.cmp, .slice f.B f.vals.length f.d, .slice bA 0 bc, .slice aA ags.length ac, .int .u8 hv.op, .slice hv.A hv.kids.length hv.c, .int .i64 hv.out, .int .u8 hv.cmp, .int .u8 hv.v.k, .int .i64 hv.v.n, .string hv.v.s, .slice oA 0 oc, .int .i64 limit] 43).keep hk)
  have hx := HX.out 15 _ rfl
  have hlt := World.block_lt_of_cell? _ _ hx
  simp only at hlt
  have HK := Lib.hid (show Keep w w1 from ((Keep.refl w).alloc _).trans hk)
  have HS := Lib.hid hs
  generalize hkq : kindsQ cols [] ags.length = kinds at HS ⊢
  have HKQ := Lib.hid hkq
  clear hs hown hk hkq
  have HNA := Lib.hid (sl_ne (HC.out.keep HK.out) (fun _ => by simp [Col.cells]) (Nat.le_refl _))
  have HNB := Lib.hid (sl_ne HS.out (fun _ => by simp [byteK]) (Nat.le_refl _))
  have HNG := Lib.hid (sl_ne (HA.out.keep HK.out) (fun _ => by simp [Ag.cells]) (Nat.le_refl _))
  have HW : Hid (Wr (w1.alloc (.cells #[.slice A cols.length c, .slice B kinds.length d, .int .i64 0] 61)) w1.heap.size A c cols B d kinds 0) :=
    ⟨by simp [go_sem], by simp [go_sem], by simp [go_sem], by simp [go_sem], HNA.out, HNB.out⟩
  have HKA := Lib.hid (show Keep w1 (w1.alloc (.cells #[.slice A cols.length c, .slice B kinds.length d, .int .i64 0] 61)) from (Keep.refl _).alloc _)
  have HV : Hid (Vq (w1.alloc (.cells #[.slice A cols.length c, .slice B kinds.length d, .int .i64 0] 61)) w1.heap.size w.heap.size
      [.int .u8 f.op, .slice f.A f.kids.length f.c, .string f.col, .int .u8 f.cmp, .slice f.B f.vals.length f.d, .slice bA 0 bc, .slice aA ags.length ac, .int .u8 hv.op, .slice hv.A hv.kids.length hv.c, .int .i64 hv.out, .int .u8 hv.cmp, .int .u8 hv.v.k, .int .i64 hv.v.n, .string hv.v.s, .slice oA 0 oc, .int .i64 limit]
      A c cols B d kinds aA ac ags f hv) :=
    ⟨HX.out.keep HKA.out, (HC.out.keep HK.out).keep HKA.out, HS.out.keep HKA.out, (HA.out.keep HK.out).keep HKA.out, ((HF.out.keep HK.out).fresh (Nat.le_refl _)).keep HKA.out, ((HH.out.keep HK.out).fresh (Nat.le_refl _)).keep HKA.out, Nat.ne_of_lt hlt, HNA.out, HNB.out, HNG.out⟩
  have HKW := Lib.hid (HK.out.trans HKA.out)
  have hnb : w.heap.size ≤ w1.heap.size := Nat.le_of_lt hlt
  clear HX HS HC HA HF HH HNA HNB HNG HK HKA
  go_wp2_with (go_at_call 16; refine Zone.hold ?_)
  refine Zone.unhold ?_
  refine (so_any _ 2 _ (HW.out.keep (by repeat (first | exact Keep.refl _ | apply Keep.alloc | apply Keep.gro | apply Keep.drew | apply Keep.drewN)))).mono ?_
  rintro e w2 ⟨rfl, HW2, HG2⟩
  have HV2 := Lib.hid (HV.out.by_ HG2)
  have HGA := Lib.hid (HKW.out.grown HG2 (fun k e => by injection e with e; rw [← e]; exact hnb))
  have HWb := Lib.hid HW2
  clear HV HKW HW hx HG2 HW2
  generalize w1.heap.size = nb at HV2 HWb hnb hlt ⊢
  have hx1 := HV2.out.x 5 _ rfl
  have hx2 := HV2.out.x 6 _ rfl
  have hx3 := HV2.out.x 14 _ rfl
  have hlt2 := World.block_lt_of_cell? _ _ hx1
  simp only at hlt2
  go_wp2_with (go_at_call 16; refine Zone.hold ?_)
  all_goals
    refine Zone.unhold ?_
    refine (so_any _ 3 _ (HWb.out.keep (by repeat (first | exact Keep.refl _ | apply Keep.alloc | apply Keep.gro | apply Keep.drew | apply Keep.drewN)))).mono ?_
    rintro e w3 ⟨rfl, HW3, HG3⟩
    have HWc : Hid (Wr w3 nb A c cols B d kinds (soE (soE 0 (decide (limit < -1)) 2) (decide (16 < (ags.length : Int))) 3)) := by
      first
      | exact HW3
      | (have e0 : decide (16 < (ags.length : Int)) = false := by simp; omega
         rw [e0]; exact HW3)
    have HV3 := Lib.hid (HV2.out.by_ HG3)
    have HGB := Lib.hid (HGA.out.grown HG3 (fun k e => by injection e with e; rw [← e]; exact hnb))
    clear HW3 HG3 HV2 HGA HWb hx1 hx2 hx3
    have hx2 := HV3.out.x 6 _ rfl
    have hlt3 := World.block_lt_of_cell? _ _ hx2
    simp only at hlt3
    go_wp2_with (go_at_call 16; refine Zone.hold ?_)
    refine Zone.unhold ?_
    refine (so_any _ 5 _ (HWc.out.keep (by repeat (first | exact Keep.refl _ | apply Keep.alloc | apply Keep.gro | apply Keep.drew | apply Keep.drewN)))).mono ?_
    rintro e w4 ⟨rfl, HW4, HG4⟩
    have HWd : Hid (Wr w4 nb A c cols B d kinds (soE (soE (soE 0 (decide (limit < -1)) 2) (decide (16 < (ags.length : Int))) 3) ((ags.length : Int) == 0) 5)) := by
      first
      | exact HW4
      | (have e0 : ((ags.length : Int) == 0) = true := by simp; omega
         rw [e0]; exact HW4)
      | (have e0 : ((ags.length : Int) == 0) = false := by simp; omega
         rw [e0]; exact HW4)
    have HV4 := Lib.hid (HV3.out.by_ HG4)
    have HGC := Lib.hid (HGB.out.grown HG4 (fun k e => by injection e with e; rw [← e]; exact hnb))
    clear HW4 HG4 HV3 HGB HWc hx2
    have hx1 := HV4.out.x 5 _ rfl
    have hlt4 := World.block_lt_of_cell? _ _ hx1
    simp only at hlt4
    go_wp2_with (go_at_call 17; refine Zone.hold ?_)
    refine Zone.unhold ?_
    refine (eachBy_any bA bc [] _ HWd.out HV4.out.cs (Sl.nil_ _ hbc) (fun _ _ _ h => absurd h (Nat.not_lt_zero _))).mono ?_
    rintro e w5 ⟨rfl, HW5, HG5⟩
    have HWe : Hid (Wr w5 nb A c cols B d kinds (soE (soE (soE 0 (decide (limit < -1)) 2) (decide (16 < (ags.length : Int))) 3) ((ags.length : Int) == 0) 5)) := HW5
    have HV5 := Lib.hid (HV4.out.by_ HG5)
    have HGD := Lib.hid (HGC.out.grown HG5 (fun k e => by injection e with e; rw [← e]; exact hnb))
    clear HW5 HG5 HV4 HGC HWd hx1
    have hx1 := HV5.out.x 6 _ rfl
    have hlt5 := World.block_lt_of_cell? _ _ hx1
    simp only at hlt5
    go_wp2_with (go_at_call 19; refine Zone.hold ?_)
    refine Zone.unhold ?_
    refine (eachAgg_any aA ac ags _ HWe.out HV5.out.cs HV5.out.gs HV5.out.nG).mono ?_
    rintro e w6 ⟨rfl, HW6, HG6⟩
    have HV6 := Lib.hid (HV5.out.by_ HG6)
    have HGE := Lib.hid (HGD.out.grown HG6 (fun k e => by injection e with e; rw [← e]; exact hnb))
    have HWf := Lib.hid HW6
    generalize he6 : aggsE cols (soE (soE (soE 0 (decide (limit < -1)) 2) (decide (16 < (ags.length : Int))) 3) ((ags.length : Int) == 0) 5) ags = e6 at HWf ⊢
    have HE6 := Lib.hid he6
    clear he6
    clear HW6 HG6 HV5 HGD HWe hx1
    have hx1 := HV6.out.x 5 _ rfl
    have hy0 := HV6.out.x 0 _ rfl
    have hy1 := HV6.out.x 1 _ rfl
    have hy2 := HV6.out.x 2 _ rfl
    have hy3 := HV6.out.x 3 _ rfl
    have hy4 := HV6.out.x 4 _ rfl
    have hlt6 := World.block_lt_of_cell? _ _ hx1
    simp only at hlt6
    go_wp2
    refine wp_loop_rounds 1 ?_
    rw [rounds_succ]
    go_wp2_with (go_at_call 22; refine Zone.hold ?_)
    refine Zone.unhold ?_
    have hno := node_any w6 f HV6.out.nf w6 e6 1 (by omega) (World.grownBy.refl _ _) HWf.out HV6.out.cs
    simp only [Int.natCast_one] at hno
    refine hno.mono ?_
    clear hno
    rintro e w7 ⟨rfl, HW7, HG7⟩
    have HV7 := Lib.hid (HV6.out.by_ HG7)
    have HGF := Lib.hid (HGE.out.grown HG7 (fun k e => by injection e with e; rw [← e]; exact hnb))
    have HWg := Lib.hid HW7
    generalize he7 : nodeE cols 1 e6 f = e7 at HWg ⊢
    have HE7 := Lib.hid he7
    clear he7
    clear HW7 HG7 HV6 HGE HWf hx1 hy0 hy1 hy2 hy3 hy4
    have hy0 := HV7.out.x 7 _ rfl
    have hy1 := HV7.out.x 8 _ rfl
    have hy2 := HV7.out.x 9 _ rfl
    have hy3 := HV7.out.x 10 _ rfl
    have hy4 := HV7.out.x 11 _ rfl
    have hy5 := HV7.out.x 12 _ rfl
    have hy6 := HV7.out.x 13 _ rfl
    have hlt7 := World.block_lt_of_cell? _ _ hy0
    simp only at hlt7
    go_wp2_with (go_at_call 23; refine Zone.hold ?_)
    refine Zone.unhold ?_
    have hno := test_any w7 hv HV7.out.nt w7 e7 1 (by omega) (World.grownBy.refl _ _) HWg.out HV7.out.ks
    simp only [Int.natCast_one] at hno
    refine hno.mono ?_
    clear hno
    rintro e w8 ⟨rfl, HW8, HG8⟩
    have HV8 := Lib.hid (HV7.out.by_ HG8)
    have HGG := Lib.hid (HGF.out.grown HG8 (fun k e => by injection e with e; rw [← e]; exact hnb))
    have HWh := Lib.hid HW8
    clear HW8 HG8 HV7 HGF HWg hy0 hy1 hy2 hy3 hy4 hy5 hy6
    have hy0 := HV8.out.x 14 _ rfl
    have hc2 := HWh.out.c2
    have hlt8 := World.block_lt_of_cell? _ _ hy0
    have hlt9 := HWh.out.lt
    simp only at hlt8
    go_wp2
    refine wp_loop_rounds 1 ?_
    rw [rounds_succ]
    go_wp2
    go_ret
    refine ⟨ret_int ?_, HGG.out⟩
    unfold validE
    rw [HKQ.out, HE6.out, HE7.out]
end Go.Proofs.Ythigflnfccajoaa
