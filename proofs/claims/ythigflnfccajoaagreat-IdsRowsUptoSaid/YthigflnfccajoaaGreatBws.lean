
/- IdsRows: the law answers true. -/
import Derived.WalkKit
import Derived.Lib.Hide
import Derived.WalkSpells
import Derived.WalkLawsBesides
import Derived.BigQuiet
import Derived.Shelf.Abstract
import Derived.Deep.CutRange
import Derived.Deep.DeepCutAuto
import Derived.Test.YthigflnfccajoaaGreatBo
import Derived.Test.YthigflnfccajoaaGreatRval
import Derived.Test.YthigflnfccajoaaGreatIknw
namespace Go.Proofs.YthigflnfccajoaaGreat
open Go.RowKit Go.Zone Go.Shelf
attribute [local go_sem] Zone.zone Zone.stepZ Zone.fill Zone.lookFs Zone.goes Zone.goesUpon Zone.dropFs Zone.cell_gro Zone.frozen_gro Zone.size_gro Zone.lt_add Zone.drew_gro Zone.tape_gro Zone.keep_refl
attribute [local go_sem] Zone.lt_add2 Zone.lt_add3 Zone.lt_add4 Zone.lt_add5 Zone.lt_add6 Zone.lt_add7 Zone.lt_add8 Zone.lt_add9 Zone.lt_add10 Zone.lt_add11 Zone.lt_add12
theorem sl_rowm {w : World} {c : Nat} {A : Option Addr} {xs : List Mc} (h : Sl w 1 rowV A c xs) (i : Nat) (hi : i < xs.length) : ∃ b off, A = some ⟨b, off, none⟩ ∧ b < w.heap.size ∧ w.cell? ⟨b, off + i, none⟩ = some (.slice xs[i].RA xs[i].xs.length xs[i].Rc) := by
  obtain ⟨b, off, hA, hc⟩ := h.at_ i hi
  have h0 := hc 0 _ rfl
  exact ⟨b, off, hA, World.block_lt_of_cell? w _ h0, by simpa using h0⟩
def tk (na b0 b1 b2 : Bool) : Nat → Bool
  | 0 => !na
  | 1 => !na && b0
  | 2 => (!na && b0) && b1
  | _ => ((!na && b0) && b1) && b2
theorem u64_nat (t : Int) : ∃ q : Nat, IntKind.u64.wrap t = (q : Int) := by
  have h : IntKind.u64.wrap t = t % 18446744073709551616 := by simp [IntKind.wrap, IntKind.bits, IntKind.signed]
  exact ⟨(IntKind.u64.wrap t).toNat, by omega⟩
/-- An id told by a number. -/
theorem id_of (t : Int) (xs : List Val) (h : 0 < xs.length) : ∃ (n i : Nat) (y : Val), xs.length = n ∧ i < n ∧ (∃ hi : i < xs.length, xs[i] = y) ∧ i = (IntKind.u64.wrap t).toNat % n := 
  ⟨xs.length, (IntKind.u64.wrap t).toNat % xs.length, _, rfl, Nat.mod_lt _ h, ⟨Nat.mod_lt _ h, rfl⟩, rfl⟩
theorem want_bit {dk : Nm → Int} {dy : Nm → List Val} {f : Nd} {ps : List Nd} {rs : List Rs} (hp : partsOf f = some ps) (hm : rs.map (fun r => (r.col, r.may)) = (colsOf f).map fun s => (s, mayTo dk dy s ps)) (s : Nm) (id : Nat) (hid : id < (dy s).length) :
    wantF rs s id = bitTo dk s (dy s)[id] ps := by
  rw [want_one hm s id hid]
  by_cases h : s ∈ colsOf f
  · simp [h]
  · rw [bit_none dk s _ hp h]; simp
set_option maxRecDepth 100000 in
set_option maxHeartbeats 8000000 in
theorem rows_any (A0 : Option Addr) (c0 : Nat) (xs0 : List Val) (A1 : Option Addr) (c1 : Nat) (xs1 : List Val) (A2 : Option Addr) (c2 : Nat) (xs2 : List Val) (f : Nd) (t0 t1 t2 : Int) (w : World) (h0 : Sl w 3 Val.cells A0 c0 xs0) (h1 : Sl w 3 Val.cells A1 c1 xs1) (h2 : Sl w 3 Val.cells A2 c2 xs2)
    (hw0 : ∀ x ∈ xs0, x.s.size ≤ maxLen) (hw1 : ∀ x ∈ xs1, x.s.size ≤ maxLen) (hw2 : ∀ x ∈ xs2, x.s.size ≤ maxLen) (hf : Nd.In w w.heap.size f) (hsf : sizeF f ≤ 10000000) :
    Calls Tryz.prog 4 #[.agg #[.slice A0 xs0.length c0, .slice A1 xs1.length c1, .slice A2 xs2.length c2], f.v, .agg #[.int .i64 t0, .int .i64 t1, .int .i64 t2]] w fun e w' => e = .returned (.bool true) ∧ Keep w w' := by
  have HMADE := Lib.hid (fun W (hW : Keep w W) => made_any A0 c0 xs0 A1 c1 xs1 A2 c2 xs2 W (h0.keep hW) (h1.keep hW) (h2.keep hW) hw0 hw1 hw2)
  have HWS := Lib.hid (show (∀ x ∈ xs0, x.s.size ≤ maxLen) ∧ (∀ x ∈ xs1, x.s.size ≤ maxLen) ∧ (∀ x ∈ xs2, x.s.size ≤ maxLen) from ⟨hw0, hw1, hw2⟩)
  have HF := Lib.hid hf
  have hl0 := h0.len
  have hl1 := h1.len
  have hl2 := h2.len
  have hkl := hf.kids_.len
  have hvl := hf.vals_.len
  have KN := Lib.hid (fun W => known25_any W)
  clear h0 h1 h2 hw0 hw1 hw2 hf
  have ef : f.v = .agg #[.int .u8 f.op, .slice f.A f.kids.length f.c, .string f.col, .int .u8 f.cmp, .slice f.B f.vals.length f.d] := rfl
  rw [ef]
  clear ef
  go_enter Tryz.func4, Tryz.ntmps4
  go_wp2_with (go_at_call 6; refine Zone.hold ?_)
  refine Zone.unhold ?_
  refine (HMADE.out _ (by repeat (first | exact Keep.refl _ | apply Keep.alloc | apply Keep.gro | apply Keep.drew | apply Keep.drewN))).mono ?_
  rintro e w1 (⟨rfl, hk1⟩ | ⟨P, R, ms, rfl, hm, hk1⟩)
  · have HK1 := Lib.hid (Keep.trans (show Keep w _ from (by repeat (first | exact Keep.refl _ | apply Keep.alloc | apply Keep.gro | apply Keep.drew | apply Keep.drewN))) hk1)
    go_wp2_with (go_at_call 8; refine (KN.out _).mono ?_; rintro e w' ⟨rfl, hk⟩; (first | obtain ⟨p, rfl⟩ := Zone.gro_of_gro _ _ hk | obtain ⟨p, rfl⟩ := Zone.gro_of_below _ hk); clear hk)
    go_ret
    exact ⟨rfl, HK1.out.trans (by repeat (first | exact Keep.refl _ | apply Keep.alloc | apply Keep.gro | apply Keep.drew | apply Keep.drewN))⟩
  · have HK1 := Lib.hid (Keep.trans (show Keep w _ from (by repeat (first | exact Keep.refl _ | apply Keep.alloc | apply Keep.gro | apply Keep.drew | apply Keep.drewN))) hk1)
    have HM := Lib.hid hm
    obtain ⟨A, c, rfl, _⟩ := hm.ptrs
    obtain ⟨RA, Rc, rfl, _⟩ := hm.rows
    obtain ⟨m0, m1, m2, rfl⟩ : ∃ m0 m1 m2, ms = [m0, m1, m2] := by
      have := hm.len
      match ms, this with
      | [a, b, c], _ => exact ⟨a, b, c, rfl⟩
    have ha1 : w.heap.size + 1 < w1.heap.size := by have := hk1.size; simp at this; omega
    have ha2 : w.heap.size + 1 + 1 < w1.heap.size := by have := hk1.size; simp at this; omega
    have HX1 := Lib.hid (show At w1 (w.heap.size + 1) [.int .u8 f.op, .slice f.A f.kids.length f.c, .string f.col, .int .u8 f.cmp, .slice f.B f.vals.length f.d] from At.keep hk1 (by
      have := (at_alloc (w.alloc (.cells #[.slice A0 xs0.length c0, .slice A1 xs1.length c1, .slice A2 xs2.length c2] 24)) [.int .u8 f.op, .slice f.A f.kids.length f.c, .string f.col, .int .u8 f.cmp, .slice f.B f.vals.length f.d] 27).keep' (Keep.alloc (Keep.refl _) (.cells #[.int .i64 t0, .int .i64 t1, .int .i64 t2] 59))
      simpa only [World.size_alloc] using this))
    have HX2 := Lib.hid (show At w1 (w.heap.size + 1 + 1) [.int .i64 t0, .int .i64 t1, .int .i64 t2] from At.keep hk1 (by
      have := at_alloc ((w.alloc (.cells #[.slice A0 xs0.length c0, .slice A1 xs1.length c1, .slice A2 xs2.length c2] 24)).alloc (.cells #[.int .u8 f.op, .slice f.A f.kids.length f.c, .string f.col, .int .u8 f.cmp, .slice f.B f.vals.length f.d] 27)) [.int .i64 t0, .int .i64 t1, .int .i64 t2] 59
      simpa only [World.size_alloc] using this))
    clear hk1 hm
    generalize w.heap.size + 1 + 1 = a2 at ha2 HX2 ⊢
    generalize w.heap.size + 1 = a1 at ha1 HX1 ⊢
    go_upto_region 2 with fail
    have HKA := Lib.hid (show Keep w1 (w1.alloc (.cells #[.slice A 3 c] 28)) from (by repeat (first | exact Keep.refl _ | apply Keep.alloc | apply Keep.gro | apply Keep.drew | apply Keep.drewN)))
    have hcl : (w1.alloc (.cells #[.slice A 3 c] 28)).cell? ⟨w1.heap.size, 0, none⟩ = some (.slice A 3 c) := by simp [go_sem]
    have hz2 : w1.heap.size < (w1.alloc (.cells #[.slice A 3 c] 28)).heap.size := by simp
    generalize hw2 : World.alloc w1 _ = w2 at HKA hcl hz2 ⊢
    clear hw2
    generalize w1.heap.size = bl at hcl hz2 ha1 ha2 ⊢
    have HX1b := Lib.hid (HX1.out.keep' HKA.out)
    have HX2b := Lib.hid (HX2.out.keep' HKA.out)
    have HKW := Lib.hid (HK1.out.trans HKA.out)
    have HCL := Lib.hid hcl
    have HMB := Lib.hid (HM.out.keep HKA.out)
    have HFB := Lib.hid ((HF.out.keep HKW.out).fresh (Nat.le_refl _))
    clear HX1 HX2 HF HK1 HM HKA hcl
    go_cut [52] from 25 to 52 (fun s52 wx => ∃ q, s52 = .bool q ∧ Hid (q = false → sizeF f ≤ 600 ∧ NodeWf colsC 1 f ∧ 0 < m0.xs.length ∧ 0 < m1.xs.length ∧ 0 < m2.xs.length) ∧ Hid (Keep w2 wx))
    case first =>
      have x10 := HX1b.out 0 _ rfl
      have x11 := HX1b.out 1 _ rfl
      have x12 := HX1b.out 2 _ rfl
      have x13 := HX1b.out 3 _ rfl
      have x14 := HX1b.out 4 _ rfl
      have ha1' : a1 < w2.heap.size := by omega
      go_wp2_with (go_at_call 7; refine Zone.hold ?_)
      refine Zone.unhold ?_
      clear x10 x11 x12 x13 x14
      refine (may25_any f w2 HFB.out (by omega)).mono ?_
      rintro e w3 ⟨b1, rfl, hb1, hk3⟩
      have HK3 := Lib.hid hk3
      have HB1 := Lib.hid hb1
      obtain ⟨RA', Rc', er, hrs⟩ := HMB.out.rows
      injection er with er1 _ er2
      subst er1; subst er2
      obtain ⟨rb, ro, rfl, hrb, r0⟩ := sl_rowm (hrs.keep hk3) 0 (by simp)
      obtain ⟨rb', ro', e', _, r1⟩ := sl_rowm (hrs.keep hk3) 1 (by simp)
      cases e'
      obtain ⟨rb', ro', e', _, r2⟩ := sl_rowm (hrs.keep hk3) 2 (by simp)
      cases e'
      simp only [List.getElem_cons_zero, List.getElem_cons_succ, Nat.add_zero] at r0 r1 r2
      clear hk3 hb1 hrs
      cases b1
      · clear r0 r1 r2
        go_wp2
        go_meet
        exact ⟨true, rfl, fun h => (by cases h), HK3.out⟩
      · obtain ⟨n0, hn0⟩ : ∃ n0, m0.xs.length = n0 := ⟨_, rfl⟩
        obtain ⟨n1, hn1⟩ : ∃ n1, m1.xs.length = n1 := ⟨_, rfl⟩
        obtain ⟨n2, hn2⟩ : ∃ n2, m2.xs.length = n2 := ⟨_, rfl⟩
        rw [hn0] at r0
        rw [hn1] at r1
        rw [hn2] at r2
        have HN0 := Lib.hid hn0
        have HN1 := Lib.hid hn1
        have HN2 := Lib.hid hn2
        clear hn0 hn1 hn2
        cases e0 : ((n0 : Int) == 0)
        · cases e1 : ((n1 : Int) == 0)
          · cases e2 : ((n2 : Int) == 0)
            · have HN := Lib.hid (show 0 < n0 ∧ 0 < n1 ∧ 0 < n2 by simp at e0 e1 e2; omega)
              go_wp2
              go_meet
              exact ⟨false, rfl, fun _ => ⟨(by first | exact (HB1.out rfl).1 | exact (HB1.out trivial).1), (by first | exact (HB1.out rfl).2 | exact (HB1.out trivial).2), by rw [HN0.out]; exact HN.out.1, by rw [HN1.out]; exact HN.out.2.1, by rw [HN2.out]; exact HN.out.2.2⟩, HK3.out⟩
            · go_wp2
              go_meet
              exact ⟨true, rfl, fun h => (by cases h), HK3.out⟩
          · go_wp2
            go_meet
            exact ⟨true, rfl, fun h => (by cases h), HK3.out⟩
        · go_wp2
          go_meet
          exact ⟨true, rfl, fun h => (by cases h), HK3.out⟩
    case rest =>
      obtain ⟨q, rfl, HQ, HKQ⟩ := hcut
      rename World => w6
      cases q
      · go_upto_region 5 with fail
        obtain ⟨hs600, hwf, hn0, hn1, hn2⟩ := (show sizeF f ≤ 600 ∧ NodeWf colsC 1 f ∧ 0 < m0.xs.length ∧ 0 < m1.xs.length ∧ 0 < m2.xs.length from HQ.out rfl)
        have HWF := Lib.hid hwf
        have HN0 := Lib.hid hn0
        have HN1 := Lib.hid hn1
        have HN2 := Lib.hid hn2
        have hzf : f.sz ≤ 1000000 := by have := sz_le_size f; omega
        have HKB := Lib.hid (show Keep w6 ((w6.alloc (.cells #[.string ⟨#[97]⟩, .string ⟨#[98]⟩, .string ⟨#[99]⟩] 9)).alloc (.cells #[.slice (some ⟨w6.heap.size, 0, none⟩) 3 3] 34)) from (by repeat (first | exact Keep.refl _ | apply Keep.alloc | apply Keep.gro | apply Keep.drew | apply Keep.drewN)))
        have hnm : Sl ((w6.alloc (.cells #[.string ⟨#[97]⟩, .string ⟨#[98]⟩, .string ⟨#[99]⟩] 9)).alloc (.cells #[.slice (some ⟨w6.heap.size, 0, none⟩) 3 3] 34)) 1 nmV (some ⟨w6.heap.size, 0, none⟩) 3 names3 := sl_blk (xs := names3) (fun _ => rfl) ((at_alloc w6 [.string ⟨#[97]⟩, .string ⟨#[98]⟩, .string ⟨#[99]⟩] 9).keep' (by repeat (first | exact Keep.refl _ | apply Keep.alloc | apply Keep.gro | apply Keep.drew | apply Keep.drewN))) (by decide)
        have hnc : ((w6.alloc (.cells #[.string ⟨#[97]⟩, .string ⟨#[98]⟩, .string ⟨#[99]⟩] 9)).alloc (.cells #[.slice (some ⟨w6.heap.size, 0, none⟩) 3 3] 34)).cell? ⟨w6.heap.size + 1, 0, none⟩ = some (.slice (some ⟨w6.heap.size, 0, none⟩) 3 3) := by simp [go_sem]
        have hz7 : w6.heap.size + 1 < ((w6.alloc (.cells #[.string ⟨#[97]⟩, .string ⟨#[98]⟩, .string ⟨#[99]⟩] 9)).alloc (.cells #[.slice (some ⟨w6.heap.size, 0, none⟩) 3 3] 34)).heap.size := by simp
        have hz6 := HKQ.out.size
        generalize hw7 : World.alloc (World.alloc w6 _) _ = w7 at HKB hnm hnc hz7 ⊢
        clear hw7 HQ hs600 hwf hn0 hn1 hn2 hsf
        generalize w6.heap.size = nb at hnm hnc hz7 hz6 ⊢
        have HKQ7 := Lib.hid (HKQ.out.trans HKB.out)
        have hz27 := HKQ7.out.size
        have HNM := Lib.hid hnm
        have HNC := Lib.hid hnc
        have HOF := Lib.hid (of_rows hnc hnm ((HKQ7.out.cell (World.block_lt_of_cell? _ _ HCL.out)).trans HCL.out) (HMB.out.keep HKQ7.out) (colsOf f) (wf_cols HWF.out))
        have HX1c := Lib.hid (HX1b.out.keep' HKQ7.out)
        clear hnm hnc HKQ HKB
        have x10 := HX1c.out 0 _ rfl
        have x11 := HX1c.out 1 _ rfl
        have x12 := HX1c.out 2 _ rfl
        have x13 := HX1c.out 3 _ rfl
        have x14 := HX1c.out 4 _ rfl
        have ha1' : a1 < w7.heap.size := by omega
        go_wp2_with (go_at_call 11; refine Zone.hold ?_)
        refine Zone.unhold ?_
        clear x10 x11 x12 x13 x14 HX1c
        refine (restrict_f w2 w2.heap.size f HFB.out w7 HKQ7.out hzf HOF.out).mono ?_
        rintro e w8 ⟨va, na, oka, rfl, hra, hk8⟩
        have HK8 := Lib.hid (HKQ7.out.trans hk8)
        have hz78 := hk8.size
        have HNM8 := Lib.hid (HNM.out.keep hk8)
        have HNC8 := Lib.hid ((hk8.cell (World.block_lt_of_cell? _ _ HNC.out)).trans HNC.out)
        rcases hra with ⟨rfl, rfl, _, rfl⟩ | ⟨rfl, pa, ra, hpa, hna, hRA, hma⟩
        · clear hk8
          go_wp2_with (go_at_call 8; refine (KN.out _).mono ?_; rintro e w' ⟨rfl, hk⟩; (first | obtain ⟨p, rfl⟩ := Zone.gro_of_gro _ _ hk | obtain ⟨p, rfl⟩ := Zone.gro_of_below _ hk); clear hk)
          go_ret
          exact ⟨rfl, HKW.out.trans (HK8.out.trans (by repeat (first | exact Keep.refl _ | apply Keep.alloc | apply Keep.gro | apply Keep.drew | apply Keep.drewN)))⟩
        · have HPA := Lib.hid hpa
          have HNA := Lib.hid hna
          have HMA := Lib.hid hma
          have HRA := Lib.hid hRA
          clear hk8 hpa hna hma hRA
          have hla : ra.length ≤ 1000000 := by rw [rs_len_cs HMA.out]; have := cols_len f; omega
          obtain ⟨Aa, ca, rfl, hsa⟩ := HRA.out.own.sl rs_len (by omega)
          have HSA := Lib.hid hsa
          have HMAY := Lib.hid (show ∀ r ∈ ra, Sl w8 1 boolV (some ⟨r.g, 0, none⟩) r.may.length r.may ∧ r.may.length = (pickM m0 m1 m2 r.col).xs.length ∧ r.may.length ≤ 60 from fun r hr => by
            have h1 : r.may.length = (pickM m0 m1 m2 r.col).xs.length := rs_may_len HMA.out r hr
            have h2 := (pick_xs HMB.out r.col).2
            exact ⟨flags_sl (HRA.out.may r hr) (by omega), h1, by omega⟩)
          have HX1d := Lib.hid (HX1b.out.keep' HK8.out)
          have HX2d := Lib.hid (HX2b.out.keep' HK8.out)
          have HRW := Lib.hid (show Sl w8 1 rowV RA Rc [m0, m1, m2] by obtain ⟨RA', Rc', er, hrs⟩ := HMB.out.rows; injection er with er1 _ er2; subst er1; subst er2; exact hrs.keep HK8.out)
          have hok0 := HMB.out.ok 0 (by simp)
          have hok1 := HMB.out.ok 1 (by simp)
          have hok2 := HMB.out.ok 2 (by simp)
          simp only [List.getElem_cons_zero, List.getElem_cons_succ] at hok0 hok1 hok2
          have HR0 := Lib.hid (hok0.1.r.keep HK8.out)
          have HR1 := Lib.hid (hok1.1.r.keep HK8.out)
          have HR2 := Lib.hid (hok2.1.r.keep HK8.out)
          have hl60 : m0.xs.length ≤ 60 ∧ m1.xs.length ≤ 60 ∧ m2.xs.length ≤ 60 := by
            have h0 := (pick_xs HMB.out nA).2
            have h1 := (pick_xs HMB.out nB).2
            have h2 := (pick_xs HMB.out nC).2
            exact ⟨h0, h1, h2⟩
          have HSZ := Lib.hid (show (∀ x ∈ m0.xs, x.s.size ≤ maxLen) ∧ (∀ x ∈ m1.xs, x.s.size ≤ maxLen) ∧ (∀ x ∈ m2.xs, x.s.size ≤ maxLen) from by
            obtain ⟨a, b, c⟩ := HWS.out
            refine ⟨fun x hx => a x ?_, fun x hx => b x ?_, fun x hx => c x ?_⟩
            · rw [hok0.2] at hx; exact ((dOwn_sorted _).2 x).1 hx
            · rw [hok1.2] at hx; exact ((dOwn_sorted _).2 x).1 hx
            · rw [hok2.2] at hx; exact ((dOwn_sorted _).2 x).1 hx)
          obtain ⟨n0, i0, y0, hn0, hi0, ⟨hj0, hy0⟩, hw0⟩ := id_of t0 m0.xs HN0.out
          obtain ⟨n1, i1, y1, hn1, hi1, ⟨hj1, hy1⟩, hw1⟩ := id_of t1 m1.xs HN1.out
          obtain ⟨n2, i2, y2, hn2, hi2, ⟨hj2, hy2⟩, hw2⟩ := id_of t2 m2.xs HN2.out
          have HLAW := Lib.hid (show takesR colsC [y0, y1, y2, ⟨1, 0, ⟨#[]⟩⟩] f = (!na && (wantF ra nA i0 && (wantF ra nB i1 && wantF ra nC i2))) from by
            rw [rows_law y0 y1 y2 _ HWF.out HPA.out, ← HNA.out, want_bit HPA.out HMA.out nA i0 (show i0 < m0.xs.length by omega), want_bit HPA.out HMA.out nB i1 (show i1 < m1.xs.length by omega), want_bit HPA.out HMA.out nC i2 (show i2 < m2.xs.length by omega)]
            rw [show (pickM m0 m1 m2 nA).xs[i0]'(show i0 < m0.xs.length by omega) = y0 from hy0, show (pickM m0 m1 m2 nB).xs[i1]'(show i1 < m1.xs.length by omega) = y1 from hy1, show (pickM m0 m1 m2 nC).xs[i2]'(show i2 < m2.xs.length by omega) = y2 from hy2])
          obtain ⟨b0, hb0⟩ : ∃ b, wantF ra nA i0 = b := ⟨_, rfl⟩
          obtain ⟨b1, hb1⟩ : ∃ b, wantF ra nB i1 = b := ⟨_, rfl⟩
          obtain ⟨b2, hb2⟩ : ∃ b, wantF ra nC i2 = b := ⟨_, rfl⟩
          rw [hb0, hb1, hb2] at HLAW
          have HB0 := Lib.hid hb0
          have HB1 := Lib.hid hb1
          have HB2 := Lib.hid hb2
          have HE0 := Lib.hid hn0
          have HE1 := Lib.hid hn1
          have HE2 := Lib.hid hn2
          have HY0 := Lib.hid hy0
          have HY1 := Lib.hid hy1
          have HY2 := Lib.hid hy2
          have HQ0 := Lib.hid hw0
          have HQ1 := Lib.hid hw1
          have HQ2 := Lib.hid hw2
          have HJ0 := Lib.hid hj0
          have HJ1 := Lib.hid hj1
          have HJ2 := Lib.hid hj2
          have HKX := Lib.hid (HKW.out.trans HK8.out)
          have hz8a : a1 < w8.heap.size := by omega
          have hz8b : a2 < w8.heap.size := by omega
          have hz8n : nb + 1 < w8.heap.size := by omega
          have HF8 := Lib.hid (HFB.out.keep HK8.out)
          have hl3 : n0 ≤ 60 ∧ n1 ≤ 60 ∧ n2 ≤ 60 := by omega
          have hx0 := HNC8.out
          clear hb0 hb1 hb2 hn0 hn1 hn2 hy0 hy1 hy2 hw0 hw1 hw2 hl60 hok0 hok1 hok2 hsa HRA HX1b HX2b HKW HCL HFB HNM HNC HOF HKQ7 HK8 HWS HMADE HN0 HN1 HN2 hz6 hz7 hz27 hz78 ha1' ha1 ha2 hz2 hzf
          go_wp2
          clear hx0
          go_loopw [14, 15, 78] (fun v14 s15 i wr => ∃ k : Nat, k ≤ 3 ∧ i = .int .i64 k ∧ Hid (Zone.Own wr w8.heap.size 51 3 Val.cells v14 ([y0, y1, y2].take k)) ∧ s15 = .bool (tk na b0 b1 b2 k) ∧ Hid (Keep w8 wr)) (fun _ _ i _ => 3 - (intOf i).toNat)
          case atStart => exact ⟨0, by omega, rfl, Own.nil_ _ _ _ _ _, rfl, Keep.refl _⟩
          case round =>
            obtain ⟨k, hk, rfl, HO, rfl, HK⟩ := hrel
            rename World => wr
            have hzr := HK.out.size
            rcases (show k = 0 ∨ k = 1 ∨ k = 2 ∨ k = 3 by omega) with rfl | rfl | rfl | rfl
            · rw [show ((0 : Nat) : Int) = (0 : Int) from rfl]
              have x2 := (HK.out.cell (World.block_lt_of_cell? _ _ (HX2d.out 0 _ rfl))).trans (HX2d.out 0 _ rfl)
              obtain ⟨rb, ro, rfl, hrb, r0⟩ := sl_rowm (HRW.out.keep HK.out) 0 (by simp)
              simp only [List.getElem_cons_zero, List.getElem_cons_succ, Nat.add_zero] at r0
              obtain ⟨g, off, hRA, hg, v0, v1, v2⟩ := sl_val (HR0.out.keep HK.out) i0 HJ0.out
              rw [hRA, HE0.out] at r0
              rw [HY0.out] at v0 v1 v2
              obtain ⟨q, hq⟩ : ∃ q : Nat, IntKind.u64.wrap t0 = (q : Int) := u64_nat t0
              have hqi : (q : Int).tmod (n0 : Int) = (i0 : Int) := by have h1 := HQ0.out; rw [hq] at h1; rw [h1]; simp; rfl
              have hn60 : n0 ≤ 60 := hl3.1
              have hwn : IntKind.u64.wrap (n0 : Int) = (n0 : Int) := IntWalk.u64_in _ ⟨by omega, by omega⟩
              have hwi : IntKind.i64.wrap (i0 : Int) = (i0 : Int) := IntWalk.i64_in _ ⟨by omega, by omega⟩
              clear hRA
              have hnz : ¬ (((n0 : Nat) : Int) = 0) := by omega
              have hnz2 : ¬ (n0 = 0) := by omega
              have hqn0 : (0 : Int) ≤ (q : Int) := by omega
              have hzb : a2 < wr.heap.size := by omega
              have hzn : nb + 1 < wr.heap.size := by omega
              go_wp2
              first | refine Zone.wp_region_all_gro (by kernel_rfl) (by kernel_rfl) ?_ | refine Zone.wp_region_all (by kernel_rfl) (by kernel_rfl) ?_
              repeat
                refine Zone.wpZ_step (fun K hK => ?_)
                go_simp
                first
                | (refine hK _ _ ?_; clear hK K)
                | (apply Exists.intro
                   refine ⟨fun p => ?_, hK _ _ ?_⟩
                   (fail)
                   clear hK K)
              refine Zone.wpZ_nil ?_
              intro p
              simp only [Zone.fill]
              go_wp2_with (at_builtin; refine Zone.hold ?_)
              refine Zone.unhold ?_
              have HO1 := HO.out.keep (show Keep wr ((wr.gro p).alloc (.cells #[.int .u8 y0.k, .int .i64 y0.n, .string y0.s] 51)) from (by repeat (first | exact Keep.refl _ | apply Keep.alloc | apply Keep.gro | apply Keep.drew | apply Keep.drewN)))
              refine wpList_app elt_val val_len val_one rfl (.tmp 93) (.tmp 101) rfl (ys := [y0]) HO1 rfl rfl (Zone.sl_one _ (by omega) (by omega) (val_at _ (by simp [go_sem]) (by simp [go_sem]) (by simp [go_sem]))) (by simp) (by simp [size_gro]; omega) ?_
              intro v3 w3 hown3 hg3 _
              have HK3 := Lib.hid (HO1.kept hg3 (HK.out.trans (by repeat (first | exact Keep.refl _ | apply Keep.alloc | apply Keep.gro | apply Keep.drew | apply Keep.drewN))) (Nat.le_refl _))
              have HO3 := Lib.hid hown3
              have hz3 := HK3.out.size
              clear HO1 hown3 hg3 x2 r0 v0 v1 v2 hrb hg hq hqi hwn hwi hnz hnz2 hqn0 hzb hzn HO HK hzr
              obtain ⟨tv, htv⟩ : ∃ tv, tk na b0 b1 b2 0 = tv := ⟨_, rfl⟩
              rw [htv]
              have HTV := Lib.hid htv
              clear htv
              go_wp2
              go_loopw [15, 105] (fun s15 i wq => ∃ mm : Nat, mm ≤ ra.length ∧ i = .int .i64 mm ∧ s15 = .bool (tv && wantF (ra.take mm) nA i0) ∧ Hid (Keep w3 wq)) (fun _ i _ => ra.length - (intOf i).toNat)
              case atStart => exact ⟨0, Nat.zero_le _, rfl, by simp [wantF], Keep.refl _⟩
              case round =>
                obtain ⟨mm, hmm, rfl, rfl, HKQ⟩ := hrel
                rename World => wq
                have HKZ := Lib.hid (HK3.out.trans HKQ.out)
                by_cases hltm : mm < ra.length
                · obtain ⟨gb, go', rfl, hgb, r0, r1⟩ := sl_rs (HSA.out.keep HKZ.out) mm hltm
                  obtain ⟨x, hxe, hxl⟩ := enc_out ra[mm].col
                  rw [hxe] at r0
                  have x0 := (HKZ.out.cell (World.block_lt_of_cell? _ _ HNC8.out)).trans HNC8.out
                  have hzq := HKZ.out.size
                  have hzn : nb + 1 < wq.heap.size := by omega
                  obtain ⟨b', o', e', hnb', x9⟩ := sl_nm (HNM8.out.keep HKZ.out) 0 (by decide)
                  injection e' with e'
                  injection e' with e1 e2 _
                  subst e1; subst e2
                  obtain ⟨yb, hye, hyl⟩ := enc_out nA
                  have x1 : wq.cell? ⟨nb, 0, none⟩ = some (.string yb) := by rw [Nat.zero_add] at x9; rw [← hye]; exact x9
                  have HYL := Lib.hid hyl
                  clear hye hyl x9
                  have HWS := Lib.hid (wantF_succ ra nA i0 mm hltm)
                  obtain ⟨hm1, hm2, hm3⟩ := HMAY.out ra[mm] (List.getElem_mem hltm)
                  have HM1 := Lib.hid (hm1.keep HKZ.out)
                  have HM2 := Lib.hid hm2
                  have HXL := Lib.hid hxl
                  obtain ⟨rg, hrg⟩ : ∃ rg, ra[mm].g = rg := ⟨_, rfl⟩
                  obtain ⟨rm, hrm⟩ : ∃ rm, ra[mm].may = rm := ⟨_, rfl⟩
                  rw [hrg, hrm] at HM1 r1
                  rw [hrm] at HM2 HWS hm3
                  clear hrg hrm hxe hxl hm1 hm2 HSA
                  obtain ⟨sv, hsv⟩ : ∃ sv, (tv && wantF (ra.take mm) nA i0) = sv := ⟨_, rfl⟩
                  rw [hsv]
                  have HSV := Lib.hid hsv
                  clear hsv
                  cases he : (x.toList == yb.toList)
                  · have HNE := Lib.hid (show (ra[mm].col != nA) = true by rw [HXL.out, HYL.out] at he; simpa [bne] using he)
                    go_wp2
                    first | refine Zone.wp_region_all_gro (by kernel_rfl) (by kernel_rfl) ?_ | refine Zone.wp_region_all (by kernel_rfl) (by kernel_rfl) ?_
                    repeat
                      refine Zone.wpZ_step (fun K hK => ?_)
                      go_simp
                      first
                      | (refine hK _ _ ?_; clear hK K)
                      | (apply Exists.intro
                         refine ⟨fun p => ?_, hK _ _ ?_⟩
                         (fail)
                         clear hK K)
                    refine Zone.wpZ_nil ?_
                    intro p2
                    simp only [Zone.fill]
                    go_wp2
                    go_roundw
                    case rel => exact ⟨mm + 1, by omega, by go_num, congrArg Value.bool (by rw [HWS.out, HNE.out, ← HSV.out]; simp), HKQ.out.trans (by repeat (first | exact Keep.refl _ | apply Keep.alloc | apply Keep.gro | apply Keep.drew | apply Keep.drewN))⟩
                    case measure => simp [intOf]; omega
                  · have hce : ra[mm].col = nA := by rw [HXL.out, HYL.out] at he; simpa using he
                    have HNE := Lib.hid (show (ra[mm].col != nA) = false by rw [hce]; simp)
                    have hrl : rm.length = n0 := by rw [HM2.out, hce]; exact HE0.out
                    obtain ⟨b', o', e', hb', m9⟩ := sl_bool HM1.out i0 (by omega)
                    injection e' with e'
                    injection e' with e1 e2 _
                    subst e1; subst e2
                    have HWS2 := Lib.hid (show wantF (ra.take (mm + 1)) nA i0 = (wantF (ra.take mm) nA i0 && rm[i0]'(by omega)) by rw [HWS.out, HNE.out, List.getD, List.getElem?_eq_getElem (by omega)]; rfl)
                    generalize hmb : rm[i0]'(by omega) = mb at m9 HWS2
                    simp only [Nat.zero_add] at m9
                    have hidr : i0 < rm.length := by omega
                    clear hce HWS HNE hmb hrl
                    cases sv
                    · go_wp2
                      first | refine Zone.wp_region_all_gro (by kernel_rfl) (by kernel_rfl) ?_ | refine Zone.wp_region_all (by kernel_rfl) (by kernel_rfl) ?_
                      repeat
                        refine Zone.wpZ_step (fun K hK => ?_)
                        go_simp
                        first
                        | (refine hK _ _ ?_; clear hK K)
                        | (apply Exists.intro
                           refine ⟨fun p => ?_, hK _ _ ?_⟩
                           (fail)
                           clear hK K)
                      refine Zone.wpZ_nil ?_
                      intro p2
                      simp only [Zone.fill]
                      go_wp2
                      go_roundw
                      case rel => exact ⟨mm + 1, by omega, by go_num, congrArg Value.bool (by rw [HWS2.out, ← Bool.and_assoc, HSV.out]; simp), HKQ.out.trans (by repeat (first | exact Keep.refl _ | apply Keep.alloc | apply Keep.gro | apply Keep.drew | apply Keep.drewN))⟩
                      case measure => simp [intOf]; omega
                    · go_wp2
                      first | refine Zone.wp_region_all_gro (by kernel_rfl) (by kernel_rfl) ?_ | refine Zone.wp_region_all (by kernel_rfl) (by kernel_rfl) ?_
                      repeat
                        refine Zone.wpZ_step (fun K hK => ?_)
                        go_simp
                        first
                        | (refine hK _ _ ?_; clear hK K)
                        | (apply Exists.intro
                           refine ⟨fun p => ?_, hK _ _ ?_⟩
                           (fail)
                           clear hK K)
                      refine Zone.wpZ_nil ?_
                      intro p2
                      simp only [Zone.fill]
                      go_wp2
                      go_roundw
                      case rel => exact ⟨mm + 1, by omega, by go_num, congrArg Value.bool (by rw [HWS2.out, ← Bool.and_assoc, HSV.out]; simp), HKQ.out.trans (by repeat (first | exact Keep.refl _ | apply Keep.alloc | apply Keep.gro | apply Keep.drew | apply Keep.drewN))⟩
                      case measure => simp [intOf]; omega
                · have hme : mm = ra.length := by omega
                  subst hme
                  rw [List.take_length, HB0.out]
                  have HO4 := Lib.hid (HO3.out.keep HKQ.out)
                  have HEND := Lib.hid (show tk na b0 b1 b2 (0 + 1) = (tv && b0) by rw [← HTV.out]; rfl)
                  clear HSA HO3
                  go_wp2
                  go_roundw
                  case rel => exact ⟨0 + 1, by omega, by go_num, HO4.out, by rw [HEND.out], HKZ.out⟩
                  case measure => simp [intOf]
            · rw [show ((1 : Nat) : Int) = (1 : Int) from rfl]
              have x2 := (HK.out.cell (World.block_lt_of_cell? _ _ (HX2d.out 1 _ rfl))).trans (HX2d.out 1 _ rfl)
              obtain ⟨rb, ro, rfl, hrb, r0⟩ := sl_rowm (HRW.out.keep HK.out) 1 (by simp)
              simp only [List.getElem_cons_zero, List.getElem_cons_succ, Nat.add_zero] at r0
              obtain ⟨g, off, hRA, hg, v0, v1, v2⟩ := sl_val (HR1.out.keep HK.out) i1 HJ1.out
              rw [hRA, HE1.out] at r0
              rw [HY1.out] at v0 v1 v2
              obtain ⟨q, hq⟩ : ∃ q : Nat, IntKind.u64.wrap t1 = (q : Int) := u64_nat t1
              have hqi : (q : Int).tmod (n1 : Int) = (i1 : Int) := by have h1 := HQ1.out; rw [hq] at h1; rw [h1]; simp; rfl
              have hn60 : n1 ≤ 60 := hl3.2.1
              have hwn : IntKind.u64.wrap (n1 : Int) = (n1 : Int) := IntWalk.u64_in _ ⟨by omega, by omega⟩
              have hwi : IntKind.i64.wrap (i1 : Int) = (i1 : Int) := IntWalk.i64_in _ ⟨by omega, by omega⟩
              clear hRA
              have hnz : ¬ (((n1 : Nat) : Int) = 0) := by omega
              have hnz2 : ¬ (n1 = 0) := by omega
              have hqn0 : (0 : Int) ≤ (q : Int) := by omega
              have hzb : a2 < wr.heap.size := by omega
              have hzn : nb + 1 < wr.heap.size := by omega
              go_wp2
              first | refine Zone.wp_region_all_gro (by kernel_rfl) (by kernel_rfl) ?_ | refine Zone.wp_region_all (by kernel_rfl) (by kernel_rfl) ?_
              repeat
                refine Zone.wpZ_step (fun K hK => ?_)
                go_simp
                first
                | (refine hK _ _ ?_; clear hK K)
                | (apply Exists.intro
                   refine ⟨fun p => ?_, hK _ _ ?_⟩
                   (fail)
                   clear hK K)
              refine Zone.wpZ_nil ?_
              intro p
              simp only [Zone.fill]
              go_wp2_with (at_builtin; refine Zone.hold ?_)
              refine Zone.unhold ?_
              have HO1 := HO.out.keep (show Keep wr ((wr.gro p).alloc (.cells #[.int .u8 y1.k, .int .i64 y1.n, .string y1.s] 51)) from (by repeat (first | exact Keep.refl _ | apply Keep.alloc | apply Keep.gro | apply Keep.drew | apply Keep.drewN)))
              refine wpList_app elt_val val_len val_one rfl (.tmp 93) (.tmp 101) rfl (ys := [y1]) HO1 rfl rfl (Zone.sl_one _ (by omega) (by omega) (val_at _ (by simp [go_sem]) (by simp [go_sem]) (by simp [go_sem]))) (by simp) (by simp [size_gro]; omega) ?_
              intro v3 w3 hown3 hg3 _
              have HK3 := Lib.hid (HO1.kept hg3 (HK.out.trans (by repeat (first | exact Keep.refl _ | apply Keep.alloc | apply Keep.gro | apply Keep.drew | apply Keep.drewN))) (Nat.le_refl _))
              have HO3 := Lib.hid hown3
              have hz3 := HK3.out.size
              clear HO1 hown3 hg3 x2 r0 v0 v1 v2 hrb hg hq hqi hwn hwi hnz hnz2 hqn0 hzb hzn HO HK hzr
              obtain ⟨tv, htv⟩ : ∃ tv, tk na b0 b1 b2 1 = tv := ⟨_, rfl⟩
              rw [htv]
              have HTV := Lib.hid htv
              clear htv
              go_wp2
              go_loopw [15, 105] (fun s15 i wq => ∃ mm : Nat, mm ≤ ra.length ∧ i = .int .i64 mm ∧ s15 = .bool (tv && wantF (ra.take mm) nB i1) ∧ Hid (Keep w3 wq)) (fun _ i _ => ra.length - (intOf i).toNat)
              case atStart => exact ⟨0, Nat.zero_le _, rfl, by simp [wantF], Keep.refl _⟩
              case round =>
                obtain ⟨mm, hmm, rfl, rfl, HKQ⟩ := hrel
                rename World => wq
                have HKZ := Lib.hid (HK3.out.trans HKQ.out)
                by_cases hltm : mm < ra.length
                · obtain ⟨gb, go', rfl, hgb, r0, r1⟩ := sl_rs (HSA.out.keep HKZ.out) mm hltm
                  obtain ⟨x, hxe, hxl⟩ := enc_out ra[mm].col
                  rw [hxe] at r0
                  have x0 := (HKZ.out.cell (World.block_lt_of_cell? _ _ HNC8.out)).trans HNC8.out
                  have hzq := HKZ.out.size
                  have hzn : nb + 1 < wq.heap.size := by omega
                  obtain ⟨b', o', e', hnb', x9⟩ := sl_nm (HNM8.out.keep HKZ.out) 1 (by decide)
                  injection e' with e'
                  injection e' with e1 e2 _
                  subst e1; subst e2
                  obtain ⟨yb, hye, hyl⟩ := enc_out nB
                  have x1 : wq.cell? ⟨nb, 1, none⟩ = some (.string yb) := by rw [Nat.zero_add] at x9; rw [← hye]; exact x9
                  have HYL := Lib.hid hyl
                  clear hye hyl x9
                  have HWS := Lib.hid (wantF_succ ra nB i1 mm hltm)
                  obtain ⟨hm1, hm2, hm3⟩ := HMAY.out ra[mm] (List.getElem_mem hltm)
                  have HM1 := Lib.hid (hm1.keep HKZ.out)
                  have HM2 := Lib.hid hm2
                  have HXL := Lib.hid hxl
                  obtain ⟨rg, hrg⟩ : ∃ rg, ra[mm].g = rg := ⟨_, rfl⟩
                  obtain ⟨rm, hrm⟩ : ∃ rm, ra[mm].may = rm := ⟨_, rfl⟩
                  rw [hrg, hrm] at HM1 r1
                  rw [hrm] at HM2 HWS hm3
                  clear hrg hrm hxe hxl hm1 hm2 HSA
                  obtain ⟨sv, hsv⟩ : ∃ sv, (tv && wantF (ra.take mm) nB i1) = sv := ⟨_, rfl⟩
                  rw [hsv]
                  have HSV := Lib.hid hsv
                  clear hsv
                  cases he : (x.toList == yb.toList)
                  · have HNE := Lib.hid (show (ra[mm].col != nB) = true by rw [HXL.out, HYL.out] at he; simpa [bne] using he)
                    go_wp2
                    first | refine Zone.wp_region_all_gro (by kernel_rfl) (by kernel_rfl) ?_ | refine Zone.wp_region_all (by kernel_rfl) (by kernel_rfl) ?_
                    repeat
                      refine Zone.wpZ_step (fun K hK => ?_)
                      go_simp
                      first
                      | (refine hK _ _ ?_; clear hK K)
                      | (apply Exists.intro
                         refine ⟨fun p => ?_, hK _ _ ?_⟩
                         (fail)
                         clear hK K)
                    refine Zone.wpZ_nil ?_
                    intro p2
                    simp only [Zone.fill]
                    go_wp2
                    go_roundw
                    case rel => exact ⟨mm + 1, by omega, by go_num, congrArg Value.bool (by rw [HWS.out, HNE.out, ← HSV.out]; simp), HKQ.out.trans (by repeat (first | exact Keep.refl _ | apply Keep.alloc | apply Keep.gro | apply Keep.drew | apply Keep.drewN))⟩
                    case measure => simp [intOf]; omega
                  · have hce : ra[mm].col = nB := by rw [HXL.out, HYL.out] at he; simpa using he
                    have HNE := Lib.hid (show (ra[mm].col != nB) = false by rw [hce]; simp)
                    have hrl : rm.length = n1 := by rw [HM2.out, hce]; exact HE1.out
                    obtain ⟨b', o', e', hb', m9⟩ := sl_bool HM1.out i1 (by omega)
                    injection e' with e'
                    injection e' with e1 e2 _
                    subst e1; subst e2
                    have HWS2 := Lib.hid (show wantF (ra.take (mm + 1)) nB i1 = (wantF (ra.take mm) nB i1 && rm[i1]'(by omega)) by rw [HWS.out, HNE.out, List.getD, List.getElem?_eq_getElem (by omega)]; rfl)
                    generalize hmb : rm[i1]'(by omega) = mb at m9 HWS2
                    simp only [Nat.zero_add] at m9
                    have hidr : i1 < rm.length := by omega
                    clear hce HWS HNE hmb hrl
                    cases sv
                    · go_wp2
                      first | refine Zone.wp_region_all_gro (by kernel_rfl) (by kernel_rfl) ?_ | refine Zone.wp_region_all (by kernel_rfl) (by kernel_rfl) ?_
                      repeat
                        refine Zone.wpZ_step (fun K hK => ?_)
                        go_simp
                        first
                        | (refine hK _ _ ?_; clear hK K)
                        | (apply Exists.intro
                           refine ⟨fun p => ?_, hK _ _ ?_⟩
                           (fail)
                           clear hK K)
                      refine Zone.wpZ_nil ?_
                      intro p2
                      simp only [Zone.fill]
                      go_wp2
                      go_roundw
                      case rel => exact ⟨mm + 1, by omega, by go_num, congrArg Value.bool (by rw [HWS2.out, ← Bool.and_assoc, HSV.out]; simp), HKQ.out.trans (by repeat (first | exact Keep.refl _ | apply Keep.alloc | apply Keep.gro | apply Keep.drew | apply Keep.drewN))⟩
                      case measure => simp [intOf]; omega
                    · go_wp2
                      first | refine Zone.wp_region_all_gro (by kernel_rfl) (by kernel_rfl) ?_ | refine Zone.wp_region_all (by kernel_rfl) (by kernel_rfl) ?_
                      repeat
                        refine Zone.wpZ_step (fun K hK => ?_)
                        go_simp
                        first
                        | (refine hK _ _ ?_; clear hK K)
                        | (apply Exists.intro
                           refine ⟨fun p => ?_, hK _ _ ?_⟩
                           (fail)
                           clear hK K)
                      refine Zone.wpZ_nil ?_
                      intro p2
                      simp only [Zone.fill]
                      go_wp2
                      go_roundw
                      case rel => exact ⟨mm + 1, by omega, by go_num, congrArg Value.bool (by rw [HWS2.out, ← Bool.and_assoc, HSV.out]; simp), HKQ.out.trans (by repeat (first | exact Keep.refl _ | apply Keep.alloc | apply Keep.gro | apply Keep.drew | apply Keep.drewN))⟩
                      case measure => simp [intOf]; omega
                · have hme : mm = ra.length := by omega
                  subst hme
                  rw [List.take_length, HB1.out]
                  have HO4 := Lib.hid (HO3.out.keep HKQ.out)
                  have HEND := Lib.hid (show tk na b0 b1 b2 (1 + 1) = (tv && b1) by rw [← HTV.out]; rfl)
                  clear HSA HO3
                  go_wp2
                  go_roundw
                  case rel => exact ⟨1 + 1, by omega, by go_num, HO4.out, by rw [HEND.out], HKZ.out⟩
                  case measure => simp [intOf]
            · rw [show ((2 : Nat) : Int) = (2 : Int) from rfl]
              have x2 := (HK.out.cell (World.block_lt_of_cell? _ _ (HX2d.out 2 _ rfl))).trans (HX2d.out 2 _ rfl)
              obtain ⟨rb, ro, rfl, hrb, r0⟩ := sl_rowm (HRW.out.keep HK.out) 2 (by simp)
              simp only [List.getElem_cons_zero, List.getElem_cons_succ, Nat.add_zero] at r0
              obtain ⟨g, off, hRA, hg, v0, v1, v2⟩ := sl_val (HR2.out.keep HK.out) i2 HJ2.out
              rw [hRA, HE2.out] at r0
              rw [HY2.out] at v0 v1 v2
              obtain ⟨q, hq⟩ : ∃ q : Nat, IntKind.u64.wrap t2 = (q : Int) := u64_nat t2
              have hqi : (q : Int).tmod (n2 : Int) = (i2 : Int) := by have h1 := HQ2.out; rw [hq] at h1; rw [h1]; simp; rfl
              have hn60 : n2 ≤ 60 := hl3.2.2
              have hwn : IntKind.u64.wrap (n2 : Int) = (n2 : Int) := IntWalk.u64_in _ ⟨by omega, by omega⟩
              have hwi : IntKind.i64.wrap (i2 : Int) = (i2 : Int) := IntWalk.i64_in _ ⟨by omega, by omega⟩
              clear hRA
              have hnz : ¬ (((n2 : Nat) : Int) = 0) := by omega
              have hnz2 : ¬ (n2 = 0) := by omega
              have hqn0 : (0 : Int) ≤ (q : Int) := by omega
              have hzb : a2 < wr.heap.size := by omega
              have hzn : nb + 1 < wr.heap.size := by omega
              go_wp2
              first | refine Zone.wp_region_all_gro (by kernel_rfl) (by kernel_rfl) ?_ | refine Zone.wp_region_all (by kernel_rfl) (by kernel_rfl) ?_
              repeat
                refine Zone.wpZ_step (fun K hK => ?_)
                go_simp
                first
                | (refine hK _ _ ?_; clear hK K)
                | (apply Exists.intro
                   refine ⟨fun p => ?_, hK _ _ ?_⟩
                   (fail)
                   clear hK K)
              refine Zone.wpZ_nil ?_
              intro p
              simp only [Zone.fill]
              go_wp2_with (at_builtin; refine Zone.hold ?_)
              refine Zone.unhold ?_
              have HO1 := HO.out.keep (show Keep wr ((wr.gro p).alloc (.cells #[.int .u8 y2.k, .int .i64 y2.n, .string y2.s] 51)) from (by repeat (first | exact Keep.refl _ | apply Keep.alloc | apply Keep.gro | apply Keep.drew | apply Keep.drewN)))
              refine wpList_app elt_val val_len val_one rfl (.tmp 93) (.tmp 101) rfl (ys := [y2]) HO1 rfl rfl (Zone.sl_one _ (by omega) (by omega) (val_at _ (by simp [go_sem]) (by simp [go_sem]) (by simp [go_sem]))) (by simp) (by simp [size_gro]; omega) ?_
              intro v3 w3 hown3 hg3 _
              have HK3 := Lib.hid (HO1.kept hg3 (HK.out.trans (by repeat (first | exact Keep.refl _ | apply Keep.alloc | apply Keep.gro | apply Keep.drew | apply Keep.drewN))) (Nat.le_refl _))
              have HO3 := Lib.hid hown3
              have hz3 := HK3.out.size
              clear HO1 hown3 hg3 x2 r0 v0 v1 v2 hrb hg hq hqi hwn hwi hnz hnz2 hqn0 hzb hzn HO HK hzr
              obtain ⟨tv, htv⟩ : ∃ tv, tk na b0 b1 b2 2 = tv := ⟨_, rfl⟩
              rw [htv]
              have HTV := Lib.hid htv
              clear htv
              go_wp2
              go_loopw [15, 105] (fun s15 i wq => ∃ mm : Nat, mm ≤ ra.length ∧ i = .int .i64 mm ∧ s15 = .bool (tv && wantF (ra.take mm) nC i2) ∧ Hid (Keep w3 wq)) (fun _ i _ => ra.length - (intOf i).toNat)
              case atStart => exact ⟨0, Nat.zero_le _, rfl, by simp [wantF], Keep.refl _⟩
              case round =>
                obtain ⟨mm, hmm, rfl, rfl, HKQ⟩ := hrel
                rename World => wq
                have HKZ := Lib.hid (HK3.out.trans HKQ.out)
                by_cases hltm : mm < ra.length
                · obtain ⟨gb, go', rfl, hgb, r0, r1⟩ := sl_rs (HSA.out.keep HKZ.out) mm hltm
                  obtain ⟨x, hxe, hxl⟩ := enc_out ra[mm].col
                  rw [hxe] at r0
                  have x0 := (HKZ.out.cell (World.block_lt_of_cell? _ _ HNC8.out)).trans HNC8.out
                  have hzq := HKZ.out.size
                  have hzn : nb + 1 < wq.heap.size := by omega
                  obtain ⟨b', o', e', hnb', x9⟩ := sl_nm (HNM8.out.keep HKZ.out) 2 (by decide)
                  injection e' with e'
                  injection e' with e1 e2 _
                  subst e1; subst e2
                  obtain ⟨yb, hye, hyl⟩ := enc_out nC
                  have x1 : wq.cell? ⟨nb, 2, none⟩ = some (.string yb) := by rw [Nat.zero_add] at x9; rw [← hye]; exact x9
                  have HYL := Lib.hid hyl
                  clear hye hyl x9
                  have HWS := Lib.hid (wantF_succ ra nC i2 mm hltm)
                  obtain ⟨hm1, hm2, hm3⟩ := HMAY.out ra[mm] (List.getElem_mem hltm)
                  have HM1 := Lib.hid (hm1.keep HKZ.out)
                  have HM2 := Lib.hid hm2
                  have HXL := Lib.hid hxl
                  obtain ⟨rg, hrg⟩ : ∃ rg, ra[mm].g = rg := ⟨_, rfl⟩
                  obtain ⟨rm, hrm⟩ : ∃ rm, ra[mm].may = rm := ⟨_, rfl⟩
                  rw [hrg, hrm] at HM1 r1
                  rw [hrm] at HM2 HWS hm3
                  clear hrg hrm hxe hxl hm1 hm2 HSA
                  obtain ⟨sv, hsv⟩ : ∃ sv, (tv && wantF (ra.take mm) nC i2) = sv := ⟨_, rfl⟩
                  rw [hsv]
                  have HSV := Lib.hid hsv
                  clear hsv
                  cases he : (x.toList == yb.toList)
                  · have HNE := Lib.hid (show (ra[mm].col != nC) = true by rw [HXL.out, HYL.out] at he; simpa [bne] using he)
                    go_wp2
                    first | refine Zone.wp_region_all_gro (by kernel_rfl) (by kernel_rfl) ?_ | refine Zone.wp_region_all (by kernel_rfl) (by kernel_rfl) ?_
                    repeat
                      refine Zone.wpZ_step (fun K hK => ?_)
                      go_simp
                      first
                      | (refine hK _ _ ?_; clear hK K)
                      | (apply Exists.intro
                         refine ⟨fun p => ?_, hK _ _ ?_⟩
                         (fail)
                         clear hK K)
                    refine Zone.wpZ_nil ?_
                    intro p2
                    simp only [Zone.fill]
                    go_wp2
                    go_roundw
                    case rel => exact ⟨mm + 1, by omega, by go_num, congrArg Value.bool (by rw [HWS.out, HNE.out, ← HSV.out]; simp), HKQ.out.trans (by repeat (first | exact Keep.refl _ | apply Keep.alloc | apply Keep.gro | apply Keep.drew | apply Keep.drewN))⟩
                    case measure => simp [intOf]; omega
                  · have hce : ra[mm].col = nC := by rw [HXL.out, HYL.out] at he; simpa using he
                    have HNE := Lib.hid (show (ra[mm].col != nC) = false by rw [hce]; simp)
                    have hrl : rm.length = n2 := by rw [HM2.out, hce]; exact HE2.out
                    obtain ⟨b', o', e', hb', m9⟩ := sl_bool HM1.out i2 (by omega)
                    injection e' with e'
                    injection e' with e1 e2 _
                    subst e1; subst e2
                    have HWS2 := Lib.hid (show wantF (ra.take (mm + 1)) nC i2 = (wantF (ra.take mm) nC i2 && rm[i2]'(by omega)) by rw [HWS.out, HNE.out, List.getD, List.getElem?_eq_getElem (by omega)]; rfl)
                    generalize hmb : rm[i2]'(by omega) = mb at m9 HWS2
                    simp only [Nat.zero_add] at m9
                    have hidr : i2 < rm.length := by omega
                    clear hce HWS HNE hmb hrl
                    cases sv
                    · go_wp2
                      first | refine Zone.wp_region_all_gro (by kernel_rfl) (by kernel_rfl) ?_ | refine Zone.wp_region_all (by kernel_rfl) (by kernel_rfl) ?_
                      repeat
                        refine Zone.wpZ_step (fun K hK => ?_)
                        go_simp
                        first
                        | (refine hK _ _ ?_; clear hK K)
                        | (apply Exists.intro
                           refine ⟨fun p => ?_, hK _ _ ?_⟩
                           (fail)
                           clear hK K)
                      refine Zone.wpZ_nil ?_
                      intro p2
                      simp only [Zone.fill]
                      go_wp2
                      go_roundw
                      case rel => exact ⟨mm + 1, by omega, by go_num, congrArg Value.bool (by rw [HWS2.out, ← Bool.and_assoc, HSV.out]; simp), HKQ.out.trans (by repeat (first | exact Keep.refl _ | apply Keep.alloc | apply Keep.gro | apply Keep.drew | apply Keep.drewN))⟩
                      case measure => simp [intOf]; omega
                    · go_wp2
                      first | refine Zone.wp_region_all_gro (by kernel_rfl) (by kernel_rfl) ?_ | refine Zone.wp_region_all (by kernel_rfl) (by kernel_rfl) ?_
                      repeat
                        refine Zone.wpZ_step (fun K hK => ?_)
                        go_simp
                        first
                        | (refine hK _ _ ?_; clear hK K)
                        | (apply Exists.intro
                           refine ⟨fun p => ?_, hK _ _ ?_⟩
                           (fail)
                           clear hK K)
                      refine Zone.wpZ_nil ?_
                      intro p2
                      simp only [Zone.fill]
                      go_wp2
                      go_roundw
                      case rel => exact ⟨mm + 1, by omega, by go_num, congrArg Value.bool (by rw [HWS2.out, ← Bool.and_assoc, HSV.out]; simp), HKQ.out.trans (by repeat (first | exact Keep.refl _ | apply Keep.alloc | apply Keep.gro | apply Keep.drew | apply Keep.drewN))⟩
                      case measure => simp [intOf]; omega
                · have hme : mm = ra.length := by omega
                  subst hme
                  rw [List.take_length, HB2.out]
                  have HO4 := Lib.hid (HO3.out.keep HKQ.out)
                  have HEND := Lib.hid (show tk na b0 b1 b2 (2 + 1) = (tv && b2) by rw [← HTV.out]; rfl)
                  clear HSA HO3
                  go_wp2
                  go_roundw
                  case rel => exact ⟨2 + 1, by omega, by go_num, HO4.out, by rw [HEND.out], HKZ.out⟩
                  case measure => simp [intOf]
            · obtain ⟨T, hT⟩ : ∃ T, takesR colsC [y0, y1, y2, ⟨1, 0, ⟨#[]⟩⟩] f = T := ⟨_, rfl⟩
              have hTk : tk na b0 b1 b2 3 = T := by
                have h1 := HLAW.out
                rw [hT] at h1
                rw [h1]
                simp [tk, Bool.and_assoc]
              rw [hTk]
              have HT := Lib.hid hT
              clear hT hTk
              go_wp2_with (at_builtin; refine Zone.hold ?_)
              refine Zone.unhold ?_
              have HO1 := HO.out.keep (show Keep wr (wr.alloc (.cells #[.int .u8 1, .int .i64 0, .string ⟨#[]⟩] 51)) from (by repeat (first | exact Keep.refl _ | apply Keep.alloc | apply Keep.gro | apply Keep.drew | apply Keep.drewN)))
              refine wpList_app elt_val val_len val_one rfl (.tmp 141) (.tmp 143) rfl (ys := [⟨1, 0, ⟨#[]⟩⟩]) HO1 rfl rfl (Zone.sl_one _ (by omega) (by omega) (val_at _ (by simp [go_sem]) (by simp [go_sem]) (by simp [go_sem]))) (by simp) (by simp; omega) ?_
              intro v4 w4 hown4 hg4 _
              have HK4 := Lib.hid (HO1.kept hg4 (HK.out.trans (by repeat (first | exact Keep.refl _ | apply Keep.alloc | apply Keep.gro | apply Keep.drew | apply Keep.drewN))) (Nat.le_refl _))
              obtain ⟨A4, c4, rfl, hs4⟩ := hown4.sl val_len (by simp)
              have HS4 := Lib.hid (show Sl w4 3 Val.cells A4 c4 [y0, y1, y2, ⟨1, 0, ⟨#[]⟩⟩] from hs4)
              have hrow := (show ∀ x ∈ [y0, y1, y2, (⟨1, 0, ⟨#[]⟩⟩ : Val)], x.s.size ≤ maxLen from by
                intro x hx
                simp only [List.mem_cons, List.not_mem_nil, or_false] at hx
                rcases hx with rfl | rfl | rfl | rfl
                · rw [← HY0.out]; exact HSZ.out.1 _ (List.getElem_mem _)
                · rw [← HY1.out]; exact HSZ.out.2.1 _ (List.getElem_mem _)
                · rw [← HY2.out]; exact HSZ.out.2.2 _ (List.getElem_mem _)
                · exact Nat.zero_le _)
              have HRO := Lib.hid hrow
              have HXF := Lib.hid (HX1d.out.keep' HK4.out)
              have HFF := Lib.hid (HF8.out.keep HK4.out)
              have hz4 := HK4.out.size
              clear HO1 hown4 hg4 hs4 hrow HO HK hzr
              simp only [List.length_append, List.length_take, List.length_cons, List.length_nil]
              have x10 := HXF.out 0 _ rfl
              have x11 := HXF.out 1 _ rfl
              have x12 := HXF.out 2 _ rfl
              have x13 := HXF.out 3 _ rfl
              have x14 := HXF.out 4 _ rfl
              have hzf4 : a1 < w4.heap.size := by omega
              go_upto_region 23 with fail
              first | refine Zone.wp_region_all_gro (by kernel_rfl) (by kernel_rfl) ?_ | refine Zone.wp_region_all (by kernel_rfl) (by kernel_rfl) ?_
              refine Zone.wpZ_free 145 (fun u W => ∃ g, u = .slice (some ⟨g, 0, none⟩) 4 4 ∧ Sl W 2 Col.cells (some ⟨g, 0, none⟩) 4 colsC) rfl (fun _ W W' hk ⟨g, h1, h2⟩ => ⟨g, h1, h2.keep hk⟩) ?_ ?_
              · intro p
                rw [Zone.lookFs_nil (by rfl)]
                simp only [Zone.fill]
                go_simp
                go_at_call 22
                refine (cols25_any _).mono ?_
                rintro e w8 ⟨rfl, hs, hk⟩
                exact ⟨_, rfl, ⟨_, rfl, hs⟩, hk⟩
              refine Zone.wpZ_step (fun K hK => ?_)
              unfold Zone.zone Zone.stepZ
              rw [Zone.lookFs_nil (by rfl)]
              go_simp
              (refine hK _ _ ?_; clear hK K)
              refine Zone.wpZ_step (fun K hK => ?_)
              unfold Zone.zone Zone.stepZ
              rw [Zone.lookFs_nil (by rfl)]
              go_simp
              (refine hK _ _ ?_; clear hK K)
              refine Zone.wpZ_step (fun K hK => ?_)
              refine Zone.zone_free1 (.bool T) (d := 145) (by rfl) (fun p u hu => ?_) (hK _ _ ?_)
              · obtain ⟨g8, rfl, hs⟩ := hu
                go_simp
                go_at_call 21
                have h9 := rtakes_any (w4.gro p) w2.heap.size (some ⟨g8, 0, none⟩) 4 colsC A4 c4 [y0, y1, y2, ⟨1, 0, ⟨#[]⟩⟩] hs (HS4.out.keep (below_gro w4 p)) rfl HRO.out f (HFF.out.keep (below_gro w4 p)) (w4.gro p) 1 (Keep.refl _) HWF.out
                rw [HT.out] at h9
                exact Zone.zc h9
              clear hK K
              clear x10 x11 x12 x13 x14
              refine Zone.wpZ_step (fun K hK => ?_)
              unfold Zone.zone Zone.stepZ
              rw [Zone.lookFs_nil (by rfl)]
              go_simp
              (refine hK _ _ ?_; clear hK K)
              refine Zone.wpZ_step (fun K hK => ?_)
              unfold Zone.zone Zone.stepZ
              rw [Zone.lookFs_nil (by rfl)]
              go_simp
              (refine hK _ _ ?_; clear hK K)
              refine Zone.wpZ_step (fun K hK => ?_)
              unfold Zone.zone Zone.stepZ
              rw [Zone.lookFs_nil (by rfl)]
              go_simp
              (refine hK _ _ ?_; clear hK K)
              refine Zone.wpZ_step (fun K hK => ?_)
              unfold Zone.zone Zone.stepZ
              rw [Zone.lookFs_nil (by rfl)]
              apply Exists.intro
              refine ⟨fun p => ?_, hK _ _ ?_⟩
              · simp only [Zone.fill]
                go_simp
                go_at_call 8
                exact Zone.zc (KN.out _)
              clear hK K
              refine Zone.wpZ_step (fun K hK => ?_)
              unfold Zone.zone Zone.stepZ
              rw [Zone.lookFs_nil (by rfl)]
              go_simp
              (refine hK _ _ ?_; clear hK K)
              refine Zone.wpZ_step (fun K hK => ?_)
              unfold Zone.zone Zone.stepZ
              rw [Zone.lookFs_nil (by rfl)]
              go_simp
              (refine hK _ _ ?_; clear hK K)
              refine Zone.wpZ_nil ?_
              intro p
              simp only [Zone.fill]
              rintro v145 _
              have HG := Lib.hid (HK4.out.trans (below_gro w4 p))
              generalize w4.gro p = w9 at HG ⊢
              go_simp
              go_wp2
              go_ret
              exact ⟨rfl, HKX.out.trans HG.out⟩
      · go_wp2_with (go_at_call 8; refine (KN.out _).mono ?_; rintro e w' ⟨rfl, hk⟩; (first | obtain ⟨p, rfl⟩ := Zone.gro_of_gro _ _ hk | obtain ⟨p, rfl⟩ := Zone.gro_of_below _ hk); clear hk)
        go_ret
        exact ⟨rfl, HKW.out.trans (HKQ.out.trans (by repeat (first | exact Keep.refl _ | apply Keep.alloc | apply Keep.gro | apply Keep.drew | apply Keep.drewN)))⟩
end Go.Proofs.YthigflnfccajoaaGreat
