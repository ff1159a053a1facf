
/- IdsAnd: the law answers true. -/
import Derived.WalkKit
import Derived.Lib.Hide
import Derived.WalkSpells
import Derived.WalkLawsBesides
import Derived.BigQuiet
import Derived.Shelf.Abstract
import Derived.Deep.CutRange
import Derived.Deep.DeepCutAuto
import Derived.Test.YthigflnfccajoaaGreatAa
import Derived.Test.YthigflnfccajoaaGreatRval
import Derived.Test.YthigflnfccajoaaGreatIknw
namespace Go.Proofs.YthigflnfccajoaaGreat
open Go.RowKit Go.Zone Go.Shelf
attribute [local go_sem] Zone.zone Zone.stepZ Zone.fill Zone.lookFs Zone.goes Zone.goesUpon Zone.dropFs Zone.cell_gro Zone.frozen_gro Zone.size_gro Zone.lt_add Zone.drew_gro Zone.tape_gro Zone.keep_refl
attribute [local go_sem] Zone.lt_add2 Zone.lt_add3 Zone.lt_add4 Zone.lt_add5 Zone.lt_add6 Zone.lt_add7 Zone.lt_add8 Zone.lt_add9 Zone.lt_add10 Zone.lt_add11 Zone.lt_add12
theorem sz_le_size (n : Nd) : n.sz ≤ sizeF n := by
  have h : ∀ l : List Nd, (∀ k ∈ l, k.sz ≤ sizeF k) → (l.map Nd.sz).sum ≤ (l.map sizeF).sum := by
    intro l
    induction l with
    | nil => intro _; simp
    | cons x r ih =>
      intro hx
      have h1 := hx x (by simp)
      have h2 := ih fun k hk => hx k (by simp [hk])
      simp only [List.map_cons, List.sum_cons]
      omega
  rw [sz_eq, sizeF_eq]
  have := h n.kids fun k hk => sz_le_size k
  omega
termination_by SizeOf.sizeOf n
decreasing_by exact kid_lt hk
theorem RestR.keep {w w' : World} {base : Nat} {dk : Nm → Int} {dy : Nm → List Val} {f : Nd} {v : Value} {no ok : Bool} (h : RestR base dk dy f v no ok w) (hk : Keep w w') : RestR base dk dy f v no ok w' := by
  rcases h with h | ⟨h, ps, rs, h1, h2, h3, h4⟩
  · exact .inl h
  · exact .inr ⟨h, ps, rs, h1, h2, h3.keep hk, h4⟩
theorem RestR.no_ {w : World} {base : Nat} {dk : Nm → Int} {dy : Nm → List Val} {f : Nd} {v : Value} {no : Bool} (h : RestR base dk dy f v no false w) : partsOf f = none := by
  rcases h with h | ⟨h, _⟩
  · exact h.2.2.1
  · cases h
theorem RestR.yes {w : World} {base : Nat} {dk : Nm → Int} {dy : Nm → List Val} {f : Nd} {v : Value} {no : Bool} (h : RestR base dk dy f v no true w) : ∃ ps rs, partsOf f = some ps ∧ no = nothTo ps ∧ RL w base v rs ∧ rs.map (fun r => (r.col, r.may)) = (colsOf f).map fun s => (s, mayTo dk dy s ps) := by
  rcases h with h | ⟨_, h⟩
  · cases h.1
  · exact h
theorem Made.keep {w w' : World} {P R : Value} {xs0 xs1 xs2 : List Val} {ms : List Mc} (h : Made w P R xs0 xs1 xs2 ms) (hk : Keep w w') : Made w' P R xs0 xs1 xs2 ms :=
  ⟨h.len, by obtain ⟨A, c, e, hs⟩ := h.ptrs; exact ⟨A, c, e, hs.keep hk⟩, by obtain ⟨A, c, e, hs⟩ := h.rows; exact ⟨A, c, e, hs.keep hk⟩, fun j hj => ⟨(h.ok j hj).1.keep hk, (h.ok j hj).2⟩, h.fit⟩
set_option maxRecDepth 100000 in
set_option maxHeartbeats 8000000 in
theorem and_any (A0 : Option Addr) (c0 : Nat) (xs0 : List Val) (A1 : Option Addr) (c1 : Nat) (xs1 : List Val) (A2 : Option Addr) (c2 : Nat) (xs2 : List Val) (f g : Nd) (w : World) (h0 : Sl w 3 Val.cells A0 c0 xs0) (h1 : Sl w 3 Val.cells A1 c1 xs1) (h2 : Sl w 3 Val.cells A2 c2 xs2)
    (hw0 : ∀ x ∈ xs0, x.s.size ≤ maxLen) (hw1 : ∀ x ∈ xs1, x.s.size ≤ maxLen) (hw2 : ∀ x ∈ xs2, x.s.size ≤ maxLen) (hf : Nd.In w w.heap.size f) (hg : Nd.In w w.heap.size g) (hsf : sizeF f ≤ 10000000) (hsg : sizeF g ≤ 10000000) :
    Calls Tryz.prog 5 #[.agg #[.slice A0 xs0.length c0, .slice A1 xs1.length c1, .slice A2 xs2.length c2], f.v, g.v] w fun e w' => e = .returned (.bool true) ∧ Keep w w' := by
  have HMADE := Lib.hid (fun W (hW : Keep w W) => made_any A0 c0 xs0 A1 c1 xs1 A2 c2 xs2 W (h0.keep hW) (h1.keep hW) (h2.keep hW) hw0 hw1 hw2)
  have HF := Lib.hid hf
  have HG := Lib.hid hg
  have hl0 := h0.len
  have hl1 := h1.len
  have hl2 := h2.len
  have hkl := hf.kids_.len
  have hvl := hf.vals_.len
  have hkl2 := hg.kids_.len
  have hvl2 := hg.vals_.len
  have KN := Lib.hid (fun W => known25_any W)
  clear h0 h1 h2 hw0 hw1 hw2 hf hg
  have ef : f.v = .agg #[.int .u8 f.op, .slice f.A f.kids.length f.c, .string f.col, .int .u8 f.cmp, .slice f.B f.vals.length f.d] := rfl
  have eg : g.v = .agg #[.int .u8 g.op, .slice g.A g.kids.length g.c, .string g.col, .int .u8 g.cmp, .slice g.B g.vals.length g.d] := rfl
  rw [ef, eg]
  clear ef eg
  go_enter Tryz.func5, Tryz.ntmps5
  go_wp2_with (go_at_call 6; refine Zone.hold ?_)
  refine Zone.unhold ?_
  refine (HMADE.out _ (by repeat (first | exact Keep.refl _ | apply Keep.alloc | apply Keep.gro | apply Keep.drew | apply Keep.drewN))).mono ?_
  rintro e w1 (⟨rfl, hk1⟩ | ⟨P, R, ms, rfl, hm, hk1⟩)
  · have HK1 := Lib.hid (Keep.trans (show Keep w _ from (by repeat (first | exact Keep.refl _ | apply Keep.alloc | apply Keep.gro | apply Keep.drew | apply Keep.drewN))) hk1)
    have ha1 : w.heap.size + 1 < w1.heap.size := by have := hk1.size; simp at this; omega
    have ha2 : w.heap.size + 1 + 1 < w1.heap.size := by have := hk1.size; simp at this; omega
    have HX1 := Lib.hid (show At w1 (w.heap.size + 1) [.int .u8 f.op, .slice f.A f.kids.length f.c, .string f.col, .int .u8 f.cmp, .slice f.B f.vals.length f.d] from At.keep hk1 (by
      have := (at_alloc (w.alloc (.cells #[.slice A0 xs0.length c0, .slice A1 xs1.length c1, .slice A2 xs2.length c2] 24)) [.int .u8 f.op, .slice f.A f.kids.length f.c, .string f.col, .int .u8 f.cmp, .slice f.B f.vals.length f.d] 27).keep' (Keep.alloc (Keep.refl _) (.cells #[.int .u8 g.op, .slice g.A g.kids.length g.c, .string g.col, .int .u8 g.cmp, .slice g.B g.vals.length g.d] 27))
      simpa only [World.size_alloc] using this))
    have HX2 := Lib.hid (show At w1 (w.heap.size + 1 + 1) [.int .u8 g.op, .slice g.A g.kids.length g.c, .string g.col, .int .u8 g.cmp, .slice g.B g.vals.length g.d] from At.keep hk1 (by
      have := at_alloc ((w.alloc (.cells #[.slice A0 xs0.length c0, .slice A1 xs1.length c1, .slice A2 xs2.length c2] 24)).alloc (.cells #[.int .u8 f.op, .slice f.A f.kids.length f.c, .string f.col, .int .u8 f.cmp, .slice f.B f.vals.length f.d] 27)) [.int .u8 g.op, .slice g.A g.kids.length g.c, .string g.col, .int .u8 g.cmp, .slice g.B g.vals.length g.d] 27
      simpa only [World.size_alloc] using this))
    clear hk1
    generalize w.heap.size + 1 + 1 = a2 at ha2 HX2 ⊢
    generalize w.heap.size + 1 = a1 at ha1 HX1 ⊢
    have x10 := HX1.out 0 _ rfl
    have x11 := HX1.out 1 _ rfl
    have x12 := HX1.out 2 _ rfl
    have x13 := HX1.out 3 _ rfl
    have x14 := HX1.out 4 _ rfl
    have x20 := HX2.out 0 _ rfl
    have x21 := HX2.out 1 _ rfl
    have x22 := HX2.out 2 _ rfl
    have x23 := HX2.out 3 _ rfl
    have x24 := HX2.out 4 _ rfl
    go_wp2_with (go_at_call 8; refine (KN.out _).mono ?_; rintro e w' ⟨rfl, hk⟩; (first | obtain ⟨p, rfl⟩ := Zone.gro_of_gro _ _ hk | obtain ⟨p, rfl⟩ := Zone.gro_of_below _ hk); clear hk)
    go_ret
    exact ⟨rfl, HK1.out.trans (by repeat (first | exact Keep.refl _ | apply Keep.alloc | apply Keep.gro | apply Keep.drew | apply Keep.drewN))⟩
  · have HK1 := Lib.hid (Keep.trans (show Keep w _ from (by repeat (first | exact Keep.refl _ | apply Keep.alloc | apply Keep.gro | apply Keep.drew | apply Keep.drewN))) hk1)
    have HM := Lib.hid hm
    obtain ⟨A, c, rfl, _⟩ := hm.ptrs
    obtain ⟨m0, m1, m2, rfl⟩ : ∃ m0 m1 m2, ms = [m0, m1, m2] := by
      have := hm.len
      match ms, this with
      | [a, b, c], _ => exact ⟨a, b, c, rfl⟩
    have ha1 : w.heap.size + 1 < w1.heap.size := by have := hk1.size; simp at this; omega
    have ha2 : w.heap.size + 1 + 1 < w1.heap.size := by have := hk1.size; simp at this; omega
    have HX1 := Lib.hid (show At w1 (w.heap.size + 1) [.int .u8 f.op, .slice f.A f.kids.length f.c, .string f.col, .int .u8 f.cmp, .slice f.B f.vals.length f.d] from At.keep hk1 (by
      have := (at_alloc (w.alloc (.cells #[.slice A0 xs0.length c0, .slice A1 xs1.length c1, .slice A2 xs2.length c2] 24)) [.int .u8 f.op, .slice f.A f.kids.length f.c, .string f.col, .int .u8 f.cmp, .slice f.B f.vals.length f.d] 27).keep' (Keep.alloc (Keep.refl _) (.cells #[.int .u8 g.op, .slice g.A g.kids.length g.c, .string g.col, .int .u8 g.cmp, .slice g.B g.vals.length g.d] 27))
      simpa only [World.size_alloc] using this))
    have HX2 := Lib.hid (show At w1 (w.heap.size + 1 + 1) [.int .u8 g.op, .slice g.A g.kids.length g.c, .string g.col, .int .u8 g.cmp, .slice g.B g.vals.length g.d] from At.keep hk1 (by
      have := at_alloc ((w.alloc (.cells #[.slice A0 xs0.length c0, .slice A1 xs1.length c1, .slice A2 xs2.length c2] 24)).alloc (.cells #[.int .u8 f.op, .slice f.A f.kids.length f.c, .string f.col, .int .u8 f.cmp, .slice f.B f.vals.length f.d] 27)) [.int .u8 g.op, .slice g.A g.kids.length g.c, .string g.col, .int .u8 g.cmp, .slice g.B g.vals.length g.d] 27
      simpa only [World.size_alloc] using this))
    clear hk1 hm
    generalize w.heap.size + 1 + 1 = a2 at ha2 HX2 ⊢
    generalize w.heap.size + 1 = a1 at ha1 HX1 ⊢
    have x10 := HX1.out 0 _ rfl
    have x11 := HX1.out 1 _ rfl
    have x12 := HX1.out 2 _ rfl
    have x13 := HX1.out 3 _ rfl
    have x14 := HX1.out 4 _ rfl
    have x20 := HX2.out 0 _ rfl
    have x21 := HX2.out 1 _ rfl
    have x22 := HX2.out 2 _ rfl
    have x23 := HX2.out 3 _ rfl
    have x24 := HX2.out 4 _ rfl
    go_upto_region 3 with fail
    have HKA := Lib.hid (show Keep w1 (((w1.alloc (.cells #[.slice A 3 c] 28)).alloc (.cells #[.int .u8 f.op, .slice f.A f.kids.length f.c, .string f.col, .int .u8 f.cmp, .slice f.B f.vals.length f.d, .int .u8 g.op, .slice g.A g.kids.length g.c, .string g.col, .int .u8 g.cmp, .slice g.B g.vals.length g.d] 27)).alloc (.cells #[.int .u8 1, .slice (some ⟨w1.heap.size + 1, 0, none⟩) 2 2, .string ⟨#[]⟩, .int .u8 0, .slice none 0 0] 27)) from (by repeat (first | exact Keep.refl _ | apply Keep.alloc | apply Keep.gro | apply Keep.drew | apply Keep.drewN)))
    have hcl : (((w1.alloc (.cells #[.slice A 3 c] 28)).alloc (.cells #[.int .u8 f.op, .slice f.A f.kids.length f.c, .string f.col, .int .u8 f.cmp, .slice f.B f.vals.length f.d, .int .u8 g.op, .slice g.A g.kids.length g.c, .string g.col, .int .u8 g.cmp, .slice g.B g.vals.length g.d] 27)).alloc (.cells #[.int .u8 1, .slice (some ⟨w1.heap.size + 1, 0, none⟩) 2 2, .string ⟨#[]⟩, .int .u8 0, .slice none 0 0] 27)).cell? ⟨w1.heap.size, 0, none⟩ = some (.slice A 3 c) := by simp [go_sem]
    have hxk := (at_alloc (w1.alloc (.cells #[.slice A 3 c] 28)) [.int .u8 f.op, .slice f.A f.kids.length f.c, .string f.col, .int .u8 f.cmp, .slice f.B f.vals.length f.d, .int .u8 g.op, .slice g.A g.kids.length g.c, .string g.col, .int .u8 g.cmp, .slice g.B g.vals.length g.d] 27).keep' (Keep.alloc (Keep.refl _) (.cells #[.int .u8 1, .slice (some ⟨w1.heap.size + 1, 0, none⟩) 2 2, .string ⟨#[]⟩, .int .u8 0, .slice none 0 0] 27))
    have hxb := at_alloc ((w1.alloc (.cells #[.slice A 3 c] 28)).alloc (.cells #[.int .u8 f.op, .slice f.A f.kids.length f.c, .string f.col, .int .u8 f.cmp, .slice f.B f.vals.length f.d, .int .u8 g.op, .slice g.A g.kids.length g.c, .string g.col, .int .u8 g.cmp, .slice g.B g.vals.length g.d] 27)) [.int .u8 1, .slice (some ⟨w1.heap.size + 1, 0, none⟩) 2 2, .string ⟨#[]⟩, .int .u8 0, .slice none 0 0] 27
    have hz2 : w1.heap.size + 1 + 1 < (((w1.alloc (.cells #[.slice A 3 c] 28)).alloc (.cells #[.int .u8 f.op, .slice f.A f.kids.length f.c, .string f.col, .int .u8 f.cmp, .slice f.B f.vals.length f.d, .int .u8 g.op, .slice g.A g.kids.length g.c, .string g.col, .int .u8 g.cmp, .slice g.B g.vals.length g.d] 27)).alloc (.cells #[.int .u8 1, .slice (some ⟨w1.heap.size + 1, 0, none⟩) 2 2, .string ⟨#[]⟩, .int .u8 0, .slice none 0 0] 27)).heap.size := by simp
    simp only [World.size_alloc] at hxk hxb
    generalize hw2 : World.alloc (World.alloc (World.alloc w1 _) _) _ = w2 at HKA hcl hxk hxb hz2 ⊢
    clear hw2 x10 x11 x12 x13 x14 x20 x21 x22 x23 x24
    generalize w1.heap.size = bl at hcl hxk hxb hz2 ha1 ha2 ⊢
    have HX1b := Lib.hid (HX1.out.keep' HKA.out)
    have HX2b := Lib.hid (HX2.out.keep' HKA.out)
    have HXB := Lib.hid hxb
    have HKW := Lib.hid (HK1.out.trans HKA.out)
    have HCL := Lib.hid hcl
    have HMB := Lib.hid (HM.out.keep HKA.out)
    have HFB := Lib.hid ((HF.out.keep HKW.out).fresh (Nat.le_refl _))
    have HGB := Lib.hid ((HG.out.keep HKW.out).fresh (Nat.le_refl _))
    have HNB := Lib.hid (show Nd.In w2 w2.heap.size (bothN (bl + 1) f g) from .mk _ (sl_blk (k := 5) (enc := Nd.cells) (xs := [f, g]) (fun _ => rfl) hxk (by simp)) (Sl.nil_ _ (by simp [bothN])) (fun g' off e _ => by simp [bothN] at e; omega) (fun g' off e _ => by simp [bothN] at e) (fun k hk => by
      simp [bothN] at hk
      rcases hk with rfl | rfl
      · exact HFB.out
      · exact HGB.out))
    have HSB := Lib.hid (show sizeF (bothN (bl + 1) f g) = 1 + (sizeF f + sizeF g) by rw [sizeF_eq]; simp [bothN])
    clear hxk hxb HX1 HX2 HF HG HK1 HM HKA hcl
    go_cut [52] from 36 to 52 (fun s52 wx => ∃ q, s52 = .bool q ∧ Hid (q = false → sizeF (bothN (bl + 1) f g) ≤ 600) ∧ Hid (Keep w2 wx))
    case first =>
      have x10 := HX1b.out 0 _ rfl
      have x11 := HX1b.out 1 _ rfl
      have x12 := HX1b.out 2 _ rfl
      have x13 := HX1b.out 3 _ rfl
      have x14 := HX1b.out 4 _ rfl
      go_wp2_with (go_at_call 7; refine Zone.hold ?_)
      refine Zone.unhold ?_
      clear x10 x11 x12 x13 x14
      refine (may25_any f w2 HFB.out (by omega)).mono ?_
      rintro e w3 ⟨b1, rfl, _, hk3⟩
      have HK3 := Lib.hid hk3
      have hz3 := hk3.size
      have HX2c := Lib.hid (HX2b.out.keep' hk3)
      clear hk3
      cases b1
      · go_wp2
        go_meet
        exact ⟨true, rfl, fun h => (by cases h), HK3.out⟩
      · have x20 := HX2c.out 0 _ rfl
        have x21 := HX2c.out 1 _ rfl
        have x22 := HX2c.out 2 _ rfl
        have x23 := HX2c.out 3 _ rfl
        have x24 := HX2c.out 4 _ rfl
        have ha2' : a2 < w3.heap.size := by omega
        go_wp2_with (go_at_call 7; refine Zone.hold ?_)
        refine Zone.unhold ?_
        clear x20 x21 x22 x23 x24
        refine (may25_any g w3 ((HGB.out.keep HK3.out).fresh (Nat.le_refl _)) (by omega)).mono ?_
        rintro e w4 ⟨b2, rfl, _, hk4⟩
        have HK4 := Lib.hid (HK3.out.trans hk4)
        have hz4 := HK4.out.size
        have HXBc := Lib.hid (HXB.out.keep' HK4.out)
        clear hk4
        cases b2
        · go_wp2
          go_meet
          exact ⟨true, rfl, fun h => (by cases h), HK4.out⟩
        · have x30 := HXBc.out 0 _ rfl
          have x31 := HXBc.out 1 _ rfl
          have x32 := HXBc.out 2 _ rfl
          have x33 := HXBc.out 3 _ rfl
          have x34 := HXBc.out 4 _ rfl
          have hab : bl + 1 + 1 < w4.heap.size := by omega
          go_wp2_with (go_at_call 7; refine Zone.hold ?_)
          refine Zone.unhold ?_
          clear x30 x31 x32 x33 x34
          refine (may25_any (bothN (bl + 1) f g) w4 ((HNB.out.keep HK4.out).fresh (Nat.le_refl _)) (by have := HSB.out; omega)).mono ?_
          rintro e w5 ⟨b3, rfl, hb3, hk5⟩
          have HB3 := Lib.hid hb3
          have HK5 := Lib.hid (HK4.out.trans hk5)
          clear hk5 hb3
          cases b3
          · go_wp2
            go_meet
            exact ⟨true, rfl, fun h => (by cases h), HK5.out⟩
          · go_wp2
            go_meet
            exact ⟨false, rfl, fun _ => (by first | exact (HB3.out rfl).1 | exact (HB3.out trivial).1), HK5.out⟩
    case rest =>
      obtain ⟨q, rfl, HQ, HKQ⟩ := hcut
      rename World => w6
      cases q
      · have hq := HQ.out rfl
        have hsb := HSB.out
        have hzf : f.sz ≤ 1000000 := by have := sz_le_size f; omega
        have hzg : g.sz ≤ 1000000 := by have := sz_le_size g; omega
        have hzb : (bothN (bl + 1) f g).sz ≤ 1000000 := by have := sz_le_size (bothN (bl + 1) f g); omega
        have HOF := Lib.hid (fun S W (hW : Keep w2 W) => of_and ((hW.cell (World.block_lt_of_cell? _ _ HCL.out)).trans HCL.out) (HMB.out.keep hW) S)
        have hz6 := HKQ.out.size
        have HX1c := Lib.hid (HX1b.out.keep' HKQ.out)
        clear HQ hq hsb HSB hsf hsg
        have x10 := HX1c.out 0 _ rfl
        have x11 := HX1c.out 1 _ rfl
        have x12 := HX1c.out 2 _ rfl
        have x13 := HX1c.out 3 _ rfl
        have x14 := HX1c.out 4 _ rfl
        have ha1' : a1 < w6.heap.size := by omega
        go_wp2_with (go_at_call 11; refine Zone.hold ?_)
        refine Zone.unhold ?_
        clear x10 x11 x12 x13 x14 HX1c
        refine (restrict_f w2 w2.heap.size f HFB.out w6 HKQ.out hzf (HOF.out _ w6 HKQ.out)).mono ?_
        rintro e w7 ⟨va, na, oka, rfl, hra, hk7⟩
        have HRA := Lib.hid hra
        have HK7 := Lib.hid (HKQ.out.trans hk7)
        have hz7 := HK7.out.size
        have HX2c := Lib.hid (HX2b.out.keep' HK7.out)
        have ha2' : a2 < w7.heap.size := by omega
        clear hra hk7 HX1b HX2b HKQ hz6 ha1'
        have x20 := HX2c.out 0 _ rfl
        have x21 := HX2c.out 1 _ rfl
        have x22 := HX2c.out 2 _ rfl
        have x23 := HX2c.out 3 _ rfl
        have x24 := HX2c.out 4 _ rfl
        go_wp2_with (go_at_call 11; refine Zone.hold ?_)
        refine Zone.unhold ?_
        clear x20 x21 x22 x23 x24 HX2c
        refine (restrict_f w2 w2.heap.size g HGB.out w7 HK7.out hzg (HOF.out _ w7 HK7.out)).mono ?_
        rintro e w8 ⟨vb, nb, okb, rfl, hrb, hk8⟩
        have HRA8 := Lib.hid (HRA.out.keep hk8)
        have HRB := Lib.hid hrb
        have HK8 := Lib.hid (HK7.out.trans hk8)
        have hz8 := HK8.out.size
        have HXBc := Lib.hid (HXB.out.keep' HK8.out)
        have hab : bl + 1 + 1 < w8.heap.size := by omega
        clear hrb hk8 HRA HK7 hz7 ha2'
        have x30 := HXBc.out 0 _ rfl
        have x31 := HXBc.out 1 _ rfl
        have x32 := HXBc.out 2 _ rfl
        have x33 := HXBc.out 3 _ rfl
        have x34 := HXBc.out 4 _ rfl
        go_wp2_with (go_at_call 11; refine Zone.hold ?_)
        refine Zone.unhold ?_
        clear x30 x31 x32 x33 x34 HXBc
        refine (restrict_f w2 w2.heap.size (bothN (bl + 1) f g) HNB.out w8 HK8.out hzb (HOF.out _ w8 HK8.out)).mono ?_
        rintro e w9 ⟨vc, nc, okc, rfl, hrc, hk9⟩
        have HRA9 := Lib.hid (HRA8.out.keep hk9)
        have HRB9 := Lib.hid (HRB.out.keep hk9)
        have HRC9 := Lib.hid hrc
        have HK9 := Lib.hid (HK8.out.trans hk9)
        have hz9 := HK9.out.size
        have HXB9 := Lib.hid (HXB.out.keep' HK9.out)
        have hab9 : bl + 1 + 1 < w9.heap.size := by omega
        have HCO := Lib.hid (fun W (hW : Keep w9 W) => rcolumns_any w2 w2.heap.size (bothN (bl + 1) f g) HNB.out W (HK9.out.trans hW) hzb)
        clear hrc hk9 HRA8 HRB HK8 hz8 hab HXB HOF HFB HGB HNB
        have HCC := Lib.hid (show okc = true → (oka = false ∨ okb = false) → (colsOf (bothN (bl + 1) f g)).length ≤ 1 from fun e ho => Classical.byContradiction fun hn => by
          obtain ⟨pc, _, hpc, _⟩ := (e ▸ HRC9.out : RestR _ _ _ _ _ _ true _).yes
          have := both_goes (bl + 1) f g (by
            rcases ho with e | e
            · exact .inl (e ▸ HRA9.out : RestR _ _ _ _ _ _ false _).no_
            · exact .inr (e ▸ HRB9.out : RestR _ _ _ _ _ _ false _).no_) hn
          rw [this] at hpc; cases hpc)
        cases oka
        · cases okc
          · go_wp2_with (go_at_call 8; refine (KN.out _).mono ?_; rintro e w' ⟨rfl, hk⟩; (first | obtain ⟨p, rfl⟩ := Zone.gro_of_gro _ _ hk | obtain ⟨p, rfl⟩ := Zone.gro_of_below _ hk); clear hk)
            go_ret
            exact ⟨rfl, HKW.out.trans (HK9.out.trans (by repeat (first | exact Keep.refl _ | apply Keep.alloc | apply Keep.gro | apply Keep.drew | apply Keep.drewN)))⟩
          · have hle := HCC.out rfl (.inl rfl)
            obtain ⟨cl, hcle⟩ : ∃ cl, colsOf (bothN (bl + 1) f g) = cl := ⟨_, rfl⟩
            have e3 : (bothN (bl + 1) f g).v = .agg #[.int .u8 1, .slice (some ⟨bl + 1, 0, none⟩) 2 2, .string ⟨#[]⟩, .int .u8 0, .slice none 0 0] := rfl
            rw [hcle, e3] at HCO
            rw [hcle] at hle
            have hled : decide ((cl.length : Int) ≤ 1) = true := by simp; omega
            have hled2 : decide (cl.length ≤ 1) = true := by simp; omega
            clear hcle e3 HCC
            have x30 := HXB9.out 0 _ rfl
            have x31 := HXB9.out 1 _ rfl
            have x32 := HXB9.out 2 _ rfl
            have x33 := HXB9.out 3 _ rfl
            have x34 := HXB9.out 4 _ rfl
            go_wp2_with (first | (go_at_call 14; refine (HCO.out _ (Keep.refl _)).mono ?_; rintro e w' ⟨CA, Cc, rfl, _, hkc⟩; obtain ⟨p, rfl⟩ := gro_of_below _ hkc; clear hkc) | (go_at_call 8; refine (KN.out _).mono ?_; rintro e w' ⟨rfl, hkc⟩; obtain ⟨p2, rfl⟩ := gro_of_below _ hkc; clear hkc))
            go_ret
            exact ⟨rfl, HKW.out.trans (HK9.out.trans (by repeat (first | exact Keep.refl _ | apply Keep.alloc | apply Keep.gro | apply Keep.drew | apply Keep.drewN)))⟩
        · cases okb
          · cases okc
            · go_wp2_with (go_at_call 8; refine (KN.out _).mono ?_; rintro e w' ⟨rfl, hk⟩; (first | obtain ⟨p, rfl⟩ := Zone.gro_of_gro _ _ hk | obtain ⟨p, rfl⟩ := Zone.gro_of_below _ hk); clear hk)
              go_ret
              exact ⟨rfl, HKW.out.trans (HK9.out.trans (by repeat (first | exact Keep.refl _ | apply Keep.alloc | apply Keep.gro | apply Keep.drew | apply Keep.drewN)))⟩
            · have hle := HCC.out rfl (.inr rfl)
              obtain ⟨cl, hcle⟩ : ∃ cl, colsOf (bothN (bl + 1) f g) = cl := ⟨_, rfl⟩
              have e3 : (bothN (bl + 1) f g).v = .agg #[.int .u8 1, .slice (some ⟨bl + 1, 0, none⟩) 2 2, .string ⟨#[]⟩, .int .u8 0, .slice none 0 0] := rfl
              rw [hcle, e3] at HCO
              rw [hcle] at hle
              have hled : decide ((cl.length : Int) ≤ 1) = true := by simp; omega
              have hled2 : decide (cl.length ≤ 1) = true := by simp; omega
              clear hcle e3 HCC
              have x30 := HXB9.out 0 _ rfl
              have x31 := HXB9.out 1 _ rfl
              have x32 := HXB9.out 2 _ rfl
              have x33 := HXB9.out 3 _ rfl
              have x34 := HXB9.out 4 _ rfl
              go_wp2_with (first | (go_at_call 14; refine (HCO.out _ (Keep.refl _)).mono ?_; rintro e w' ⟨CA, Cc, rfl, _, hkc⟩; obtain ⟨p, rfl⟩ := gro_of_below _ hkc; clear hkc) | (go_at_call 8; refine (KN.out _).mono ?_; rintro e w' ⟨rfl, hkc⟩; obtain ⟨p2, rfl⟩ := gro_of_below _ hkc; clear hkc))
              go_ret
              exact ⟨rfl, HKW.out.trans (HK9.out.trans (by repeat (first | exact Keep.refl _ | apply Keep.alloc | apply Keep.gro | apply Keep.drew | apply Keep.drewN)))⟩
          · obtain ⟨pa, ra, hpa, hna, hRA, hma⟩ := HRA9.out.yes
            obtain ⟨pb, rb, hpb, hnb, hRB, hmb⟩ := HRB9.out.yes
            obtain ⟨pc', hpc'⟩ := both_yes (g := bl + 1) hpa hpb
            obtain rfl : okc = true := by
              cases okc
              · rw [HRC9.out.no_] at hpc'; cases hpc'
              · rfl
            obtain ⟨pc, rc, hpc, hnc, hRC, hmc⟩ := HRC9.out.yes
            have HPA := Lib.hid hpa
            have HPB := Lib.hid hpb
            have HPC := Lib.hid hpc
            have HNA := Lib.hid hna
            have HNB2 := Lib.hid hnb
            have HNC := Lib.hid (show (colsOf (bothN (bl + 1) f g)).length = 1 ∨ nc = (na || nb) by
              by_cases e : (colsOf (bothN (bl + 1) f g)).length = 1
              · exact .inl e
              · exact .inr (by rw [hnc, hna, hnb]; exact both_noth hpa hpb hpc e))
            have HMA := Lib.hid hma
            have HMBB := Lib.hid hmb
            have HMC := Lib.hid hmc
            have HRLA := Lib.hid hRA
            have HRLB := Lib.hid hRB
            have HRLC := Lib.hid hRC
            clear hpa hpb hpc' hpc hna hnb hnc hma hmb hmc hRA hRB hRC HRA9 HRB9 HRC9 HCC
            go_upto_region 11 with fail
            go_cut [108] from 93 to 108 (fun s108 wx => s108 = .bool false ∧ Hid (Keep w9 wx))
            case first =>
              have hcl := HNC.out
              obtain ⟨cl, hcle⟩ : ∃ cl, colsOf (bothN (bl + 1) f g) = cl := ⟨_, rfl⟩
              have e3 : (bothN (bl + 1) f g).v = .agg #[.int .u8 1, .slice (some ⟨bl + 1, 0, none⟩) 2 2, .string ⟨#[]⟩, .int .u8 0, .slice none 0 0] := rfl
              rw [hcle, e3] at HCO
              rw [hcle] at hcl
              have HCL2 := Lib.hid hcl
              clear hcle e3 hcl
              have x30 := HXB9.out 0 _ rfl
              have x31 := HXB9.out 1 _ rfl
              have x32 := HXB9.out 2 _ rfl
              have x33 := HXB9.out 3 _ rfl
              have x34 := HXB9.out 4 _ rfl
              cases na <;> cases nb <;> cases nc
              all_goals first
              | (go_wp2_with fail
                 go_meet
                 exact ⟨rfl, Keep.refl _⟩)
              | (have hl1 : cl.length = 1 := by rcases HCL2.out with e | e; exact e; cases e
                 go_wp2_with (go_at_call 14; refine (HCO.out _ (Keep.refl _)).mono ?_; rintro e w' ⟨CA, Cc, rfl, _, hkc⟩; obtain ⟨p, rfl⟩ := gro_of_below _ hkc; clear hkc)
                 go_meet
                 exact ⟨rfl, (by repeat (first | exact Keep.refl _ | apply Keep.alloc | apply Keep.gro | apply Keep.drew | apply Keep.drewN))⟩)
            case rest =>
              obtain ⟨rfl, HK10⟩ := hcut
              rename World => w10
              have hla : ra.length ≤ 1000000 := by rw [rs_len_cs HMA.out]; have := cols_len f; omega
              have hlb : rb.length ≤ 1000000 := by rw [rs_len_cs HMBB.out]; have := cols_len g; omega
              have hlc : rc.length ≤ 1000000 := by rw [rs_len_cs HMC.out]; have := cols_len (bothN (bl + 1) f g); omega
              obtain ⟨Aa, ca, rfl, hsa⟩ := HRLA.out.own.sl rs_len (by omega)
              obtain ⟨Ab, cb, rfl, hsb⟩ := HRLB.out.own.sl rs_len (by omega)
              obtain ⟨Ac, cc, rfl, hsc⟩ := HRLC.out.own.sl rs_len (by omega)
              have HSA := Lib.hid (hsa.keep HK10.out)
              have HSB := Lib.hid (hsb.keep HK10.out)
              have HSC := Lib.hid (hsc.keep HK10.out)
              have HLAW := Lib.hid (show ∀ k (hk : k < rc.length) id (hid : id < rc[k].may.length), rc[k].may[id] = (wantF (ra ++ rb) rc[k].col id && (decide (rc.length ≠ 1) || (!na && !nb))) from fun k hk id hid => by
                rw [HNA.out, HNB2.out]
                exact want_law HPA.out HPB.out HPC.out HMA.out HMBB.out HMC.out k hk id hid)
              have HFIT := Lib.hid (show ∀ k (hk : k < rc.length), ∀ r ∈ ra ++ rb, r.col = rc[k].col → r.may.length = rc[k].may.length from fun k hk r hr => by
                rcases List.mem_append.1 hr with h | h
                · exact fits_law HMA.out HMC.out k hk r h
                · exact fits_law HMBB.out HMC.out k hk r h)
              have HMLC := Lib.hid (show ∀ r ∈ rc, r.may.length ≤ 1000000 from fun r hr => by
                have h1 : r.may.length = (pickM m0 m1 m2 r.col).xs.length := rs_may_len HMC.out r hr
                have h2 := (pick_xs HMB.out r.col).2
                omega)
              have HMAY := Lib.hid (show ∀ r ∈ (ra ++ rb) ++ rc, Sl w10 1 boolV (some ⟨r.g, 0, none⟩) r.may.length r.may from fun r hr => by
                rcases List.mem_append.1 hr with h | h
                · have hl : r.may.length ≤ 1000000 := by
                    rcases List.mem_append.1 h with h | h
                    · have h1 : r.may.length = (pickM m0 m1 m2 r.col).xs.length := rs_may_len HMA.out r h
                      have h2 := (pick_xs HMB.out r.col).2
                      omega
                    · have h1 : r.may.length = (pickM m0 m1 m2 r.col).xs.length := rs_may_len HMBB.out r h
                      have h2 := (pick_xs HMB.out r.col).2
                      omega
                  rcases List.mem_append.1 h with h | h
                  · exact (flags_sl (HRLA.out.may r h) hl).keep HK10.out
                  · exact (flags_sl (HRLB.out.may r h) hl).keep HK10.out
                · exact (flags_sl (HRLC.out.may r h) (HMLC.out r h)).keep HK10.out)
              have HKX := Lib.hid (HKW.out.trans (HK9.out.trans HK10.out))
              clear hsa hsb hsc HRLA HRLB HRLC HMA HMBB HMC HPA HPB HPC HNA HNB2 HNC HK10 HK9 HKW HXB9 HCO HMB HCL HMADE hz9 hab9 hzf hzg hzb hz2
              obtain ⟨rs, hrs⟩ : ∃ rs, ra ++ rb = rs := ⟨_, rfl⟩
              have hls : rs.length ≤ 2000000 := by rw [← hrs]; simp; omega
              have HRS := Lib.hid hrs
              rw [hrs] at HLAW HFIT HMAY
              clear hrs
              go_wp2
              go_loopw [111] (fun i wr => ∃ k : Nat, k ≤ rc.length ∧ i = .int .i64 k ∧ Hid (Keep w10 wr)) (fun i _ => rc.length - (intOf i).toNat)
              case atStart => exact ⟨0, Nat.zero_le _, rfl, Keep.refl _⟩
              case round =>
                obtain ⟨k, hk, rfl, HKR⟩ := hrel
                by_cases hlt : k < rc.length
                · obtain ⟨gb, go, rfl, hgb, k0, k1⟩ := sl_rs (HSC.out.keep HKR.out) k hlt
                  have hml := HMLC.out rc[k] (List.getElem_mem hlt)
                  have HLW := Lib.hid (HLAW.out k hlt)
                  have HFT := Lib.hid (HFIT.out k hlt)
                  have HMC := Lib.hid (HMAY.out rc[k] (List.mem_append_right _ (List.getElem_mem hlt)))
                  obtain ⟨sc, mc, hsc, hmc⟩ : ∃ sc mc, rc[k].col = sc ∧ rc[k].may = mc := ⟨_, _, rfl, rfl⟩
                  have HLW2 := Lib.hid (show ∀ id (hid : id < mc.length), mc[id] = (wantF rs sc id && (decide (rc.length ≠ 1) || (!na && !nb))) by subst hsc; subst hmc; exact HLW.out)
                  rw [hsc, hmc] at HFT
                  rw [hmc] at hml HMC k1
                  have HSCE := Lib.hid hsc
                  have HMCE := Lib.hid hmc
                  rw [hsc] at k0
                  obtain ⟨y, hye, hyl⟩ := enc_out sc
                  rw [hye] at k0
                  have HYL := Lib.hid hyl
                  have HYE := Lib.hid hye
                  obtain ⟨cg, hcg⟩ : ∃ cg, rc[k].g = cg := ⟨_, rfl⟩
                  rw [hcg] at k1 HMC
                  have HCG := Lib.hid hcg
                  clear hcg
                  clear HLW hsc hmc hye hyl
                  go_wp2
                  go_loopw [120] (fun i wr2 => ∃ id : Nat, id ≤ mc.length ∧ i = .int .i64 id ∧ Hid (Keep w10 wr2)) (fun i _ => mc.length - (intOf i).toNat)
                  case atStart => exact ⟨0, Nat.zero_le _, rfl, HKR.out⟩
                  case round =>
                    clear HKR k0 k1 hgb
                    obtain ⟨id, hid, rfl, HK2⟩ := hrel
                    rename World => wq
                    by_cases hltd : id < mc.length
                    · have hzq := HK2.out.size
                      go_wp2_with (at_builtin; refine Zone.hold ?_)
                      refine Zone.unhold ?_
                      have HO0 : Zone.Own (wq.alloc (.cells #[] 62)) w10.heap.size 62 2 rsV (.slice (some ⟨wq.heap.size, 0, none⟩) 0 0) ([] : List Rs) := own_empty _ _ _ _ _ _ hzq (by show (wq.heap.push _)[wq.heap.size]? = _; exact Array.getElem?_push_size)
                      refine wpList_app elt_rs rs_len rs_one rfl (.tmp 123) (.tmp 124) rfl (ys := ra) HO0 rfl rfl ((HSA.out.keep HK2.out).keep (Keep.alloc (Keep.refl _) _)) (by simp; omega) (by simp; omega) ?_
                      intro v3 w3 hown3 hg3 _
                      have HK3 := Lib.hid (HO0.kept hg3 (HK2.out.alloc _) (Nat.le_refl _))
                      have HO3 := Lib.hid hown3
                      clear HO0 hown3 hg3
                      have hz3 := HK3.out.size
                      go_wp2_with (at_builtin; refine Zone.hold ?_)
                      refine Zone.unhold ?_
                      refine wpList_app elt_rs rs_len rs_one rfl (.tmp 125) (.tmp 126) rfl (ys := rb) HO3.out rfl rfl (HSB.out.keep HK3.out) (by simp; omega) hz3 ?_
                      intro v4 w4 hown4 hg4 _
                      have HK4 := Lib.hid (HO3.out.kept hg4 HK3.out (Nat.le_refl _))
                      rw [List.nil_append, HRS.out] at hown4
                      obtain ⟨A4, c4, rfl, hs4⟩ := hown4.sl rs_len (by omega)
                      have HS4 := Lib.hid hs4
                      clear hown4 hg4 HO3 HK3 hs4 hz3 hzq
                      go_wp2
                      go_loopw [23, 25, 129] (fun s23 _ i wr3 => ∃ m : Nat, m ≤ rs.length ∧ i = .int .i64 m ∧ s23 = .bool (wantF (rs.take m) sc id) ∧ Hid (Keep w4 wr3)) (fun _ _ i _ => rs.length - (intOf i).toNat)
                      case atStart => exact ⟨0, Nat.zero_le _, rfl, rfl, Keep.refl _⟩
                      case round =>
                        obtain ⟨m, hm, rfl, rfl, HK5⟩ := hrel
                        rename World => wz
                        have HKZ := Lib.hid (HK4.out.trans HK5.out)
                        obtain ⟨gb', go', e', hgb, k0, k1⟩ := sl_rs (HSC.out.keep HKZ.out) k hlt
                        cases e'
                        rw [HSCE.out, HYE.out] at k0
                        rw [HMCE.out, HCG.out] at k1
                        by_cases hltm : m < rs.length
                        · obtain ⟨rb', ro, rfl, hrb, r0, r1⟩ := sl_rs (HS4.out.keep HK5.out) m hltm
                          obtain ⟨x, hxe, hxl⟩ := enc_out rs[m].col
                          rw [hxe] at r0
                          have HWS := Lib.hid (wantF_succ rs sc id m hltm)
                          have HMM := Lib.hid (HMAY.out rs[m] (List.mem_append_left _ (List.getElem_mem hltm)))
                          have HFM := Lib.hid (HFT.out rs[m] (List.getElem_mem hltm))
                          obtain ⟨rg, hrg⟩ : ∃ rg, rs[m].g = rg := ⟨_, rfl⟩
                          obtain ⟨rm, hrm⟩ : ∃ rm, rs[m].may = rm := ⟨_, rfl⟩
                          rw [hrg, hrm] at HMM r1
                          rw [hrm] at HFM HWS
                          clear hrg hrm hxe
                          have HXL := Lib.hid hxl
                          clear hxl
                          generalize wantF (rs.take m) sc id = wv at HWS ⊢
                          cases he : (x.toList == y.toList)
                          · have HNE := Lib.hid (show (rs[m].col != sc) = true by rw [HXL.out, HYL.out] at he; simpa [bne] using he)
                            go_wp2
                            first | refine Zone.wp_region_all_gro (by kernel_rfl) (by kernel_rfl) ?_ | refine Zone.wp_region_all (by kernel_rfl) (by kernel_rfl) ?_
                            repeat
                              refine Zone.wpZ_step (fun K hK => ?_)
                              go_simp
                              first
                              | (refine hK _ _ ?_; clear hK K)
                              | (apply Exists.intro
                                 refine ⟨fun p => ?_, hK _ _ ?_⟩
                                 (fail)
                                 clear hK K)
                            refine Zone.wpZ_nil ?_
                            intro p
                            simp only [Zone.fill]
                            go_wp2
                            go_roundw
                            case rel => exact ⟨m + 1, by omega, by go_num, congrArg Value.bool (by rw [HWS.out, HNE.out]; simp), HK5.out.trans (by repeat (first | exact Keep.refl _ | apply Keep.alloc | apply Keep.gro | apply Keep.drew | apply Keep.drewN | (refine Keep.setCell ?_ (by simp) _)))⟩
                            case measure => simp [intOf]; omega
                          · have hce : rs[m].col = sc := by rw [HXL.out, HYL.out] at he; simpa using he
                            have HNE := Lib.hid (show (rs[m].col != sc) = false by rw [hce]; simp)
                            have hrl : rm.length = mc.length := HFM.out hce
                            obtain ⟨b', o', e', hb', m9⟩ := sl_bool (HMM.out.keep HKZ.out) id (by omega)
                            injection e' with e'
                            injection e' with e1 e2 _
                            subst e1; subst e2
                            have HWS2 := Lib.hid (show wantF (rs.take (m + 1)) sc id = (wv && rm[id]'(by omega)) by rw [HWS.out, HNE.out, List.getD, List.getElem?_eq_getElem (by omega)]; rfl)
                            generalize hmb : rm[id]'(by omega) = mb at m9 HWS2
                            simp only [Nat.zero_add] at m9
                            clear hce HWS HNE hmb
                            have hidr : id < rm.length := by omega
                            have HRL := Lib.hid hrl
                            clear hrl
                            cases wv
                            · go_wp2
                              first | refine Zone.wp_region_all_gro (by kernel_rfl) (by kernel_rfl) ?_ | refine Zone.wp_region_all (by kernel_rfl) (by kernel_rfl) ?_
                              repeat
                                refine Zone.wpZ_step (fun K hK => ?_)
                                go_simp
                                first
                                | (refine hK _ _ ?_; clear hK K)
                                | (apply Exists.intro
                                   refine ⟨fun p => ?_, hK _ _ ?_⟩
                                   (fail)
                                   clear hK K)
                              refine Zone.wpZ_nil ?_
                              intro p
                              simp only [Zone.fill]
                              go_wp2
                              go_roundw
                              case rel => exact ⟨m + 1, by omega, by go_num, congrArg Value.bool (by rw [HWS2.out]; simp), HK5.out.trans (by repeat (first | exact Keep.refl _ | apply Keep.alloc | apply Keep.gro | apply Keep.drew | apply Keep.drewN | (refine Keep.setCell ?_ (by simp) _)))⟩
                              case measure => simp [intOf]; omega
                            · go_wp2
                              first | refine Zone.wp_region_all_gro (by kernel_rfl) (by kernel_rfl) ?_ | refine Zone.wp_region_all (by kernel_rfl) (by kernel_rfl) ?_
                              repeat
                                refine Zone.wpZ_step (fun K hK => ?_)
                                go_simp
                                first
                                | (refine hK _ _ ?_; clear hK K)
                                | (apply Exists.intro
                                   refine ⟨fun p => ?_, hK _ _ ?_⟩
                                   (fail)
                                   clear hK K)
                              refine Zone.wpZ_nil ?_
                              intro p
                              simp only [Zone.fill]
                              go_wp2
                              go_roundw
                              case rel => exact ⟨m + 1, by omega, by go_num, congrArg Value.bool (by rw [HWS2.out]; simp), HK5.out.trans (by repeat (first | exact Keep.refl _ | apply Keep.alloc | apply Keep.gro | apply Keep.drew | apply Keep.drewN | (refine Keep.setCell ?_ (by simp) _)))⟩
                              case measure => simp [intOf]; omega
                        · have hme : m = rs.length := by omega
                          subst hme
                          rw [List.take_length]
                          have hlaw := HLW2.out id hltd
                          obtain ⟨b', o', e', hb', m9⟩ := sl_bool (HMC.out.keep HKZ.out) id hltd
                          injection e' with e'
                          injection e' with e1 e2 _
                          subst e1; subst e2
                          simp only [Nat.zero_add] at m9
                          generalize mc[id] = mb at m9 hlaw
                          generalize wantF rs sc id = wv at hlaw ⊢
                          have HEND := Lib.hid HKZ.out
                          clear HSA HSB
                          by_cases hL : rc.length = 1
                          · have hLb : ((rc.length : Int) == 1) = true := by simp [hL]
                            have hL2 : decide (rc.length ≠ 1) = false := by simp [hL]
                            rw [hL2] at hlaw
                            clear hL hL2
                            cases wv <;> cases na <;> cases nb
                            all_goals
                              simp only [Bool.not_true, Bool.not_false, Bool.and_true, Bool.and_false, Bool.false_and, Bool.true_and, Bool.false_or] at hlaw
                              subst hlaw
                              go_wp2
                              go_roundw
                              case rel => exact ⟨id + 1, by omega, by go_num, HEND.out⟩
                              case measure => simp [intOf]; omega
                          · have hLb : ((rc.length : Int) == 1) = false := by simp; omega
                            have hL2 : decide (rc.length ≠ 1) = true := by simp [hL]
                            rw [hL2] at hlaw
                            clear hL hL2
                            simp only [Bool.true_or, Bool.and_true] at hlaw
                            subst hlaw
                            cases mb
                            all_goals
                              go_wp2
                              go_roundw
                              case rel => exact ⟨id + 1, by omega, by go_num, HEND.out⟩
                              case measure => simp [intOf]; omega
                    · go_wp2
                      go_roundw
                      case rel => exact ⟨k + 1, by omega, by go_num, HK2.out⟩
                      case measure => simp [intOf]; omega
                · clear HSA HSB HSC
                  go_wp2_with (go_at_call 8; refine (KN.out _).mono ?_; rintro e w' ⟨rfl, hk⟩; (first | obtain ⟨p, rfl⟩ := Zone.gro_of_gro _ _ hk | obtain ⟨p, rfl⟩ := Zone.gro_of_below _ hk); clear hk)
                  go_ret
                  exact ⟨rfl, HKX.out.trans (HKR.out.trans (by repeat (first | exact Keep.refl _ | apply Keep.alloc | apply Keep.gro | apply Keep.drew | apply Keep.drewN)))⟩
      · go_wp2_with (go_at_call 8; refine (KN.out _).mono ?_; rintro e w' ⟨rfl, hk⟩; (first | obtain ⟨p, rfl⟩ := Zone.gro_of_gro _ _ hk | obtain ⟨p, rfl⟩ := Zone.gro_of_below _ hk); clear hk)
        go_ret
        exact ⟨rfl, HKW.out.trans (HKQ.out.trans (by repeat (first | exact Keep.refl _ | apply Keep.alloc | apply Keep.gro | apply Keep.drew | apply Keep.drewN)))⟩
end Go.Proofs.YthigflnfccajoaaGreat
