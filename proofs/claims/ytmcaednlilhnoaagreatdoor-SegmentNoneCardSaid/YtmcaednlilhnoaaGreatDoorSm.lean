
/- segment: head of the sample's image. -/
import Derived.WalkKit
import Derived.Lib.Hide
import Derived.WalkSpells
import Derived.WalkLawsBesides
import Derived.BigQuiet
import Derived.Shelf.Abstract
import Derived.Deep.Cut
import Derived.Deep.CutRange
import Derived.Test.YtmcaednlilhnoaaGreatDoorSi
namespace Go.Proofs.YtmcaednlilhnoaaGreatDoor
open Go.RowKit Go.Zone Go.Shelf
attribute [local go_sem] Zone.zone Zone.stepZ Zone.fill Zone.lookFs Zone.goes Zone.goesUpon Zone.dropFs Zone.cell_gro Zone.frozen_gro Zone.size_gro Zone.lt_add Zone.drew_gro Zone.tape_gro Zone.keep_refl
attribute [local go_sem] Zone.lt_add2 Zone.lt_add3 Zone.lt_add4 Zone.lt_add5 Zone.lt_add6 Zone.lt_add7 Zone.lt_add8 Zone.lt_add9 Zone.lt_add10 Zone.lt_add11 Zone.lt_add12
def nmS : ByteArray := ⟨#[115, 99, 104, 101, 109, 97]⟩
def nmR : ByteArray := ⟨#[114, 111, 119, 115]⟩
def nmD : ByteArray := ⟨#[100, 105, 99, 116, 46, 48]⟩
def nmF : ByteArray := ⟨#[102, 111, 114, 119, 97, 114, 100, 46, 48]⟩
/-- what the segment holds behind its head -/
structure HdK (w : World) (base s : Nat) (A : Option Addr) (c : Nat) (iA : Option Addr) (ic : Nat) (rA : Option Addr) (rc : Nat) (sA : Option Addr) (sc : Nat) (rows : Int) (cols : Value) : Prop where
  row : Row w s 30 [.slice A 1 c, .int .i64 (-1), .slice iA 1 ic, .slice rA 1 rc, .slice sA 0 sc, .int .i64 1, .int .i64 rows, cols, .pointer none]
  l : Zone.Own w base 68 2 Col.cells (.slice A 1 c) [colK]
  i : Zone.Own w base 4 1 flV (.slice iA 1 ic) [false]
  r : Zone.Own w base 4 1 flV (.slice rA 1 rc) [false]
  p : Zone.Own w base 3 1 i64V (.slice sA 0 sc) []
section
variable {w w' : World} {base s : Nat} {A : Option Addr} {c : Nat} {iA : Option Addr} {ic : Nat} {rA : Option Addr} {rc : Nat} {sA : Option Addr} {sc : Nat} {rows : Int} {cols : Value}
theorem HdK.turn (h : HdK w base s A c iA ic rA rc sA sc rows cols) {S : List Nat} (ht : Turn w w' S) (hs : s ∉ S) (hb : ∀ g ∈ S, g < base ∨ w.heap.size ≤ g) : HdK w' base s A c iA ic rA rc sA sc rows cols := by
  have key : ∀ {v : Value} (j : Nat), v.ownBlock = some j → base ≤ j ∧ j < w.heap.size → ∀ g ∈ S, v.ownBlock ≠ some g := fun {v} j hj hl g hg e => by
    rw [hj] at e
    cases e
    rcases hb _ hg with h1 | h1 <;> omega
  refine ⟨ht.row h.row hs, ?_, ?_, ?_, ?_⟩
  · refine Own.turn h.l ht fun g hg e => ?_
    have := h.l.lt g e
    rcases hb _ hg with h1 | h1 <;> omega
  · refine Own.turn h.i ht fun g hg e => ?_
    have := h.i.lt g e
    rcases hb _ hg with h1 | h1 <;> omega
  · refine Own.turn h.r ht fun g hg e => ?_
    have := h.r.lt g e
    rcases hb _ hg with h1 | h1 <;> omega
  · refine Own.turn h.p ht fun g hg e => ?_
    have := h.p.lt g e
    rcases hb _ hg with h1 | h1 <;> omega
theorem HdK.keep (h : HdK w base s A c iA ic rA rc sA sc rows cols) (hk : Keep w w') : HdK w' base s A c iA ic rA rc sA sc rows cols :=
  h.turn (Turn.keep hk []) (by simp) (fun g hg => by cases hg)
theorem HdK.own_set (h : HdK w base s A c iA ic rA rc sA sc rows cols) (hb : s < base) (j : Nat) (u : Value) {rows' : Int} {cols' : Value} (hr : Row (w.setCell ⟨s, j, none⟩ u) s 30 [.slice A 1 c, .int .i64 (-1), .slice iA 1 ic, .slice rA 1 rc, .slice sA 0 sc, .int .i64 1, .int .i64 rows', cols', .pointer none]) :
    HdK (w.setCell ⟨s, j, none⟩ u) base s A c iA ic rA rc sA sc rows' cols' := by
  have ne : ∀ {v : Value}, (∀ g, v.ownBlock = some g → base ≤ g) → v.ownBlock ≠ some s := fun hv e => by have := hv s e; omega
  exact ⟨hr, own_setne h.l (ne fun g e => (h.l.lt g e).1), own_setne h.i (ne fun g e => (h.i.lt g e).1), own_setne h.r (ne fun g e => (h.r.lt g e).1), own_setne h.p (ne fun g e => (h.p.lt g e).1)⟩
theorem HdK.set6 (h : HdK w base s A c iA ic rA rc sA sc rows cols) (hb : s < base) (r : Int) : HdK (w.setCell ⟨s, 6, none⟩ (.int .i64 r)) base s A c iA ic rA rc sA sc r cols :=
  h.own_set hb 6 _ (h.row.set 6 _)
theorem HdK.set7 (h : HdK w base s A c iA ic rA rc sA sc rows cols) (hb : s < base) (u : Value) : HdK (w.setCell ⟨s, 7, none⟩ u) base s A c iA ic rA rc sA sc rows u :=
  h.own_set hb 7 _ (h.row.set 7 _)
end
/-- what was read, ahead of the stores -/
structure Hd0 (w : World) (base s : Nat) (A : Option Addr) (c : Nat) (iA : Option Addr) (ic : Nat) (rA : Option Addr) (rc : Nat) (sA : Option Addr) (sc : Nat) : Prop where
  row : Row w s 30 [.slice none 0 0, .int .i64 0, .slice none 0 0, .slice none 0 0, .slice none 0 0, .int .i64 0, .int .i64 0, .slice none 0 0, .pointer none]
  l : Zone.Own w base 68 2 Col.cells (.slice A 1 c) [colK]
  i : Zone.Own w base 4 1 flV (.slice iA 1 ic) [false]
  r : Zone.Own w base 4 1 flV (.slice rA 1 rc) [false]
  p : Zone.Own w base 3 1 i64V (.slice sA 0 sc) []
theorem Hd0.done {w w6 W : World} {o s : Nat} {A : Option Addr} {c : Nat} {iA : Option Addr} {ic : Nat} {rA : Option Addr} {rc : Nat} {sA : Option Addr} {sc : Nat} {ov : List Value} (h : Hd0 w6 w.heap.size s A c iA ic rA rc sA sc) (hos : o ≠ s) (hsb : s < w.heap.size) (hR : Row w6 o 114 ov) (hT : Turn w w6 [o])
    (hrow : Row W s 30 [.slice A 1 c, .int .i64 (-1), .slice iA 1 ic, .slice rA 1 rc, .slice sA 0 sc, .int .i64 1, .int .i64 0, .slice none 0 0, .pointer none]) (ht : Turn w6 W [s]) :
    Hid (Row W o 114 ov) ∧ Hid (HdK W w.heap.size s A c iA ic rA rc sA sc 0 (.slice none 0 0)) ∧ Hid (Turn w W [o, s]) := by
  refine ⟨Lib.hid (ht.row hR (by simpa using hos)), Lib.hid ⟨hrow, ?_, ?_, ?_, ?_⟩, Lib.hid ((hT.mono fun i hi => .inl (by simp at hi; simp [hi])).trans2 ht fun i hi => .inl (by simp at hi; simp [hi]))⟩
  · exact Own.turn h.l ht fun g hg e => by simp only [List.mem_singleton] at hg; have := (h.l.lt g e).1; omega
  · exact Own.turn h.i ht fun g hg e => by simp only [List.mem_singleton] at hg; have := (h.i.lt g e).1; omega
  · exact Own.turn h.r ht fun g hg e => by simp only [List.mem_singleton] at hg; have := (h.r.lt g e).1; omega
  · exact Own.turn h.p ht fun g hg e => by simp only [List.mem_singleton] at hg; have := (h.p.lt g e).1; omega
set_option maxRecDepth 100000 in
set_option maxHeartbeats 20000000 in
theorem head_k {o s nb cbb : Nat} {Ab : Option Addr} {AL : Option Addr} {cL : Nat} {A1 A2 A3 A4 : Option Addr} {c1 c2 c3 c4 : Nat} (wB w : World) (hkb : Keep wB w) (ho : wB.heap.size ≤ o) (hsB : wB.heap.size ≤ s) (hnb : 1 ≤ nb) (hnb2 : nb ≤ 1000000)
    (hL : Sl wB 2 Sec.cells AL cL [⟨nmS, A1, c1, schK⟩, ⟨nmR, A2, c2, le 3 4⟩, ⟨nmD, A3, c3, dK⟩, ⟨nmF, A4, c4, fK⟩]) (h1 : SlB wB A1 c1 schK) (h2 : SlB wB A2 c2 (le 3 4))
    (hr : Row w o 114 (opV s (.slice Ab nb cbb) AL 4 cL)) (hs : Row w s 30 [.slice none 0 0, .int .i64 0, .slice none 0 0, .slice none 0 0, .slice none 0 0, .int .i64 0, .int .i64 0, .slice none 0 0, .pointer none]) :
    Calls Tryz.prog 47 #[.pointer (some ⟨o, 0, none⟩)] w fun e w' => e = .returned (.tuple #[]) ∧ ∃ A c iA ic rA rc sA sc, Row w' o 114 (opV s (.slice Ab nb cbb) (tailA (tailA AL cL) (cL - 1)) 2 (cL - 1 - 1)) ∧ HdK w' w.heap.size s A c iA ic rA rc sA sc 3 (.slice none 0 0) ∧ Turn w w' [o, s] := by
  have hos : o ≠ s := row_ne hr hs (by decide)
  have r0 := hr.cell 0 _ rfl
  have hob := hr.lt
  have HR := Lib.hid hr
  have HS := Lib.hid hs
  have HL := Lib.hid hL
  have H1 := Lib.hid h1
  have H2 := Lib.hid h2
  have HKB := Lib.hid hkb
  have HSO := Lib.hid so_ok
  have HMU := Lib.hid must_ok
  have hsb := hs.lt
  clear hr hs hL h1 h2 hkb
  go_enter Tryz.func47, Tryz.ntmps47
  go_upto_region 1 with fail
  go_cut [2] from 4 to 22 (fun s2 wx => s2 = .int .i64 0 ∧ ∃ A c iA ic rA rc sA sc, Hid (Row wx o 114 (opV s (.slice Ab nb cbb) (tailA AL cL) 3 (cL - 1))) ∧ Hid (HdK wx w.heap.size s A c iA ic rA rc sA sc 0 (.slice none 0 0)) ∧ Hid (Turn w wx [o, s]))
  case first =>
    --DEVCUT
    go_region_with (first
      | (go_at_call 90
         refine (next_any o s (.slice Ab nb cbb) AL cL ⟨nmS, A1, c1, schK⟩ _ _ (HR.out.keep (by repeat (first | exact Keep.refl _ | apply Keep.alloc | apply Keep.gro | apply Keep.drew | apply Keep.drewN))) (HL.out.keep (HKB.out.trans (by repeat (first | exact Keep.refl _ | apply Keep.alloc | apply Keep.gro | apply Keep.drew | apply Keep.drewN))))).mono ?_
         rintro e w5 ⟨rfl, hR5, hT5⟩
         have HT5 := Lib.hid (Turn.trans (Turn.keep (show Keep w _ from (by repeat (first | exact Keep.refl _ | apply Keep.alloc | apply Keep.gro | apply Keep.drew | apply Keep.drewN))) [o]) hT5)
         have HR5 := Lib.hid hR5
         have r5 := hR5.cell 0 _ rfl
         have hob5 := hR5.lt
         have HK5 := Lib.hid (Turn.after HKB.out HT5.out (fun i hi => by simp at hi; omega))
         clear hR5 hT5)
      | (go_at_call 89
         refine (schread_any A1 c1 schK [colK] cK0 _ rfl (H1.out.keep (HK5.out.trans (by repeat (first | exact Keep.refl _ | apply Keep.alloc | apply Keep.gro | apply Keep.drew | apply Keep.drewN)))) cK0_k.fits).mono ?_
         rintro e w6 ⟨v1, v2, v3, v4, rfl, o1, o2, o3, o4, hk6⟩
         rw [show flagsR cK0.inv [colK].length = [false] from rfl] at o2
         rw [show flagsR cK0.rng [colK].length = [false] from rfl] at o3
         rw [show cK0.split = [] from rfl] at o4
         obtain ⟨B1, b1, rfl, _⟩ := o1.sl (fun _ => rfl) (by simp)
         obtain ⟨B2, b2, rfl, _⟩ := o2.sl (fun _ => rfl) (by simp)
         obtain ⟨B3, b3, rfl, _⟩ := o3.sl (fun _ => rfl) (by simp)
         obtain ⟨B4, b4, rfl, _⟩ := o4.sl (fun _ => rfl) (by simp)
         have hz6 : w.heap.size ≤ w5.heap.size := HT5.out.size
         have HH6 := Lib.hid (⟨(HT5.out.row HS.out (by simpa using fun e => hos e.symm)).keep hk6, own_down o1 _ hz6, own_down o2 _ hz6, own_down o3 _ hz6, own_down o4 _ hz6⟩ : Hd0 w6 w.heap.size s B1 b1 B2 b2 B3 b3 B4 b4)
         have HR6 := Lib.hid (HR5.out.keep hk6)
         have HT6 := Lib.hid (HT5.out.keep_ hk6)
         have r6 := HR6.out.cell 0 _ rfl
         have hob6 := HR6.out.lt
         have s0 := HH6.out.row.cell 0 _ rfl
         have s1 := HH6.out.row.cell 1 _ rfl
         have s2 := HH6.out.row.cell 2 _ rfl
         have s3 := HH6.out.row.cell 3 _ rfl
         have s4 := HH6.out.row.cell 4 _ rfl
         have s5 := HH6.out.row.cell 5 _ rfl
         have t0 := HH6.out.row.soft 0
         have t1 := HH6.out.row.soft 1
         have t2 := HH6.out.row.soft 2
         have t3 := HH6.out.row.soft 3
         have t4 := HH6.out.row.soft 4
         have t5 := HH6.out.row.soft 5
         clear o1 o2 o3 o4 hk6))
    all_goals
      go_wp2_with fail
      go_meet
      refine ⟨rfl, B1, b1, B2, b2, B3, b3, B4, b4, ?_⟩
      clear s0 s1 s2 s3 s4 s5 t0 t1 t2 t3 t4 t5 r5 r6 r0
      first
      | exact HH6.out.done hos hsb HR6.out HT6.out ((((((HH6.out.row.set 0 (.slice B1 1 b1)).set 1 (.int .i64 cK0.sort)).set 2 (.slice B2 1 b2)).set 3 (.slice B3 1 b3)).set 4 (.slice B4 0 b4)).set 5 (.int .i64 cK0.leaf)) (((((((Turn.refl _ [s]).setc (by simp) _).setc (by simp) _).setc (by simp) _).setc (by simp) _).setc (by simp) _).setc (by simp) _)
      | exact HH6.out.done hos hsb HR6.out HT6.out ((((((HH6.out.row.set 1 (.int .i64 cK0.sort)).set 2 (.slice B2 1 b2)).set 3 (.slice B3 1 b3)).set 4 (.slice B4 0 b4)).set 5 (.int .i64 cK0.leaf)).set 0 (.slice B1 1 b1)) (((((((Turn.refl _ [s]).setc (by simp) _).setc (by simp) _).setc (by simp) _).setc (by simp) _).setc (by simp) _).setc (by simp) _)
    --DEVEND
  case rest =>
    rename World => w7
    obtain ⟨rfl, A, c, iA, ic, rA, rc, sA, sc, HR7, HD7, HT7⟩ := hcut
    have HK7 := Lib.hid (Turn.after HKB.out HT7.out (fun i hi => by simp only [List.mem_cons, List.not_mem_nil, or_false] at hi; omega))
    go_wp2_with (first | (go_at_call 46; refine (HMU.out _).mono ?_; rintro e w' ⟨rfl, rfl⟩) | (go_at_call 90; refine Zone.hold ?_))
    refine Zone.unhold ?_
    refine (next_any o s (.slice Ab nb cbb) (tailA AL cL) (cL - 1) ⟨nmR, A2, c2, le 3 4⟩ [⟨nmD, A3, c3, dK⟩, ⟨nmF, A4, c4, fK⟩] _ HR7.out (tail_sl (HL.out.keep HK7.out))).mono ?_
    rintro e w8 ⟨rfl, hR8, hT8⟩
    have HR8 := Lib.hid hR8
    have HD8 := Lib.hid (HD7.out.turn hT8 (by simpa using fun e => hos e.symm) (fun g hg => by simp only [List.mem_singleton] at hg; omega))
    have HT8 := Lib.hid (HT7.out.trans2 hT8 (fun i hi => .inl (by simp only [List.mem_singleton] at hi; simp [hi])))
    have HK8 := Lib.hid (Turn.after HK7.out hT8 (fun i hi => by simp only [List.mem_singleton] at hi; omega))
    clear hR8 hT8 HR7 HD7 HT7 HK7 r0 hob
    go_upto_region 5 with (go_at_call 50; refine (HSO.out _).mono ?_; rintro e w' ⟨rfl, rfl⟩)
    have r0 := HR8.out.cell 0 _ rfl
    have hob := HR8.out.lt
    have x6 := HD8.out.row.cell 6 _ rfl
    have f6 := HD8.out.row.soft 6
    have hsb8 := HD8.out.row.lt
    have HNE := Lib.hid (show ∀ R, w8.heap.size ≤ R → s ≠ R ∧ o ≠ R from fun R hR => ⟨by omega, by omega⟩)
    go_cut [] from 31 to 40 (fun wx => Hid (Row wx o 114 (opV s (.slice Ab nb cbb) (tailA (tailA AL cL) (cL - 1)) 2 (cL - 1 - 1))) ∧ Hid (HdK wx w.heap.size s A c iA ic rA rc sA sc 3 (.slice none 0 0)) ∧ Hid (Turn w wx [o, s]))
    case first =>
      --DEVCUT
      go_region_with (first
        | (go_at_call 91
           refine (new_any A2 c2 (le 3 4) _ ((H2.out.keep HK8.out).keep (by repeat (first | exact Keep.refl _ | apply Keep.alloc | apply Keep.gro | apply Keep.drew | apply Keep.drewN)))).mono ?_
           rintro e w9 ⟨R, A9, c9, rfl, hR9, hrd9, hk9⟩
           have HK9 := Lib.hid (Keep.trans (show Keep w8 _ from (by repeat (first | exact Keep.refl _ | apply Keep.alloc | apply Keep.gro | apply Keep.drew | apply Keep.drewN))) hk9)
           have HRD9 := Lib.hid hrd9
           have HRZ := Lib.hid (show w8.heap.size ≤ R from hR9)
           have r9 := (HR8.out.keep HK9.out).cell 0 _ rfl
           have hob9 := (HR8.out.keep HK9.out).lt
           clear hrd9 hk9 hR9)
        | (go_at_call 92
           refine (u32_at _ 3 (by omega) (HRD9.out.keep (by repeat (first | exact Keep.refl _ | apply Keep.alloc | apply Keep.gro | apply Keep.drew | apply Keep.drewN))) (rest := []) rfl).mono ?_
           rintro e w10 ⟨rfl, hrd10, hg10⟩
           have HK10 := Lib.hid (Keep.grown (HK9.out.trans (by repeat (first | exact Keep.refl _ | apply Keep.alloc | apply Keep.gro | apply Keep.drew | apply Keep.drewN))) hg10 fun k e => by cases e; exact HRZ.out)
           have r10 := (HR8.out.keep HK10.out).cell 0 _ rfl
           have hob10 := (HR8.out.keep HK10.out).lt
           have x10 := (HD8.out.keep HK10.out).row.cell 6 _ rfl
           have f10 := (HD8.out.keep HK10.out).row.soft 6
           clear hrd10 hg10))
      all_goals
        go_wp2_with fail
        go_meet
        exact ⟨(HR8.out.keep (HK10.out.trans (by repeat (first | exact Keep.refl _ | apply Keep.alloc | apply Keep.gro | apply Keep.drew | apply Keep.drewN)))).other 6 _ (fun e => hos e.symm), (HD8.out.keep (HK10.out.trans (by repeat (first | exact Keep.refl _ | apply Keep.alloc | apply Keep.gro | apply Keep.drew | apply Keep.drewN)))).set6 hsb 3, (HT8.out.keep_ (HK10.out.trans (by repeat (first | exact Keep.refl _ | apply Keep.alloc | apply Keep.gro | apply Keep.drew | apply Keep.drewN)))).setc (by simp) _⟩
      --DEVEND
    case rest =>
      rename World => w11
      obtain ⟨HR11, HD11, HT11⟩ := hcut
      clear r0 hob x6 f6 HNE
      have r0 := HR11.out.cell 0 _ rfl
      have r1 := HR11.out.cell 1 _ rfl
      have hob := HR11.out.lt
      have x6 := HD11.out.row.cell 6 _ rfl
      have hsb11 := HD11.out.row.lt
      have hw8 : IntKind.i64.wrap (8 * (nb : Int)) = 8 * (nb : Int) := IntWalk.i64_in _ ⟨by omega, by omega⟩
      have hd8 : decide ((3 : Int) ≤ 8 * (nb : Int)) = true := by simp; omega
      go_wp2
      first | refine Zone.wp_region_all_gro (by kernel_rfl) (by kernel_rfl) ?_ | refine Zone.wp_region_all (by kernel_rfl) (by kernel_rfl) ?_
      repeat
        refine Zone.wpZ_step (fun K hK => ?_)
        go_simp
        first
        | (refine hK _ _ ?_; clear hK K)
        | (apply Exists.intro
           refine ⟨fun p => ?_, hK _ _ ?_⟩
           ((go_at_call 50; exact Zone.zs (HSO.out _)))
           clear hK K)
      refine Zone.wpZ_nil ?_
      intro p
      simp only [Zone.fill]
      go_wp2
      go_end0
      exact ⟨rfl, A, c, iA, ic, rA, rc, sA, sc, HR11.out.keep (by repeat (first | exact Keep.refl _ | apply Keep.alloc | apply Keep.gro | apply Keep.drew | apply Keep.drewN)), HD11.out.keep (by repeat (first | exact Keep.refl _ | apply Keep.alloc | apply Keep.gro | apply Keep.drew | apply Keep.drewN)), HT11.out.keep_ (by repeat (first | exact Keep.refl _ | apply Keep.alloc | apply Keep.gro | apply Keep.drew | apply Keep.drewN))⟩
end Go.Proofs.YtmcaednlilhnoaaGreatDoor
