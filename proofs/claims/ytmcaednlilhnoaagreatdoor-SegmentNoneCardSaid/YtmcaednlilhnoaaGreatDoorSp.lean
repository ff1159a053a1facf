
/- segment: Open of the sample's image, and of what is no image. -/
import Derived.WalkKit
import Derived.Lib.Hide
import Derived.WalkSpells
import Derived.WalkLawsBesides
import Derived.BigQuiet
import Derived.Shelf.Abstract
import Derived.Defers
import Derived.Recover
import Derived.Deep.Cut
import Derived.Test.YtmcaednlilhnoaaGreatDoorSo
import Derived.Test.YtmcaednlilhnoaaGreatDoorSr
import Derived.Test.YtmcaednlilhnoaaGreatDoorSn
import Derived.Test.YtmcaednlilhnoaaGreatDoorSj
namespace Go.Proofs.YtmcaednlilhnoaaGreatDoor
open Go.RowKit Go.Zone Go.Shelf
attribute [local go_sem] Zone.zone Zone.stepZ Zone.fill Zone.lookFs Zone.goes Zone.goesUpon Zone.dropFs Zone.cell_gro Zone.frozen_gro Zone.size_gro Zone.lt_add Zone.drew_gro Zone.tape_gro Zone.keep_refl
attribute [local go_sem] Zone.lt_add2 Zone.lt_add3 Zone.lt_add4 Zone.lt_add5 Zone.lt_add6 Zone.lt_add7 Zone.lt_add8 Zone.lt_add9 Zone.lt_add10 Zone.lt_add11 Zone.lt_add12
/-- the sample's segment, all of it in memory from a block on -/
def SegX (lo : Nat) (w : World) (s : Nat) : Prop := ∃ cb db fb A c f2 f3 f4 cc Ad cd Af cf, SegK w s cb db fb (.slice A 1 c) f2 f3 f4 cc Ad cd Af cf ∧ lo ≤ s ∧ lo ≤ cb ∧ lo ≤ db ∧ lo ≤ fb ∧ (∀ g off, Ad = some ⟨g, off, none⟩ → lo ≤ g) ∧ (∀ g off, Af = some ⟨g, off, none⟩ → lo ≤ g)
theorem SegX.keep {lo : Nat} {w w' : World} {s : Nat} (h : SegX lo w s) (hk : Keep w w') : SegX lo w' s := by
  obtain ⟨cb, db, fb, A, c, f2, f3, f4, cc, Ad, cd, Af, cf, h1, h2⟩ := h
  exact ⟨cb, db, fb, A, c, f2, f3, f4, cc, Ad, cd, Af, cf, h1.keep hk, h2⟩
theorem SegX.turn {lo : Nat} {w w' : World} {s : Nat} {S : List Nat} (h : SegX lo w s) (ht : Turn w w' S) (hS : ∀ g ∈ S, g < lo) : SegX lo w' s := by
  obtain ⟨cb, db, fb, A, c, f2, f3, f4, cc, Ad, cd, Af, cf, h1, hs, hc, hd, hf, hA, hB⟩ := h
  have hn : ∀ {g : Nat}, lo ≤ g → g ∉ S := fun hg hm => by have := hS _ hm; omega
  have e : ∀ j u, w.cell? ⟨cb, j, none⟩ = some u → w'.cell? ⟨cb, j, none⟩ = some u := fun j u hu => ht.cell hu (hn hc)
  exact ⟨cb, db, fb, A, c, f2, f3, f4, cc, Ad, cd, Af, cf, ⟨ht.row h1.row (hn hs), e _ _ h1.c0, e _ _ h1.c1, e _ _ h1.c2, e _ _ h1.c3, e _ _ h1.c4, e _ _ h1.c5, h1.d.turn ht (hn hd) (fun g off e => hn (hA g off e)), h1.f.turn ht (hn hf) (fun g off e => hn (hB g off e)), h1.cc1⟩, hs, hc, hd, hf, hA, hB⟩
theorem SegX.lower {lo lo' : Nat} {w : World} {s : Nat} (h : SegX lo w s) (hl : lo' ≤ lo) : SegX lo' w s := by
  obtain ⟨cb, db, fb, A, c, f2, f3, f4, cc, Ad, cd, Af, cf, h1, hs, hc, hd, hf, hA, hB⟩ := h
  exact ⟨cb, db, fb, A, c, f2, f3, f4, cc, Ad, cd, Af, cf, h1, by omega, by omega, by omega, by omega, fun g off e => Nat.le_trans hl (hA g off e), fun g off e => Nat.le_trans hl (hB g off e)⟩
theorem secs_small {S : List Sec} (hS : S.map nbS = nbK) : ∀ x ∈ S, x.bs.length ≤ 1000000 := fun x hx => by
  have hm : nbS x ∈ nbK := by rw [← hS]; exact List.mem_map_of_mem hx
  simp only [nbK, List.mem_cons, List.not_mem_nil, or_false] at hm
  obtain ⟨nx, Ax, cx, bx⟩ := x
  simp only [nbS, Prod.mk.injEq] at hm
  rcases hm with ⟨_, e⟩ | ⟨_, e⟩ | ⟨_, e⟩ | ⟨_, e⟩ <;> simp only [e]
  · rw [schK_len]; omega
  · rw [le_len]; omega
  · rw [dK_len]; omega
  · rw [fK_len]; omega
theorem make_fn (fn : Fn) (first cap : Array Value) (w : World) : (Instr.makeFunc fn first cap).run Tryz.prog w = .ok (.func fn first cap) w := rfl
set_option maxRecDepth 100000 in
set_option maxHeartbeats 4000000 in
/-- what is no image is refused -/
theorem open_err (v : Value) (x : Int) (hx : ¬ x = 0) (w : World) (hrd : ∀ W, Keep w W → Calls Tryz.prog 45 #[v] W fun e w' => e = .returned (.tuple #[.slice none 0 0, .int .i64 x]) ∧ Keep W w') :
    Calls Tryz.prog 28 #[v] w fun e w' => e = .returned (.tuple #[.pointer none, .int .i64 x]) ∧ Keep w w' := by
  have HRD := Lib.hid hrd
  have hmf := make_fn
  clear hrd
  go_enter_defers Tryz.func28, Tryz.ntmps28
  go_wp2_with (go_at_call 45; refine Zone.hold ?_)
  refine Zone.unhold ?_
  have hk0 : Keep w ((w.alloc (.cells #[.pointer none] 31)).alloc (.cells #[.int .i64 0] 34)) := (by repeat (first | exact Keep.refl _ | apply Keep.alloc | apply Keep.gro | apply Keep.drew | apply Keep.drewN))
  have r6 : Row ((w.alloc (.cells #[.pointer none] 31)).alloc (.cells #[.int .i64 0] 34)) w.heap.size 31 [.pointer none] := (row_alloc w _ _).keep (by repeat (first | exact Keep.refl _ | apply Keep.alloc | apply Keep.gro | apply Keep.drew | apply Keep.drewN))
  have r7 : Row ((w.alloc (.cells #[.pointer none] 31)).alloc (.cells #[.int .i64 0] 34)) (w.heap.size + 1) 34 [.int .i64 0] := by
    have := row_alloc (w.alloc (.cells #[.pointer none] 31)) 34 [.int .i64 0]
    rwa [World.size_alloc] at this
  generalize (w.alloc (.cells #[.pointer none] 31)).alloc (.cells #[.int .i64 0] 34) = w0 at hk0 r6 r7 ⊢
  refine (HRD.out _ hk0).mono ?_
  rintro e w1 ⟨rfl, hk1⟩
  have HK1 := Lib.hid (hk0.trans hk1)
  have HR6 := Lib.hid (r6.keep hk1)
  have HR7 := Lib.hid (r7.keep hk1)
  have c7 := HR7.out.cell 0 _ rfl
  have f7 := HR7.out.soft 0
  have hl7 := HR7.out.lt
  clear hk0 hk1 r6 r7 HRD
  go_wp2_with (go_at_call 46; refine (must_no x hx _).mono ?_; rintro e w' ⟨rfl, rfl⟩)
  have q6 := HR6.out.other (b := w.heap.size + 1) 0 (.int .i64 x) (by omega)
  have q7 := HR7.out.set 0 (.int .i64 x)
  have hne : w.heap.size ≠ w.heap.size + 1 := by omega
  refine leaves_cons (f := 44) (args := #[.pointer (some ⟨w.heap.size, 0, none⟩), .pointer (some ⟨w.heap.size + 1, 0, none⟩)]) (by simp) (by simp [go_sem]) ?_
  refine (catch_panicking w.heap.size (w.heap.size + 1) x _ _ _ (q6.cell 0 _ rfl) (q7.cell 0 _ rfl) (q6.soft 0) (q7.soft 0) hne).mono ?_
  rintro e u' w'' ⟨rfl, rfl, rfl⟩
  have p6 := ((q6.set 0 (.pointer none)).other (b := w.heap.size + 1) 0 (.int .i64 x) (by omega)).cell 0 _ rfl
  have p7 := ((q7.other (b := w.heap.size) 0 (.pointer none) (by omega)).set 0 (.int .i64 x)).cell 0 _ rfl
  have hkf : Keep w (((w1.setCell ⟨w.heap.size + 1, 0, none⟩ (.int .i64 x)).setCell ⟨w.heap.size, 0, none⟩ (.pointer none)).setCell ⟨w.heap.size + 1, 0, none⟩ (.int .i64 x)) := ((HK1.out.setCell (by simp) _).setCell (Nat.le_refl _) _).setCell (by simp) _
  simp [Leaves, settle, results, Tryz.results28, go_sem, p6, p7]
  exact hkf
set_option maxRecDepth 100000 in
set_option maxHeartbeats 4000000 in
/-- the sample's image is opened -/
theorem open_k (A : Option Addr) (c : Nat) (S : List Sec) (w : World) (hS : S.map nbS = nbK) (h : SlB w A c (imageB S)) :
    Calls Tryz.prog 28 #[.slice A (imageB S).length c] w fun e w' => ∃ s, e = .returned (.tuple #[.pointer (some ⟨s, 0, none⟩), .int .i64 0]) ∧ SegX w.heap.size w' s ∧ Keep w w' := by
  have HRD := Lib.hid (fun W (hk : Keep w W) => sread_img A c S [] (imageB S) W (List.append_nil _).symm (h.keep hk) (secs_k S hS) (secs_small hS))
  have HS := Lib.hid hS
  have H := Lib.hid h
  have HIL := Lib.hid (imageK_len hS)
  have HI1 := Lib.hid (show 1 ≤ (imageB S).length by simp only [imageB, List.length_append, List.length_cons]; omega)
  have hmf := make_fn
  clear h hS
  generalize hn : (imageB S).length = n at HRD HIL HI1
  have HN := Lib.hid hn
  clear hn
  go_enter_defers Tryz.func28, Tryz.ntmps28
  go_wp2_with (go_at_call 45; refine Zone.hold ?_)
  refine Zone.unhold ?_
  have hk0 : Keep w ((w.alloc (.cells #[.pointer none] 31)).alloc (.cells #[.int .i64 0] 34)) := (by repeat (first | exact Keep.refl _ | apply Keep.alloc | apply Keep.gro | apply Keep.drew | apply Keep.drewN))
  have r6 : Row ((w.alloc (.cells #[.pointer none] 31)).alloc (.cells #[.int .i64 0] 34)) w.heap.size 31 [.pointer none] := (row_alloc w _ _).keep (by repeat (first | exact Keep.refl _ | apply Keep.alloc | apply Keep.gro | apply Keep.drew | apply Keep.drewN))
  have r7 : Row ((w.alloc (.cells #[.pointer none] 31)).alloc (.cells #[.int .i64 0] 34)) (w.heap.size + 1) 34 [.int .i64 0] := by
    have := row_alloc (w.alloc (.cells #[.pointer none] 31)) 34 [.int .i64 0]
    rwa [World.size_alloc] at this
  generalize (w.alloc (.cells #[.pointer none] 31)).alloc (.cells #[.int .i64 0] 34) = w0 at hk0 r6 r7 ⊢
  refine (HRD.out _ hk0).mono ?_
  rintro e w1 ⟨⟨AL, cL, L, hor, hsl, hown, hnb⟩, hk1⟩
  rw [HS.out] at hnb
  have hl : L.length = 4 := by simpa [nbK] using congrArg List.length hnb
  obtain ⟨x1, x2, x3, x4, rfl⟩ : ∃ x1 x2 x3 x4, L = [x1, x2, x3, x4] := by
    match L, hl with
    | [a, b, c, d], _ => exact ⟨a, b, c, d, rfl⟩
  obtain ⟨na, Aa, ca, ba⟩ := x1
  obtain ⟨nb, Ab, cb, bb⟩ := x2
  obtain ⟨nc, Ac, cc, bc⟩ := x3
  obtain ⟨nd, Ad, cd, bd⟩ := x4
  simp only [List.map_cons, List.map_nil, nbS, nbK, List.cons.injEq, Prod.mk.injEq, and_true] at hnb
  obtain ⟨⟨rfl, rfl⟩, ⟨rfl, rfl⟩, ⟨rfl, rfl⟩, rfl, rfl⟩ := hnb
  obtain rfl : e = .returned (.tuple #[.slice AL 4 cL, .int .i64 0]) := by
    rcases hor with ⟨_, h1⟩ | ⟨h0, _⟩
    · exact h1
    · exact absurd rfl h0
  clear hor hl
  have HR6 := Lib.hid (r6.keep hk1)
  have HR7 := Lib.hid (r7.keep hk1)
  have HK1 := Lib.hid (hk0.trans hk1)
  have hz0 : w.heap.size + 1 < w0.heap.size := r7.lt
  have c7 := HR7.out.cell 0 _ rfl
  have f7 := HR7.out.soft 0
  have hl7 := HR7.out.lt
  have HSL := Lib.hid hsl
  have HOW := Lib.hid hown
  clear hk0 hk1 r6 r7 HRD hsl hown
  go_wp2_with (go_at_call 46; refine Zone.hold ?_)
  refine Zone.unhold ?_
  have tB : Turn w1 (w1.setCell ⟨w.heap.size + 1, 0, none⟩ (.int .i64 0)) [w.heap.size + 1] := Turn.set _ _ _
  have hkB : Keep w (w1.setCell ⟨w.heap.size + 1, 0, none⟩ (.int .i64 0)) := HK1.out.setCell (by simp) _
  have r6 : Row (w1.setCell ⟨w.heap.size + 1, 0, none⟩ (.int .i64 0)) w.heap.size 31 [.pointer none] := HR6.out.other (b := w.heap.size + 1) 0 _ (by omega)
  have r7 : Row (w1.setCell ⟨w.heap.size + 1, 0, none⟩ (.int .i64 0)) (w.heap.size + 1) 34 [.int .i64 0] := HR7.out.set 0 _
  generalize w1.setCell ⟨w.heap.size + 1, 0, none⟩ (.int .i64 0) = wB at tB r6 r7 hkB ⊢
  have HLB := Lib.hid (HSL.out.turn tB (fun b off e => by
    obtain ⟨b', off', e', _, c0, _⟩ := sl_sec HSL.out 0 (by simp)
    rw [e] at e'
    cases e'
    simpa using row_ne_cell HR7.out c0 (by simp)))
  have hcut : ∀ x ∈ ([⟨⟨#[115, 99, 104, 101, 109, 97]⟩, Aa, ca, schK⟩, ⟨⟨#[114, 111, 119, 115]⟩, Ab, cb, le 3 4⟩, ⟨⟨#[100, 105, 99, 116, 46, 48]⟩, Ac, cc, dK⟩, ⟨⟨#[102, 111, 114, 119, 97, 114, 100, 46, 48]⟩, Ad, cd, fK⟩] : List Sec), x.bs.length ≤ 1000000 → SlB wB x.A x.c x.bs := fun x hx hxl => by
    have h1 := Own.turn (HOW.out x hx) tB (fun g hg e => by simp only [List.mem_singleton] at hg; have := ((HOW.out x hx).lt g e).1; omega)
    obtain ⟨A9, c9, hv9, hs9⟩ := h1.sl b8_len (by omega)
    injection hv9 with e1 e2 e3
    subst e1; subst e3
    exact hs9
  have HA := Lib.hid (hcut ⟨⟨#[115, 99, 104, 101, 109, 97]⟩, Aa, ca, schK⟩ (by simp) (by simp only [schK_len]; omega))
  have HB := Lib.hid (hcut ⟨⟨#[114, 111, 119, 115]⟩, Ab, cb, le 3 4⟩ (by simp) (by simp only [le_len]; omega))
  have HC := Lib.hid (hcut ⟨⟨#[100, 105, 99, 116, 46, 48]⟩, Ac, cc, dK⟩ (by simp) (by simp only [dK_len]; omega))
  have HD := Lib.hid (hcut ⟨⟨#[102, 111, 114, 119, 97, 114, 100, 46, 48]⟩, Ad, cd, fK⟩ (by simp) (by simp only [fK_len]; omega))
  have HKB := Lib.hid hkB
  have HQ6 := Lib.hid r6
  have HQ7 := Lib.hid r7
  clear tB hkB r6 r7 hcut HSL HOW HR6 HR7 HK1 c7 f7 hl7 hz0
  refine (must_ok _).mono ?_
  rintro e w' ⟨rfl, rfl⟩
  go_wp2_with (go_at_call 47; refine Zone.hold ?_)
  refine Zone.unhold ?_
  have hk3 : Keep wB ((wB.alloc (.cells #[.slice none 0 0, .int .i64 0, .slice none 0 0, .slice none 0 0, .slice none 0 0, .int .i64 0, .int .i64 0, .slice none 0 0, .pointer none] 30)).alloc (.cells #[.pointer (some ⟨wB.heap.size, 0, none⟩), .slice A n c, .slice AL 4 cL] 114)) := (by repeat (first | exact Keep.refl _ | apply Keep.alloc | apply Keep.gro | apply Keep.drew | apply Keep.drewN))
  have rs : Row ((wB.alloc (.cells #[.slice none 0 0, .int .i64 0, .slice none 0 0, .slice none 0 0, .slice none 0 0, .int .i64 0, .int .i64 0, .slice none 0 0, .pointer none] 30)).alloc (.cells #[.pointer (some ⟨wB.heap.size, 0, none⟩), .slice A n c, .slice AL 4 cL] 114)) wB.heap.size 30 [.slice none 0 0, .int .i64 0, .slice none 0 0, .slice none 0 0, .slice none 0 0, .int .i64 0, .int .i64 0, .slice none 0 0, .pointer none] := (row_alloc wB _ _).keep (by repeat (first | exact Keep.refl _ | apply Keep.alloc | apply Keep.gro | apply Keep.drew | apply Keep.drewN))
  have ro : Row ((wB.alloc (.cells #[.slice none 0 0, .int .i64 0, .slice none 0 0, .slice none 0 0, .slice none 0 0, .int .i64 0, .int .i64 0, .slice none 0 0, .pointer none] 30)).alloc (.cells #[.pointer (some ⟨wB.heap.size, 0, none⟩), .slice A n c, .slice AL 4 cL] 114)) (wB.heap.size + 1) 114 (opV wB.heap.size (.slice A n c) AL 4 cL) := by
    have := row_alloc (wB.alloc (.cells #[.slice none 0 0, .int .i64 0, .slice none 0 0, .slice none 0 0, .slice none 0 0, .int .i64 0, .int .i64 0, .slice none 0 0, .pointer none] 30)) 114 (opV wB.heap.size (.slice A n c) AL 4 cL)
    rwa [World.size_alloc] at this
  generalize (wB.alloc (.cells #[.slice none 0 0, .int .i64 0, .slice none 0 0, .slice none 0 0, .slice none 0 0, .int .i64 0, .int .i64 0, .slice none 0 0, .pointer none] 30)).alloc (.cells #[.pointer (some ⟨wB.heap.size, 0, none⟩), .slice A n c, .slice AL 4 cL] 114) = w3 at hk3 rs ro ⊢
  obtain ⟨s, hs⟩ : ∃ s, wB.heap.size = s := ⟨_, rfl⟩
  have HSE := Lib.hid hs
  rw [hs] at rs ro ⊢
  obtain ⟨o, ho⟩ : ∃ o, s + 1 = o := ⟨_, rfl⟩
  rw [ho] at ro ⊢
  have hso : s < o := by omega
  have ho3 : o < w3.heap.size := ro.lt
  have hws : w.heap.size + 1 < s := by have := HQ7.out.lt; omega
  clear hs ho
  refine (head_k wB w3 hk3 (by have := HSE.out; omega) (by have := HSE.out; omega) HI1.out HIL.out HLB.out HA.out HB.out ro rs).mono ?_
  rintro e w4 ⟨rfl, A5, c5, iA, ic, rA, rc, sA, sc, hr4, hd4, ht4⟩
  have HR4 := Lib.hid hr4
  have HD4 := Lib.hid hd4
  have HT4 := Lib.hid ht4
  have HK4 := Lib.hid (Turn.after hk3 ht4 (fun i hi => by simp only [List.mem_cons, List.not_mem_nil, or_false] at hi; have := HSE.out; omega))
  have HZ3 := Lib.hid hk3.size
  have r0 := hr4.cell 0 _ rfl
  have s0 := hd4.row.cell 0 _ rfl
  have ho4 := hr4.lt
  have hs4 := hd4.row.lt
  have hz34 := ht4.size
  clear hk3 rs ro hr4 hd4 ht4
  go_wp2
  refine wp_loop_rounds 2 ?_
  rw [rounds_succ]
  go_wp2_with (go_at_call 48; refine Zone.hold ?_)
  refine Zone.unhold ?_
  refine (column_k wB w4 HK4.out (by have := HSE.out; omega) (by have := HSE.out; omega) ho3 (by omega) hz34 (tail_sl (tail_sl HLB.out)) HC.out HD.out HR4.out HD4.out).mono ?_
  rintro e w5 ⟨rfl, cb2, cc2, db, Ad2, cd2, fb, Af, cf, hr5, hd5, ho5, hdi5, hix5, hdb, hfb, hAd, hAf, ht5⟩
  obtain ⟨_, _, hv5, hsl5⟩ := ho5.sl cl_len (by simp)
  injection hv5 with e1 e2 e3
  clear e2
  subst e1; subst e3
  have hcb5 := (ho5.lt cb2 rfl).1
  have hcell : ∀ j u, (clV (db, fb))[j]? = some u → w5.cell? ⟨cb2, j, none⟩ = some u := fun j u hu => by
    obtain ⟨b', off', e', hc⟩ := hsl5.at_ 0 (by simp)
    cases e'
    have := hc j u hu
    simpa using this
  have hseg : SegK w5 s cb2 db fb (.slice A5 1 c5) (.slice iA 1 ic) (.slice rA 1 rc) (.slice sA 0 sc) cc2 Ad2 cd2 Af cf := ⟨hd5.row, hcell 0 _ rfl, hcell 1 _ rfl, hcell 2 _ rfl, hcell 3 _ rfl, hcell 4 _ rfl, hcell 5 _ rfl, hdi5, hix5, hsl5.cap⟩
  have HG5 := Lib.hid hseg
  have HR5 := Lib.hid hr5
  have HD5 := Lib.hid hd5
  have HK5 := Lib.hid (Turn.after HK4.out ht5 (fun i hi => by simp only [List.mem_cons, List.not_mem_nil, or_false] at hi; have := HSE.out; omega))
  have HF5 := Lib.hid (show s < w4.heap.size ∧ w4.heap.size ≤ cb2 ∧ w4.heap.size ≤ db ∧ w4.heap.size ≤ fb ∧ (∀ g off, Ad2 = some ⟨g, off, none⟩ → w4.heap.size ≤ g) ∧ (∀ g off, Af = some ⟨g, off, none⟩ → w4.heap.size ≤ g) from ⟨hs4, hcb5, hdb, hfb, hAd, hAf⟩)
  have r0 := hr5.cell 0 _ rfl
  have r2 := hr5.cell 2 _ rfl
  have ho5 := hr5.lt
  have HRT := Lib.hid (tree_no o s (.slice A n c) _ _ _ _ _ _ _ _ _ _ _ w5 hr5 hd5.row)
  have HSO := Lib.hid so_ok
  clear hcell hseg hr5 hd5 hdi5 hix5 hdb hfb hAd hAf ht5 hsl5 hcb5
  go_wp2
  rw [rounds_succ]
  go_wp2_with (go_at_call 49; refine Zone.hold ?_)
  refine Zone.unhold ?_
  refine HRT.out.mono ?_
  rintro e w' ⟨rfl, rfl⟩
  go_wp2_with (first | (go_at_call 50; refine (HSO.out _).mono ?_; rintro e w' ⟨rfl, rfl⟩) | (go_at_call 51; refine Zone.hold ?_))
  refine Zone.unhold ?_
  have hcolS : Sl w5 2 Col.cells A5 c5 [colK] := by
    obtain ⟨_, _, hv, h9⟩ := HD5.out.l.sl (fun _ => rfl) (by simp)
    injection hv with e1 e2 e3
    subst e1; subst e3
    exact h9
  have hiS : Sl w5 1 flV iA ic [false] := by
    obtain ⟨_, _, hv, h9⟩ := HD5.out.i.sl (fun _ => rfl) (by simp)
    injection hv with e1 e2 e3
    subst e1; subst e3
    exact h9
  have hrS : Sl w5 1 flV rA rc [false] := by
    obtain ⟨_, _, hv, h9⟩ := HD5.out.r.sl (fun _ => rfl) (by simp)
    injection hv with e1 e2 e3
    subst e1; subst e3
    exact h9
  have hpS : Sl w5 1 i64V sA sc [] := by
    obtain ⟨_, _, hv, h9⟩ := HD5.out.p.sl (fun _ => rfl) (by simp)
    injection hv with e1 e2 e3
    subst e1; subst e3
    exact h9
  refine (whole_k (lv := _) S w5 HS.out (by rw [HN.out]; exact HR5.out) HG5.out hcolS hiS hrS hpS (H.out.keep (HKB.out.trans HK5.out))).mono ?_
  rintro e w6 ⟨rfl, hk6⟩
  have HK6 := Lib.hid (HKB.out.trans (HK5.out.trans hk6))
  have r06 := (HR5.out.keep hk6).cell 0 _ rfl
  have ho6 := (HR5.out.keep hk6).lt
  have HP6 := Lib.hid ((HQ6.out.keep HK5.out).keep hk6)
  have HP7 := Lib.hid ((HQ7.out.keep HK5.out).keep hk6)
  have p6 := HP6.out.cell 0 _ rfl
  have p7 := HP7.out.cell 0 _ rfl
  have g6 := HP6.out.soft 0
  have g7 := HP7.out.soft 0
  have hl6 := HP6.out.lt
  have hl7 := HP7.out.lt
  have HX6 := Lib.hid (show SegX s w6 s from by
    obtain ⟨h1, h2, h3, h4, h5, h6⟩ := HF5.out
    exact ⟨cb2, db, fb, A5, c5, _, _, _, cc2, Ad2, cd2, Af, cf, HG5.out.keep hk6, Nat.le_refl _, by omega, by omega, by omega, fun g off e => by have := h5 g off e; omega, fun g off e => by have := h6 g off e; omega⟩)
  clear hk6 r0 r2 ho5
  go_wp2
  have q6 := (HP6.out.set 0 (.pointer (some ⟨s, 0, none⟩))).other (b := w.heap.size + 1) 0 (.int .i64 0) (by omega)
  have q7 := (HP7.out.other (b := w.heap.size) 0 (.pointer (some ⟨s, 0, none⟩)) (by omega)).set 0 (.int .i64 0)
  have c6 := q6.cell 0 _ rfl
  have c7 := q7.cell 0 _ rfl
  have hkf : Keep w ((w6.setCell ⟨w.heap.size, 0, none⟩ (.pointer (some ⟨s, 0, none⟩))).setCell ⟨w.heap.size + 1, 0, none⟩ (.int .i64 0)) := (HK6.out.setCell (Nat.le_refl _) _).setCell (by simp) _
  have ht : Turn w6 ((w6.setCell ⟨w.heap.size, 0, none⟩ (.pointer (some ⟨s, 0, none⟩))).setCell ⟨w.heap.size + 1, 0, none⟩ (.int .i64 0)) [w.heap.size, w.heap.size + 1] := ((Turn.refl _ _).setc (by simp) _).setc (by simp) _
  have hX := (HX6.out.turn ht (fun g hg => by simp only [List.mem_cons, List.not_mem_nil, or_false] at hg; omega)).lower (show w.heap.size ≤ s by omega)
  refine leaves_cons (f := 44) (args := #[.pointer (some ⟨w.heap.size, 0, none⟩), .pointer (some ⟨w.heap.size + 1, 0, none⟩)]) (by simp) (by simp [go_sem]) ?_
  refine (catch_idle w.heap.size (w.heap.size + 1) _).mono ?_
  rintro e u' w'' ⟨rfl, rfl, rfl⟩
  simp [Leaves, settle, results, Tryz.results28, go_sem, c6, c7]
  exact ⟨hX, hkf⟩
end Go.Proofs.YtmcaednlilhnoaaGreatDoor
