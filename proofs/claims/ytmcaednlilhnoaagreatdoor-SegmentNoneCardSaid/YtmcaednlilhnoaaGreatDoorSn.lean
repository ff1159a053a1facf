
/- segment: column of the sample's image. -/
import Derived.WalkKit
import Derived.Lib.Hide
import Derived.WalkSpells
import Derived.WalkLawsBesides
import Derived.BigQuiet
import Derived.Shelf.Abstract
import Derived.Deep.Cut
import Derived.Deep.CutRange
import Derived.Test.YtmcaednlilhnoaaGreatDoorSm
namespace Go.Proofs.YtmcaednlilhnoaaGreatDoor
open Go.RowKit Go.Zone Go.Shelf
attribute [local go_sem] Zone.zone Zone.stepZ Zone.fill Zone.lookFs Zone.goes Zone.goesUpon Zone.dropFs Zone.cell_gro Zone.frozen_gro Zone.size_gro Zone.lt_add Zone.drew_gro Zone.tape_gro Zone.keep_refl
attribute [local go_sem] Zone.lt_add2 Zone.lt_add3 Zone.lt_add4 Zone.lt_add5 Zone.lt_add6 Zone.lt_add7 Zone.lt_add8 Zone.lt_add9 Zone.lt_add10 Zone.lt_add11 Zone.lt_add12
def clV (x : Nat × Nat) : List Value := [.pointer (some ⟨x.1, 0, none⟩), .pointer (some ⟨x.2, 0, none⟩), .pointer none, .pointer none, .pointer none, .pointer none]
theorem info_cl : (Tryz.prog.info? 57).map (fun i => (i.zero, i.size, i.bytes)) = some (some (.agg #[.pointer none, .pointer none, .pointer none, .pointer none, .pointer none, .pointer none]), 6, 48) := by kernel_rfl
theorem elt_cl : Elt Tryz.prog 27 57 6 48 := by
  obtain ⟨i, hi, h1, h2, h3⟩ := info_partsV info_cl
  exact ⟨i, _, Tryz.underlying27, hi, h1, h2, h3, rfl, by decide, by decide⟩
theorem cl_len (x : Nat × Nat) : (clV x).length = 6 := rfl
theorem cl_one (x : Nat × Nat) : ∀ u ∈ clV x, u.oneCell' = true := by simp [clV, Value.oneCell']
theorem cl_cell {w : World} {g : Nat} {x : Nat × Nat} (h0 : w.cell? ⟨g, 0, none⟩ = some (.pointer (some ⟨x.1, 0, none⟩))) (h1 : w.cell? ⟨g, 1, none⟩ = some (.pointer (some ⟨x.2, 0, none⟩))) (h2 : w.cell? ⟨g, 2, none⟩ = some (.pointer none)) (h3 : w.cell? ⟨g, 3, none⟩ = some (.pointer none)) (h4 : w.cell? ⟨g, 4, none⟩ = some (.pointer none)) (h5 : w.cell? ⟨g, 5, none⟩ = some (.pointer none)) : ∀ j u, (clV x)[j]? = some u → w.cell? ⟨g, j, none⟩ = some u
  | 0, _, h => by cases h; exact h0
  | 1, _, h => by cases h; exact h1
  | 2, _, h => by cases h; exact h2
  | 3, _, h => by cases h; exact h3
  | 4, _, h => by cases h; exact h4
  | 5, _, h => by cases h; exact h5
theorem own_some {α : Type} {w : World} {base k : Nat} {e : TypeId} {enc : α → List Value} {v : Value} {xs : List α} (h : Zone.Own w base e k enc v xs) (h0 : xs ≠ []) : ∃ g c, v = .slice (some ⟨g, 0, none⟩) xs.length c := by
  rcases h.2 with ⟨rfl, hn⟩ | ⟨g, cap, cur, rfl, _⟩
  · exact absurd (List.eq_nil_of_length_eq_zero hn) h0
  · exact ⟨g, cap, rfl⟩
theorem zone_app {α : Type} {P : Program} {W : World} {t e : TypeId} {k bytes : Nat} (E : Elt P t e k bytes) {enc : α → List Value} (hk : ∀ x, (enc x).length = k) (h1 : ∀ x, ∀ u ∈ enc x, u.oneCell' = true) {o : Oper} {b : Act} {Ψ : Zone.Pred}
    (s x : Operand) (ho : o.op = .call { callee := .builtin .append, args := #[s, x], argTypes := #[t, t] })
    {base : Nat} {v : Value} {xs ys : List α} (hown : Zone.Own W base e k enc v xs) (hs : b.eval s = v) (hnil : v.ownBlock = none) {A : Option Addr} {c : Nat} (hx : b.eval x = .slice A ys.length c) (hy : Sl W k enc A c ys)
    (hlen : (xs.length + ys.length) * bytes ≤ 140737488355328) (hbase : base ≤ W.heap.size) (hΨ : ∀ v' w', Zone.Own w' base e k enc v' (xs ++ ys) → Ψ v' w') : Zone.goes P o b W Ψ := by
  obtain ⟨v', w', hr, h2, h3, h4⟩ := run_app1 (ty := o.type) E hk h1 hown hy hlen hbase
  unfold Zone.goes execOp
  simp only [ho, resolve, invoke, builtin, Sem.run_bind, Sem.run_pure, Result.andThen_ok, List.map_toArray, List.map_cons, List.map_nil, hs, hx, hr]
  exact ⟨hΨ v' w' h2, Keep.grown (Keep.refl _) h3 (fun k e => by rw [hnil] at e; cases e)⟩
theorem step_free1 {P : Program} {ops : Array Oper} {w : World} {o : Oper} {a : Act} {fs : Zone.Frees} {Ψ : Zone.Pred} {d : Tmp} {Φ : Zone.Pred} (hl : Zone.lookFs ops o fs = [(d, Φ)])
    (h : ∀ p v, Φ v (w.gro p) → if Region.wanted o (yielded ops (a.put (some d) v).tmps) then Zone.goes P o (a.put (some d) v) (w.gro p) Ψ else Ψ undef (w.gro p)) : Zone.stepZ P ops w o a fs Ψ := fun p => by
  rw [hl]
  exact fun v hv => h p v hv
theorem nameD_d : (⟨#[100, 105, 99, 116]⟩ : ByteArray) ++ (⟨#[46]⟩ ++ digS 0) = nmD := by rfl
theorem nameD_f : (⟨#[102, 111, 114, 119, 97, 114, 100]⟩ : ByteArray) ++ (⟨#[46]⟩ ++ digS 0) = nmF := by rfl
theorem HdK.turnx {w w' : World} {base s : Nat} {A : Option Addr} {c : Nat} {iA : Option Addr} {ic : Nat} {rA : Option Addr} {rc : Nat} {sA : Option Addr} {sc : Nat} {rows : Int} {cols : Value} (h : HdK w base s A c iA ic rA rc sA sc rows cols) {xb : Nat} {vs : List Value} (ht : Turn w w' [xb]) (hx : Row w xb 57 vs) (hs : s ≠ xb) : HdK w' base s A c iA ic rA rc sA sc rows cols := by
  refine ⟨ht.row h.row (by simpa using hs), Own.turn h.l ht fun g hg => ?_, Own.turn h.i ht fun g hg => ?_, Own.turn h.r ht fun g hg => ?_, Own.turn h.p ht fun g hg => ?_⟩ <;> simp only [List.mem_singleton] at hg <;> subst hg
  · exact own_row_ne h.l hx (by decide)
  · exact own_row_ne h.i hx (by decide)
  · exact own_row_ne h.r hx (by decide)
  · exact own_row_ne h.p hx (by decide)
set_option maxRecDepth 100000 in
set_option maxHeartbeats 20000000 in
theorem column_k {o s base nb cbb : Nat} {Ab : Option Addr} {AL : Option Addr} {cL : Nat} {A3 A4 : Option Addr} {c3 c4 : Nat} {A : Option Addr} {c : Nat} {iA : Option Addr} {ic : Nat} {rA : Option Addr} {rc : Nat} {sA : Option Addr} {sc : Nat} (wB w : World) (hkb : Keep wB w) (ho : wB.heap.size ≤ o) (_hsB : wB.heap.size ≤ s)
    (hob : o < base) (hsb : s < base) (hbw : base ≤ w.heap.size)
    (hL : Sl wB 2 Sec.cells AL cL [⟨nmD, A3, c3, dK⟩, ⟨nmF, A4, c4, fK⟩]) (h3 : SlB wB A3 c3 dK) (h4 : SlB wB A4 c4 fK)
    (hr : Row w o 114 (opV s (.slice Ab nb cbb) AL 2 cL)) (hd : HdK w base s A c iA ic rA rc sA sc 3 (.slice none 0 0)) :
    Calls Tryz.prog 48 #[.pointer (some ⟨o, 0, none⟩), .int .i64 0] w fun e w' => e = .returned (.tuple #[]) ∧ ∃ cb cc db Ad cd fb Af cf, Row w' o 114 (opV s (.slice Ab nb cbb) (tailA (tailA AL cL) (cL - 1)) 0 (cL - 1 - 1)) ∧ HdK w' base s A c iA ic rA rc sA sc 3 (.slice (some ⟨cb, 0, none⟩) 1 cc) ∧
      Zone.Own w' w.heap.size 57 6 clV (.slice (some ⟨cb, 0, none⟩) 1 cc) [(db, fb)] ∧ DictAt w' db 1 Ad cd ysK ∧ IdxAt w' fb 3 2 1 Af cf (packB idsK 1) ∧ w.heap.size ≤ db ∧ w.heap.size ≤ fb ∧ (∀ g off, Ad = some ⟨g, off, none⟩ → w.heap.size ≤ g) ∧ (∀ g off, Af = some ⟨g, off, none⟩ → w.heap.size ≤ g) ∧ Turn w w' [o, s] := by
  have hos : o ≠ s := row_ne hr hd.row (by decide)
  have HR := Lib.hid hr
  have HD := Lib.hid hd
  have HL := Lib.hid hL
  have H3 := Lib.hid h3
  have H4 := Lib.hid h4
  have HKB := Lib.hid hkb
  have HSO := Lib.hid so_ok
  have HMU := Lib.hid must_ok
  have r0 := hr.cell 0 _ rfl
  have hob2 := hr.lt
  have hsb2 := hd.row.lt
  have s0 := hd.row.cell 0 _ rfl
  obtain ⟨Aq, cq, hvq, hcol⟩ := hd.l.sl (fun _ => rfl) (by simp)
  injection hvq with e1 e2 e3
  clear e2
  subst e1; subst e3
  have HCOL := Lib.hid hcol
  clear hr hd hL h3 h4 hkb hcol
  go_enter Tryz.func48, Tryz.ntmps48
  go_wp2_with (first | (go_at_call 64; refine (itoa_dig 0 (by decide) _).mono ?_; rintro e w' ⟨rfl, hk⟩; (first | obtain ⟨p, rfl⟩ := Zone.gro_of_gro _ _ hk | obtain ⟨p, rfl⟩ := Zone.gro_of_below _ hk); clear hk) | (go_at_call 37; refine Zone.hold ?_))
  refine Zone.unhold ?_
  rename GB => p
  have hk1 : Keep w ((w.alloc (.cells #[.pointer none, .pointer none, .pointer none, .pointer none, .pointer none, .pointer none] 57)).gro p) := (by repeat (first | exact Keep.refl _ | apply Keep.alloc | apply Keep.gro | apply Keep.drew | apply Keep.drewN))
  have rx : Row ((w.alloc (.cells #[.pointer none, .pointer none, .pointer none, .pointer none, .pointer none, .pointer none] 57)).gro p) w.heap.size 57 [.pointer none, .pointer none, .pointer none, .pointer none, .pointer none, .pointer none] := (row_alloc w _ _).keep (below_gro _ _)
  generalize (w.alloc (.cells #[.pointer none, .pointer none, .pointer none, .pointer none, .pointer none, .pointer none] 57)).gro p = w1 at hk1 rx ⊢
  obtain ⟨xb, hxb⟩ : ∃ xb, w.heap.size = xb := ⟨_, rfl⟩
  rw [hxb] at rx ⊢
  have HXB := Lib.hid hxb
  have hzz : base ≤ xb := by omega
  have ho1 : o < xb := by omega
  have hs1 : s < xb := by omega
  have HK1 := Lib.hid hk1
  have HRX := Lib.hid rx
  have hdim : dimP [colK] 0 = true := rfl
  have hdm := dim_any A c [colK] 0 w1 (HCOL.out.keep hk1)
  rw [hdim] at hdm
  refine hdm.mono ?_
  rintro e w2 ⟨rfl, hk2⟩
  have HK2 := Lib.hid (hk1.trans hk2)
  have HRX2 := Lib.hid (rx.keep hk2)
  have HR2 := Lib.hid (HR.out.keep HK2.out)
  have HD2 := Lib.hid (HD.out.keep HK2.out)
  clear hk1 rx hk2 hdim hdm r0 s0 hob2 hsb2 HK1 HRX hxb
  go_wp2_with (go_at_call 90; refine Zone.hold ?_)
  refine Zone.unhold ?_
  rw [nameD_d]
  refine (next_any o s (.slice Ab nb cbb) AL cL ⟨nmD, A3, c3, dK⟩ [⟨nmF, A4, c4, fK⟩] w2 HR2.out (HL.out.keep (HKB.out.trans HK2.out))).mono ?_
  rintro e w3 ⟨rfl, hR3, hT3⟩
  have HR3 := Lib.hid hR3
  have HD3 := Lib.hid (HD2.out.turn hT3 (by simpa using fun e => hos e.symm) (fun g hg => by simp only [List.mem_singleton] at hg; omega))
  have HT3 := Lib.hid ((Turn.keep HK2.out [o, s]).trans2 hT3 (fun i hi => .inl (by simp only [List.mem_singleton] at hi; simp [hi])))
  have HRX3 := Lib.hid (hT3.row HRX2.out (by simp only [List.mem_singleton]; omega))
  have HK3 := Lib.hid (Turn.after (HKB.out.trans HK2.out) hT3 (fun i hi => by simp only [List.mem_singleton] at hi; omega))
  have HZ3 := Lib.hid (show xb < w3.heap.size from HRX3.out.lt)
  clear hR3 hT3 HR2 HD2 HRX2
  go_wp2_with (go_at_call 94; refine Zone.hold ?_)
  refine Zone.unhold ?_
  refine (read_new A3 c3 dK w3 (H3.out.keep HK3.out) (by rw [dK_len]; omega)).mono ?_
  rintro e w4 ⟨v4, err4, rfl, hres, hnew, hk4⟩
  obtain ⟨-, hres⟩ := hres
  obtain ⟨rfl, db, Ad, cd, rfl, hdict⟩ := (hres 1 ysK 21 readD_k).2 (by rw [dK_len]; omega)
  obtain ⟨hdb, hnewA⟩ := hnew db rfl
  have HDI := Lib.hid hdict
  have HAD := Lib.hid (show ∀ g off, Ad = some ⟨g, off, none⟩ → w3.heap.size ≤ g from fun g off e => hnewA g off ysK.length cd (by rw [hdict.l, e]))
  have HR4 := Lib.hid (HR3.out.keep hk4)
  have HD4 := Lib.hid (HD3.out.keep hk4)
  have HT4 := Lib.hid (HT3.out.keep_ hk4)
  have HRX4 := Lib.hid (HRX3.out.keep hk4)
  have HK4 := Lib.hid (HK3.out.trans hk4)
  have HKD := Lib.hid hk4
  clear hres hnew hnewA hdict hk4 HR3 HD3 HT3 HRX3
  have x0 := HRX4.out.cell 0 _ rfl
  have fx0 := HRX4.out.soft 0
  have hxb4 := HRX4.out.lt
  go_wp2_with (go_at_call 46; refine Zone.hold ?_)
  refine Zone.unhold ?_
  have t5 : Turn w4 (w4.setCell ⟨xb, 0, none⟩ (.pointer (some ⟨db, 0, none⟩))) [xb] := Turn.set _ _ _
  have rx5 : Row (w4.setCell ⟨xb, 0, none⟩ (.pointer (some ⟨db, 0, none⟩))) xb 57 [.pointer (some ⟨db, 0, none⟩), .pointer none, .pointer none, .pointer none, .pointer none, .pointer none] := HRX4.out.set 0 _
  generalize w4.setCell ⟨xb, 0, none⟩ (.pointer (some ⟨db, 0, none⟩)) = w5 at t5 rx5 ⊢
  have HR5 := Lib.hid (t5.row HR4.out (by simp only [List.mem_singleton]; omega))
  have HD5 := Lib.hid (HD4.out.turnx t5 HRX4.out (by omega))
  have HT5 := Lib.hid (HT4.out.trans2 t5 (fun i hi => .inr (by simp only [List.mem_singleton] at hi; have := HXB.out; omega)))
  have HDI5 := Lib.hid (HDI.out.turn t5 (by have := HZ3.out; simp only [List.mem_singleton]; omega) (fun g off e => by have h1 := HAD.out g off e; have h2 := HZ3.out; simp only [List.mem_singleton]; omega))
  have HK5 := Lib.hid (Turn.after HK4.out t5 (fun i hi => by simp only [List.mem_singleton] at hi; omega))
  have HRX5 := Lib.hid rx5
  have hz5 : w3.heap.size ≤ w5.heap.size := Nat.le_trans HKD.out.size t5.size
  clear t5 rx5 x0 fx0 hxb4 HR4 HD4 HT4 HRX4 HK4 HDI HKD
  refine (HMU.out _).mono ?_
  rintro e w' ⟨rfl, rfl⟩
  have r0 := HR5.out.cell 0 _ rfl
  have s0 := HD5.out.row.cell 0 _ rfl
  have x0 := HRX5.out.cell 0 _ rfl
  have hob5 := HR5.out.lt
  have hsb5 := HD5.out.row.lt
  have hxb5 := HRX5.out.lt
  obtain ⟨Aq, cq, hvq, hcol5⟩ := HD5.out.l.sl (fun _ => rfl) (by simp)
  injection hvq with e1 e2 e3
  clear e2
  subst e1; subst e3
  obtain ⟨qb, qo, hqA, hqb, q0, q1⟩ := sl_col hcol5 0 (by simp)
  clear hcol5
  have k1 : w5.cell? ⟨qb, qo + 1, none⟩ = some (.int .u8 1) := by simpa [colK] using q1
  clear q0 q1
  subst hqA
  have HKI := Lib.hid (kind_at w5 HDI5.out)
  have hln := len_at w5 HDI5.out
  rw [if_neg (by decide)] at hln
  have HLN := Lib.hid (show Calls Tryz.prog 69 #[.pointer (some ⟨db, 0, none⟩)] w5 fun e w' => e = .returned (.int .i64 2) ∧ w5 = w' from hln)
  clear hln
  go_upto_region 14 with (first | (go_at_call 95; refine (HKI.out).mono ?_; rintro e w' ⟨rfl, rfl⟩) | (go_at_call 50; refine (HSO.out _).mono ?_; rintro e w' ⟨rfl, rfl⟩) | (go_at_call 69; refine (HLN.out).mono ?_; rintro e w' ⟨rfl, rfl⟩))
  have s6 := HD5.out.row.cell 6 _ rfl
  have x1 := HRX5.out.cell 1 _ rfl
  have fx1 := HRX5.out.soft 1
  clear x0 k1 HKI HLN hqb s0
  go_cut [5] from 88 to 103 (fun s5 wx => s5 = .int .i64 0 ∧ ∃ fb Af cf, Hid (Row wx o 114 (opV s (.slice Ab nb cbb) (tailA (tailA AL cL) (cL - 1)) 0 (cL - 1 - 1))) ∧ Hid (Row wx xb 57 [.pointer (some ⟨db, 0, none⟩), .pointer (some ⟨fb, 0, none⟩), .pointer none, .pointer none, .pointer none, .pointer none]) ∧
    Hid (HdK wx base s (some ⟨qb, qo, none⟩) c iA ic rA rc sA sc 3 (.slice none 0 0)) ∧ Hid (DictAt wx db 1 Ad cd ysK) ∧ Hid (IdxAt wx fb 3 2 1 Af cf (packB idsK 1)) ∧ w3.heap.size ≤ fb ∧ Hid (∀ g off, Af = some ⟨g, off, none⟩ → w3.heap.size ≤ g) ∧ Hid (Turn w wx [o, s]))
  case first =>
    --DEVCUT
    go_region_with (first
      | (go_at_call 90
         rw [nameD_f]
         refine (next_any o s (.slice Ab nb cbb) (tailA AL cL) (cL - 1) ⟨nmF, A4, c4, fK⟩ [] _ (HR5.out.keep (by repeat (first | exact Keep.refl _ | apply Keep.alloc | apply Keep.gro | apply Keep.drew | apply Keep.drewN))) (tail_sl (HL.out.keep (HK5.out.trans (by repeat (first | exact Keep.refl _ | apply Keep.alloc | apply Keep.gro | apply Keep.drew | apply Keep.drewN)))))).mono ?_
         rintro e w6 ⟨rfl, hR6, hT6⟩
         have HT6 := Lib.hid (Turn.trans (Turn.keep (show Keep w5 _ from (by repeat (first | exact Keep.refl _ | apply Keep.alloc | apply Keep.gro | apply Keep.drew | apply Keep.drewN))) [o]) hT6)
         have HR6 := Lib.hid hR6
         have HD6 := Lib.hid (HD5.out.turn HT6.out (by simpa using fun e => hos e.symm) (fun g hg => by simp only [List.mem_singleton] at hg; omega))
         have HRX6 := Lib.hid (HT6.out.row HRX5.out (by simp only [List.mem_singleton]; omega))
         have HK6 := Lib.hid (Turn.after HK5.out HT6.out (fun i hi => by simp only [List.mem_singleton] at hi; omega))
         have r6 := hR6.cell 0 _ rfl
         have hob6 := hR6.lt
         have s66 := HD6.out.row.cell 6 _ rfl
         have hsb6 := HD6.out.row.lt
         have x61 := HRX6.out.cell 1 _ rfl
         have fx61 := HRX6.out.soft 1
         have hxb6 := HRX6.out.lt
         clear hR6 hT6)
      | (go_at_call 96
         refine (fread_k A4 c4 _ (H4.out.keep (HK6.out.trans (by repeat (first | exact Keep.refl _ | apply Keep.alloc | apply Keep.gro | apply Keep.drew | apply Keep.drewN))))).mono ?_
         rintro e w7 ⟨fb, Af, cf, rfl, hix, hfb, hAf, hk7⟩
         have hk67 := Keep.trans (show Keep w6 _ from (by repeat (first | exact Keep.refl _ | apply Keep.alloc | apply Keep.gro | apply Keep.drew | apply Keep.drewN))) hk7
         have HK7 := Lib.hid hk67
         have HIX := Lib.hid hix
         have HFB := Lib.hid (Nat.le_trans HT6.out.size (Nat.le_trans (show w6.heap.size ≤ _ from (show Keep w6 _ from (by repeat (first | exact Keep.refl _ | apply Keep.alloc | apply Keep.gro | apply Keep.drew | apply Keep.drewN))).size) hfb))
         have HAF := Lib.hid (fun g off e => Nat.le_trans HT6.out.size (Nat.le_trans (show w6.heap.size ≤ _ from (show Keep w6 _ from (by repeat (first | exact Keep.refl _ | apply Keep.alloc | apply Keep.gro | apply Keep.drew | apply Keep.drewN))).size) (hAf g off e)))
         have r7 := (HR6.out.keep hk67).cell 0 _ rfl
         have hob7 := (HR6.out.keep hk67).lt
         have s76 := (HD6.out.keep hk67).row.cell 6 _ rfl
         have hsb7 := (HD6.out.keep hk67).row.lt
         have x71 := (HRX6.out.keep hk67).cell 1 _ rfl
         have fx71 := (HRX6.out.keep hk67).soft 1
         have hxb7 := (HRX6.out.keep hk67).lt
         clear hk7 hk67 hix hfb hAf))
    all_goals
      go_wp2_with fail
      go_meet
      have hkf := HK7.out.trans (show Keep w7 _ from (by repeat (first | exact Keep.refl _ | apply Keep.alloc | apply Keep.gro | apply Keep.drew | apply Keep.drewN)))
      have h3 := HZ3.out
      have hdi := (HDI5.out.turn HT6.out (by simp only [List.mem_singleton]; omega) (fun g off e => by have h1 := HAD.out g off e; simp only [List.mem_singleton]; omega)).keep hkf
      have hlt := fun g off (e : Ad = some ⟨g, off, none⟩) => HAD.out g off e
      exact ⟨rfl, fb, Af, cf, (HR6.out.keep hkf).other 1 _ (by omega), (HRX6.out.keep hkf).set 1 _, (HD6.out.keep hkf).turnx (xb := xb) (Turn.set _ ⟨xb, 1, none⟩ _) (HRX6.out.keep hkf) (show s ≠ xb by omega),
        hdi.turn (Turn.set _ ⟨xb, 1, none⟩ _) (by simp only [List.mem_singleton]; omega) (fun g off e => by have h1 := HAD.out g off e; simp only [List.mem_singleton]; omega),
        (HIX.out.keep (by repeat (first | exact Keep.refl _ | apply Keep.alloc | apply Keep.gro | apply Keep.drew | apply Keep.drewN))).turn (Turn.set _ ⟨xb, 1, none⟩ _) (by have := HFB.out; simp only [List.mem_singleton]; omega) (fun g off e => by have h1 := HAF.out g off e; simp only [List.mem_singleton]; omega),
        Nat.le_trans hz5 HFB.out, fun g off e => Nat.le_trans hz5 (HAF.out g off e),
        ((HT5.out.trans2 HT6.out (fun i hi => .inl (by simp only [List.mem_singleton] at hi; simp [hi]))).keep_ hkf).trans2 (Turn.set _ ⟨xb, 1, none⟩ _) (fun i hi => .inr (by simp only [List.mem_singleton] at hi; have := HXB.out; omega))⟩
    --DEVEND
  case rest =>
    rename World => w8
    obtain ⟨rfl, fb, Af, cf, HR8, HRX8, HD8, HDI8, HIX8, hfb8, HAF8, HT8⟩ := hcut
    obtain ⟨_, _, hv1, hi8⟩ := HD8.out.i.sl (fun _ => rfl) (by simp)
    injection hv1 with e1 e2 e3
    clear e2
    subst e1; subst e3
    obtain ⟨_, _, hv1, hr8⟩ := HD8.out.r.sl (fun _ => rfl) (by simp)
    injection hv1 with e1 e2 e3
    clear e2
    subst e1; subst e3
    have HI8 := Lib.hid (show ∀ W, Keep w8 W → Calls Tryz.prog 60 #[.slice iA 1 ic, .int .i64 0] W fun e w' => e = .returned (.bool false) ∧ Keep W w' from fun W hk => has_any iA ic [false] 0 W (hi8.keep hk))
    have HJ8 := Lib.hid (show ∀ W, Keep w8 W → Calls Tryz.prog 60 #[.slice rA 1 rc, .int .i64 0] W fun e w' => e = .returned (.bool false) ∧ Keep W w' from fun W hk => has_any rA rc [false] 0 W (hr8.keep hk))
    clear r0 s6 x1 fx1 hob5 hsb5 hxb5 hi8 hr8
    have r0 := HR8.out.cell 0 _ rfl
    have s1 := HD8.out.row.cell 1 _ rfl
    have s2 := HD8.out.row.cell 2 _ rfl
    have s3 := HD8.out.row.cell 3 _ rfl
    have hob8 := HR8.out.lt
    have hsb8 := HD8.out.row.lt
    go_wp2_with (first | (go_at_call 46; refine (HMU.out _).mono ?_; rintro e w' ⟨rfl, rfl⟩) | (go_at_call 60; refine Zone.hold ?_))
    refine Zone.unhold ?_
    refine (HI8.out _ (Keep.refl _)).mono ?_
    rintro e w9 ⟨rfl, hk9⟩
    have HK9 := Lib.hid hk9
    have r9 := (HR8.out.keep hk9).cell 0 _ rfl
    have s19 := (HD8.out.keep hk9).row.cell 1 _ rfl
    have s39 := (HD8.out.keep hk9).row.cell 3 _ rfl
    have hob9 := (HR8.out.keep hk9).lt
    have hsb9 := (HD8.out.keep hk9).row.lt
    clear hk9 r0 s1 s2 s3 hob8 hsb8 HI8
    go_wp2_with (go_at_call 60; refine Zone.hold ?_)
    refine Zone.unhold ?_
    refine (HJ8.out _ HK9.out).mono ?_
    rintro e w10 ⟨rfl, hk10⟩
    have HK10 := Lib.hid (HK9.out.trans hk10)
    have hr10 := HR8.out.keep HK10.out
    have hd10 := HD8.out.keep HK10.out
    have HR10 := Lib.hid hr10
    have HD10 := Lib.hid hd10
    have HRX10 := Lib.hid (HRX8.out.keep HK10.out)
    have r0 := hr10.cell 0 _ rfl
    have s1 := hd10.row.cell 1 _ rfl
    have s7 := hd10.row.cell 7 _ rfl
    have f7 := hd10.row.soft 7
    have hob8 := hr10.lt
    have hsb8 := hd10.row.lt
    have hxb8 := HRX10.out.lt
    have x0 := HRX10.out.cell 0 _ rfl
    have x1 := HRX10.out.cell 1 _ rfl
    have x2 := HRX10.out.cell 2 _ rfl
    have x3 := HRX10.out.cell 3 _ rfl
    have x4 := HRX10.out.cell 4 _ rfl
    have x5 := HRX10.out.cell 5 _ rfl
    clear hk10 r9 s19 s39 hob9 hsb9 HJ8 hr10 hd10
    have hzw : w.heap.size ≤ w10.heap.size := Nat.le_trans HT8.out.size HK10.out.size
    go_upto_region 25 with fail
    first | refine Zone.wp_region_gro 16 (by kernel_rfl) (by kernel_rfl) ?_ | refine Zone.wp_region 16 (by kernel_rfl) (by kernel_rfl) ?_
    simp only [List.take_succ_cons, List.take_zero, List.drop_succ_cons, List.drop_zero]
    repeat
      refine Zone.wpZ_step (fun K hK => ?_)
      go_simp
      first
      | (refine hK _ _ ?_; clear hK K)
      | (apply Exists.intro
         refine ⟨fun p => ?_, hK _ _ ?_⟩
         (fail)
         clear hK K)
    refine Zone.wpZ_free 206 (fun u W => ∃ g, u = .slice (some ⟨g, 0, none⟩) 1 1 ∧ Sl W 6 clV (some ⟨g, 0, none⟩) 1 [(db, fb)]) rfl (fun _ W W' hk ⟨g, h1, h2⟩ => ⟨g, h1, h2.keep hk⟩) ?_ ?_
    · intro p
      simp only [Zone.fill, Zone.lookFs, List.filter_nil]
      go_simp
      exact ⟨sl_one _ (by decide) (by decide) (cl_cell (by simp [go_sem]) (by simp [go_sem]) (by simp [go_sem]) (by simp [go_sem]) (by simp [go_sem]) (by simp [go_sem])), Keep.alloc (Keep.refl _) _⟩
    refine Zone.wpZ_free 207 (fun u W => ∃ cb cc, u = .slice (some ⟨cb, 0, none⟩) 1 cc ∧ Zone.Own W w.heap.size 57 6 clV (.slice (some ⟨cb, 0, none⟩) 1 cc) [(db, fb)]) rfl (fun _ W W' hk ⟨g, c, h1, h2⟩ => ⟨g, c, h1, Zone.Own.keep h2 hk⟩) ?_ ?_
    · refine step_free1 (d := 206) (by rfl) (fun p v hv => ?_)
      obtain ⟨g, rfl, hsl⟩ := hv
      rw [if_pos (by rfl)]
      exact zone_app elt_cl cl_len cl_one (.tmp 204) (.tmp 206) rfl (Zone.Own.nil_ _ w.heap.size _ _ _) rfl rfl rfl hsl (by simp) (Nat.le_trans hzw (below_gro w10 p).size) (fun v' w' h => by
        obtain ⟨cb, cc, rfl⟩ := own_some h (by simp)
        exact ⟨cb, cc, rfl, h⟩)
    refine Zone.wpZ_step (fun K hK => ?_)
    unfold Zone.zone Zone.stepZ
    rw [Zone.lookFs_nil (by rfl)]
    go_simp
    (refine hK _ _ ?_; clear hK K)
    refine Zone.wpZ_step (fun K hK => ?_)
    unfold Zone.zone Zone.stepZ
    rw [Zone.lookFs_nil (by rfl)]
    go_simp
    (refine hK _ _ ?_; clear hK K)
    refine Zone.wpZ_nil ?_
    intro p
    simp only [Zone.fill]
    rintro v11 ⟨cb, cc, rfl, hown⟩ v12 ⟨g12, rfl, -⟩
    have hk11 : Keep w10 (w10.gro p) := below_gro _ _
    generalize w10.gro p = w11 at hk11 hown ⊢
    have hr11 := HR10.out.keep hk11
    have hd11 := HD10.out.keep hk11
    have hsb11 := hd11.row.lt
    have s711 := hd11.row.cell 7 _ rfl
    have f711 := hd11.row.soft 7
    have HR11 := Lib.hid hr11
    have HD11 := Lib.hid hd11
    have HO11 := Lib.hid hown
    have HK11 := Lib.hid (HK10.out.trans hk11)
    clear hr11 hd11 hown hk11 r0 s1 s7 f7 hob8 hsb8 hxb8 x0 x1 x2 x3 x4 x5
    go_wp2
    go_end0
    have hsd : s ≠ db := by have := HZ3.out; omega
    have hsf : s ≠ fb := by have := HZ3.out; omega
    have hz := HZ3.out
    have hxe := HXB.out
    refine ⟨rfl, cb, cc, db, Ad, cd, fb, Af, cf, HR11.out.other 7 _ (fun e => hos e.symm), HD11.out.set7 hsb _, own_setne HO11.out (fun e => by have := (HO11.out.lt _ e).1; omega),
      (HDI8.out.keep HK11.out).turn (Turn.set _ ⟨s, 7, none⟩ _) (by simp only [List.mem_singleton]; exact fun e => hsd e.symm) (fun g off e => by have h1 := HAD.out g off e; simp only [List.mem_singleton]; omega),
      (HIX8.out.keep HK11.out).turn (Turn.set _ ⟨s, 7, none⟩ _) (by simp only [List.mem_singleton]; exact fun e => hsf e.symm) (fun g off e => by have h1 := HAF8.out g off e; simp only [List.mem_singleton]; omega),
      by omega, by omega, fun g off e => by have h1 := HAD.out g off e; omega, fun g off e => by have h1 := HAF8.out g off e; omega,
      (HT8.out.keep_ HK11.out).setc (by simp) _⟩
end Go.Proofs.YtmcaednlilhnoaaGreatDoor
