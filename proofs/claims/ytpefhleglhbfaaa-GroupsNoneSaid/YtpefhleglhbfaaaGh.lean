
/- groups: the law's sample answers true. -/
import Derived.WalkKit
import Derived.Lib.Hide
import Derived.WalkSpells
import Derived.WalkLawsBesides
import Derived.BigQuiet
import Derived.Shelf.Abstract
import Derived.Lib.SliceRun
import Derived.IntWalk
import Derived.Deep.CutRange
import Derived.Deep.DeepCutAuto
import Derived.Test.YtpefhleglhbfaaaGg
namespace Go.Proofs.Ytpefhleglhbfaaa
open Go.RowKit Go.Zone Go.Shelf
attribute [local go_sem] Zone.zone Zone.stepZ Zone.fill Zone.lookFs Zone.goes Zone.goesUpon Zone.dropFs Zone.cell_gro Zone.frozen_gro Zone.size_gro Zone.lt_add Zone.drew_gro Zone.tape_gro Zone.keep_refl
attribute [local go_sem] Zone.lt_add2 Zone.lt_add3 Zone.lt_add4 Zone.lt_add5 Zone.lt_add6 Zone.lt_add7 Zone.lt_add8 Zone.lt_add9 Zone.lt_add10 Zone.lt_add11 Zone.lt_add12
theorem T2.tab {w : World} {b m lo lo1 : Nat} {g2 g1 : Gp} (h : T2 w b m lo lo1 g2 g1) (h2 : g2.key.length = 1) (h1 : g1.key.length = 1) : TabAt w lo b m 1 [(2, g2), (1, g1)] :=
  ⟨h.row, h.map, fun x hx => by
    simp only [List.mem_cons, List.not_mem_nil, or_false] at hx
    rcases hx with rfl | rfl
    · exact ⟨h.at2, h2⟩
    · exact ⟨h.at1.lower (by have := h.at2.lp; have := h.up.1; omega), h1⟩, h.lt⟩
theorem perm2 {cs : List Cp} {d1 d2 : Dt} (h : (cs.map (·.d)).Perm [d2, d1]) (hs : cs.Pairwise fun x y => ¬ hd y < hd x) (hlt : d1.key.headD 0 < d2.key.headD 0) : ∃ x y, cs = [x, y] ∧ x.d = d1 ∧ y.d = d2 := by
  have hl := h.length_eq
  match cs, hl with
  | [x, y], _ =>
    simp only [List.map_cons, List.map_nil] at h
    rw [List.pairwise_cons] at hs
    have h1 := hs.1 y (by simp)
    unfold hd at h1
    have hm : x.d ∈ [d2, d1] := h.mem_iff.1 (by simp)
    simp only [List.mem_cons, List.not_mem_nil, or_false] at hm
    rcases hm with hx | hx
    · exfalso
      rw [hx] at h h1
      have h2 := (List.perm_cons d2).1 h
      have h3 : y.d = d1 := by simpa using h2.eq_singleton
      rw [h3] at h1
      exact h1 hlt
    · refine ⟨x, y, rfl, hx, ?_⟩
      rw [hx] at h
      have h2 := (List.perm_cons d1).1 (h.trans (List.Perm.swap d1 d2 []))
      simpa using h2.eq_singleton
theorem perm1 {cs : List Cp} {d : Dt} (h : (cs.map (·.d)).Perm [d]) : ∃ x, cs = [x] ∧ x.d = d := by
  have hl := h.length_eq
  match cs, hl with
  | [x], _ => exact ⟨x, rfl, by simpa using h.eq_singleton⟩
/-- what is awaited -/
def expC (s : Nat) : List Cp := [⟨⟨[1], 1, 7, 7, 7⟩, some ⟨s, 0, none⟩, 1, some ⟨s + 1, 0, none⟩, 1, some ⟨s + 1 + 1, 0, none⟩, 1, some ⟨s + 1 + 1 + 1, 0, none⟩, 1⟩,
  ⟨⟨[2], 2, 4, -1, 5⟩, some ⟨s + 1 + 1 + 1 + 1, 0, none⟩, 1, some ⟨s + 1 + 1 + 1 + 1 + 1, 0, none⟩, 1, some ⟨s + 1 + 1 + 1 + 1 + 1 + 1, 0, none⟩, 1, some ⟨s + 1 + 1 + 1 + 1 + 1 + 1 + 1, 0, none⟩, 1⟩]
def expO (s : Nat) : List Obj := [.cells #[.int .i64 1] 3, .cells #[.int .i64 7] 2, .cells #[.int .i64 7] 2, .cells #[.int .i64 7] 2, .cells #[.int .i64 2] 3, .cells #[.int .i64 4] 2, .cells #[.int .i64 (-1)] 2, .cells #[.int .i64 5] 2,
  .cells #[.slice (some ⟨s, 0, none⟩) 1 1, .int .i64 1, .slice (some ⟨s + 1, 0, none⟩) 1 1, .slice (some ⟨s + 1 + 1, 0, none⟩) 1 1, .slice (some ⟨s + 1 + 1 + 1, 0, none⟩) 1 1,
    .slice (some ⟨s + 1 + 1 + 1 + 1, 0, none⟩) 1 1, .int .i64 2, .slice (some ⟨s + 1 + 1 + 1 + 1 + 1, 0, none⟩) 1 1, .slice (some ⟨s + 1 + 1 + 1 + 1 + 1 + 1, 0, none⟩) 1 1, .slice (some ⟨s + 1 + 1 + 1 + 1 + 1 + 1 + 1, 0, none⟩) 1 1] 25]
theorem exp_sl1 (w : World) (i : Nat) (x : Int) (T : TypeId) (h : (expO w.heap.size)[i]? = some (.cells #[.int .i64 x] T)) : Sl (allocs w (expO w.heap.size)) 1 intV (some ⟨w.heap.size + i, 0, none⟩) 1 [x] :=
  (show Row (allocs w (expO w.heap.size)) (w.heap.size + i) T [.int .i64 x] from allocs_at _ w i _ h).sl_blk (xs := [x]) int_len (by simp) (by simp) (by decide)
theorem exp_ok (w : World) : Sl (allocs w (expO w.heap.size)) 5 Cp.cells (some ⟨w.heap.size + 1 + 1 + 1 + 1 + 1 + 1 + 1 + 1, 0, none⟩) 2 (expC w.heap.size) ∧ (∀ y ∈ expC w.heap.size, CpR (allocs w (expO w.heap.size)) y) ∧ Keep w (allocs w (expO w.heap.size)) := by
  refine ⟨(show Row (allocs w (expO w.heap.size)) (w.heap.size + 8) 25 ((expC w.heap.size).flatMap Cp.cells) from allocs_at _ w 8 _ rfl).sl_blk cp_len (by simp [expC]) (by simp [expC]) (by decide), fun y hy => ?_, allocs_keep _ _⟩
  unfold expC at hy
  simp only [List.mem_cons, List.not_mem_nil, or_false] at hy
  rcases hy with rfl | rfl
  · exact ⟨exp_sl1 w 0 1 _ rfl, exp_sl1 w 1 7 _ rfl, exp_sl1 w 2 7 _ rfl, exp_sl1 w 3 7 _ rfl⟩
  · exact ⟨exp_sl1 w 4 2 _ rfl, exp_sl1 w 5 4 _ rfl, exp_sl1 w 6 (-1) _ rfl, exp_sl1 w 7 5 _ rfl⟩
set_option maxRecDepth 100000 in
set_option maxHeartbeats 2000000 in
theorem known26_any (w : World) : Calls Try.prog 5 #[] w fun e w' => e = .returned (.bool true) ∧ Keep w w' := by
  go_enter Try.func5, Try.ntmps5
  go_wp2_with (go_at_call 11; refine Zone.hold ?_)
  refine Zone.unhold ?_
  refine (new_one w).mono ?_
  rintro e w1 ⟨b, m, rfl, hr, hm, hlm, hlb, hk1⟩
  have hla_ : Sl (allocs w1 [.cells #[.int .i64 2] 3, .cells #[.int .i64 5] 2]) 1 intV (some ⟨w1.heap.size, 0, none⟩) 1 [2] := (show Row (allocs w1 [.cells #[.int .i64 2] 3, .cells #[.int .i64 5] 2]) w1.heap.size 3 [.int .i64 2] from allocs_at [.cells #[.int .i64 2] 3, .cells #[.int .i64 5] 2] w1 0 _ rfl).sl_blk (xs := [2]) int_len (by simp) (by simp) (by decide)
  have hLa : Row (allocs w1 [.cells #[.int .i64 2] 3, .cells #[.int .i64 5] 2]) (w1.heap.size + 1) 2 [.int .i64 5] := allocs_at [.cells #[.int .i64 2] 3, .cells #[.int .i64 5] 2] w1 1 _ rfl
  have hKa : Keep w1 (allocs w1 [.cells #[.int .i64 2] 3, .cells #[.int .i64 5] 2]) := allocs_keep _ _
  have HA := Lib.hid (add1 _ b m _ 1 _ (hr.keep hKa) ((hKa.block m (Array.getElem?_eq_some_iff.1 hm).1).trans hm) hla_ hLa)
  have HKa := Lib.hid (hk1.trans hKa)
  have HK1 := Lib.hid hk1
  clear hla_ hLa hKa hr hm hk1
  go_wp2_with (go_at_call 6; refine Zone.hold ?_)
  refine Zone.unhold ?_
  refine HA.out.mono ?_
  rintro e w2 ⟨rfl, g2, h2, hd2, ht2⟩
  have HK2 := Lib.hid (show Keep w w2 from Turn.after HKa.out ht2 (by simpa using hlm))
  have hlb_ : Sl (allocs w2 [.cells #[.int .i64 1] 3, .cells #[.int .i64 7] 2]) 1 intV (some ⟨w2.heap.size, 0, none⟩) 1 [1] := (show Row (allocs w2 [.cells #[.int .i64 1] 3, .cells #[.int .i64 7] 2]) w2.heap.size 3 [.int .i64 1] from allocs_at [.cells #[.int .i64 1] 3, .cells #[.int .i64 7] 2] w2 0 _ rfl).sl_blk (xs := [1]) int_len (by simp) (by simp) (by decide)
  have hLb : Row (allocs w2 [.cells #[.int .i64 1] 3, .cells #[.int .i64 7] 2]) (w2.heap.size + 1) 2 [.int .i64 7] := allocs_at [.cells #[.int .i64 1] 3, .cells #[.int .i64 7] 2] w2 1 _ rfl
  have hKb : Keep w2 (allocs w2 [.cells #[.int .i64 1] 3, .cells #[.int .i64 7] 2]) := allocs_keep _ _
  have HB := Lib.hid (add2 _ b m _ g2 _ 1 _ (h2.keep hKb) hlb_ hLb)
  have HKb := Lib.hid (HK2.out.trans hKb)
  have hg2s : g2.sp < w2.heap.size ∧ g2.sb < w2.heap.size ∧ g2.lb < w2.heap.size ∧ g2.gb < w2.heap.size := ⟨h2.at_.row.lt, h2.at_.rs.lt, h2.at_.rl.lt, h2.at_.rg.lt⟩
  have HD2 := Lib.hid hd2
  clear hlb_ hLb hKb h2 hd2 ht2 HA HKa
  go_wp2_with (go_at_call 6; refine Zone.hold ?_)
  refine Zone.unhold ?_
  refine HB.out.mono ?_
  rintro e w3 ⟨rfl, g1, h3, hd1, ht3⟩
  have HK3 := Lib.hid (show Keep w w3 from Turn.after HKb.out ht3 (by simpa using hlm))
  have hz3 := ht3.size
  have hlc_ : Sl (allocs w3 [.cells #[.int .i64 2] 3, .cells #[.int .i64 (-1)] 2]) 1 intV (some ⟨w3.heap.size, 0, none⟩) 1 [2] := (show Row (allocs w3 [.cells #[.int .i64 2] 3, .cells #[.int .i64 (-1)] 2]) w3.heap.size 3 [.int .i64 2] from allocs_at [.cells #[.int .i64 2] 3, .cells #[.int .i64 (-1)] 2] w3 0 _ rfl).sl_blk (xs := [2]) int_len (by simp) (by simp) (by decide)
  have hLc : Row (allocs w3 [.cells #[.int .i64 2] 3, .cells #[.int .i64 (-1)] 2]) (w3.heap.size + 1) 2 [.int .i64 (-1)] := allocs_at [.cells #[.int .i64 2] 3, .cells #[.int .i64 (-1)] 2] w3 1 _ rfl
  have hKc : Keep w3 (allocs w3 [.cells #[.int .i64 2] 3, .cells #[.int .i64 (-1)] 2]) := allocs_keep _ _
  have HC := Lib.hid (add3 _ b m _ _ g2 g1 _ 1 _ (h3.keep hKc) HD2.out hlc_ hLc (by
    have h9 : w2.heap.size ≤ w3.heap.size := Nat.le_trans (allocs_keep [.cells #[.int .i64 1] 3, .cells #[.int .i64 7] 2] w2).size hz3
    obtain ⟨h5, h6, h7, h8⟩ := hg2s
    refine ⟨?_, ?_, ?_⟩ <;> omega))
  have HKc := Lib.hid (HK3.out.trans hKc)
  have HD1 := Lib.hid hd1
  have HLO := Lib.hid h3.at2
  clear hlc_ hLc hKc h3 hd1 ht3 HB HKb hz3 hg2s
  go_wp2_with (go_at_call 6; refine Zone.hold ?_)
  refine Zone.unhold ?_
  refine HC.out.mono ?_
  rintro e w4 ⟨rfl, g2', h4, hd2', ht4⟩
  have hlw : w.heap.size ≤ w1.heap.size := HK1.out.size
  have hlo : w.heap.size ≤ (allocs w1 [.cells #[.int .i64 2] 3, .cells #[.int .i64 5] 2]).heap.size := Nat.le_trans hlw (allocs_keep _ _).size
  have HK4 := Lib.hid (show Keep w w4 from Turn.after HKc.out ht4 (mem4 (Nat.le_trans hlo HLO.out.lp) (Nat.le_trans hlo HLO.out.ls) (Nat.le_trans hlo HLO.out.ll) (Nat.le_trans hlo HLO.out.lg)))
  have HT4 := Lib.hid (h4.tab (by have := congrArg (·.key.length) hd2'; exact this) (by have := congrArg (·.key.length) HD1.out; exact this))
  have HD2' := Lib.hid hd2'
  clear h4 hd2' ht4 HC HKc HD2 HLO hlo hlw HK1 HK2 HK3
  go_wp2_with (go_at_call 11; refine Zone.hold ?_)
  refine Zone.unhold ?_
  refine (new_zero w4).mono ?_
  rintro e w5 ⟨bz, mz, gz, loz, rfl, htz, hdz, hk5⟩
  have HTZ := Lib.hid htz
  have HDZ := Lib.hid hdz
  have HT5 := Lib.hid (HT4.out.keep hk5)
  have HK5 := Lib.hid (HK4.out.trans hk5)
  clear htz hdz hk5 HT4 HK4
  go_wp2_with (go_at_call 9; refine Zone.hold ?_)
  refine Zone.unhold ?_
  refine (groups_any w5 loz bz mz 0 [(0, gz)] HTZ.out (by simp) (by omega)).mono ?_
  rintro e w6 ⟨v6, c6, rfl, hcl6, hp6, hs6, hk6⟩
  obtain ⟨xz, rfl, hxz⟩ := perm1 hp6
  obtain ⟨A6, cc6, rfl, hsl6⟩ := hcl6.own.sl cp_len (by simp)
  have HSL6 := Lib.hid hsl6
  have HXZ := Lib.hid (hxz.trans HDZ.out)
  have HCZ := Lib.hid ((hcl6.at_ xz (by simp)).read (by rw [show xz.d = _ from hxz.trans HDZ.out]; simp))
  have HT6 := Lib.hid (HT5.out.keep hk6)
  have HK6 := Lib.hid (HK5.out.trans hk6)
  clear hcl6 hp6 hs6 hk6 hsl6 hxz HTZ HT5 HK5
  simp only [List.length_singleton]
  go_wp2_with (go_at_call 9; refine Zone.hold ?_)
  refine Zone.unhold ?_
  refine (groups_any w6 _ b m 1 [(2, g2'), (1, g1)] HT6.out (by simp) (by omega)).mono ?_
  rintro e w7 ⟨v7, c7, rfl, hcl7, hp7, hs7, hk7⟩
  obtain ⟨x, y, rfl, hx7, hy7⟩ := perm2 (d1 := g1.dt) (d2 := g2'.dt) hp7 hs7 (by rw [HD1.out, HD2'.out]; decide)
  obtain ⟨A7, cc7, rfl, hsl7⟩ := hcl7.own.sl cp_len (by simp)
  have HX7 := Lib.hid (hx7.trans HD1.out)
  have HY7 := Lib.hid (hy7.trans HD2'.out)
  have HSL7 := Lib.hid hsl7
  have HCR7 := Lib.hid (show ∀ z ∈ [x, y], CpR w7 z from fun z hz => (hcl7.at_ z hz).read (by
    simp only [List.mem_cons, List.not_mem_nil, or_false] at hz
    rcases hz with rfl | rfl
    · rw [hx7.trans HD1.out]; simp
    · rw [hy7.trans HD2'.out]; simp))
  have HSL67 := Lib.hid (HSL6.out.keep hk7)
  have HCZ7 := Lib.hid (HCZ.out.keep hk7)
  have HK7 := Lib.hid (HK6.out.trans hk7)
  clear hcl7 hp7 hs7 hk7 hsl7 hx7 hy7 HT6 HK6 HSL6 HCZ HDZ HD1 HD2'
  simp only [List.length_cons, List.length_nil, Nat.zero_add, Nat.reduceAdd]
  go_wp2_with (go_at_call 12; refine Zone.hold ?_)
  refine Zone.unhold ?_
  obtain ⟨he1, he2, he3⟩ := exp_ok w7
  refine (rsame_any A7 (some ⟨w7.heap.size + 1 + 1 + 1 + 1 + 1 + 1 + 1 + 1, 0, none⟩) cc7 2 [x, y] (expC w7.heap.size) (allocs w7 (expO w7.heap.size)) (HSL7.out.keep he3) he1 (fun z hz => (HCR7.out z hz).keep he3) he2 (by
    show [x.d, y.d] = [_, _]
    rw [HX7.out, HY7.out])).mono ?_
  rintro e w8 ⟨rfl, hk8⟩
  have HK8 := Lib.hid (HK7.out.trans (he3.trans hk8))
  have HSL8 := Lib.hid (HSL67.out.keep (he3.trans hk8))
  have HCZ8 := Lib.hid (HCZ7.out.keep (he3.trans hk8))
  clear he1 he2 he3 hk8 HSL67 HCZ7 HK7 HSL7 HCR7 HX7 HY7
  obtain ⟨g, off, hA, hg, z0, z1, z2, z3, z4⟩ := sl_cp HSL8.out 0 (by simp)
  obtain ⟨g3, off3, hl3, hg3, l0⟩ := sl_int HCZ8.out.l 0 (by simp)
  simp only [List.getElem_cons_zero, Nat.zero_mul, Nat.add_zero, HXZ.out] at z0 z1 z2 z3 z4 l0
  rw [hl3] at z3
  subst hA
  clear hl3 HSL8 HCZ8 HXZ
  go_wp2
  go_ret
  exact ⟨rfl, HK8.out⟩
end Go.Proofs.Ytpefhleglhbfaaa
