
/- groups: the group of a key that is there; Put. -/
import Derived.WalkKit
import Derived.Lib.Hide
import Derived.WalkSpells
import Derived.WalkLawsBesides
import Derived.BigQuiet
import Derived.Shelf.Abstract
import Derived.Lib.SliceRun
import Derived.Laws.CopyOwn
import Derived.IntWalk
import Derived.Deep.CutRange
import Derived.Deep.DeepCutAuto
import Derived.Test.YtpefhleglhbfaaaGb
namespace Go.Proofs.Ytpefhleglhbfaaa
open Go.RowKit Go.Zone Go.Shelf
attribute [local go_sem] Zone.zone Zone.stepZ Zone.fill Zone.lookFs Zone.goes Zone.goesUpon Zone.dropFs Zone.cell_gro Zone.frozen_gro Zone.size_gro Zone.lt_add Zone.drew_gro Zone.tape_gro Zone.keep_refl
attribute [local go_sem] Zone.lt_add2 Zone.lt_add3 Zone.lt_add4 Zone.lt_add5 Zone.lt_add6 Zone.lt_add7 Zone.lt_add8 Zone.lt_add9 Zone.lt_add10 Zone.lt_add11 Zone.lt_add12

theorem group_old (w : World) (b m by_ clock sp : Nat) (es : Array MapEntry) (A : Option Addr) (c : Nat) (ids : List Int) (x0 : Int) (hT : Row w b 32 (TabC by_ m)) (hM : w.heap[m]? = some (.map es clock)) (hi : Sl w 1 intV A c ids) (hx : IsKey ids x0)
    (hlook : ∀ W : World, W.heap[m]? = some (.map es clock) → (Instr.lookup 30 (.map (some m)) (keyV x0) true).run Try.prog W = .ok (.tuple #[.pointer (some ⟨sp, 0, none⟩), .bool true]) W) :
    Calls Try.prog 14 #[.pointer (some ⟨b, 0, none⟩), .slice A ids.length c] w fun e w' => e = .returned (.pointer (some ⟨sp, 0, none⟩)) ∧ Keep w w' := by
  have HT := Lib.hid hT
  have HM := Lib.hid hM
  have HI := Lib.hid hi
  have HX := Lib.hid hx
  have HLO := Lib.hid hlook
  have hmlt : m < w.heap.size := (Array.getElem?_eq_some_iff.1 hM).1
  have hblt := hT.lt
  have hlen : ids.length ≤ 1 := by rcases hx with ⟨rfl, _⟩ | rfl <;> simp
  have HR := Lib.hid (row_alloc w 48 (keyC 0))
  have HPOS := Lib.hid (show 0 < (ids.map fun x => Value.int .i64 x).length → ∃ ad, A = some ad ∧ ∀ j v, (ids.map fun x => Value.int .i64 x)[j]? = some v → (w.alloc (.cells (keyC 0).toArray 48)).cell? (ad.add j) = some v from fun hp => by
    rcases hx with ⟨rfl, _⟩ | rfl
    · simp at hp
    · obtain ⟨g, off, hA, hg, h0⟩ := sl_int (hi.keep ((Keep.refl w).alloc (.cells (keyC 0).toArray 48))) 0 (by simp)
      refine ⟨_, hA, fun j v hj => ?_⟩
      match j, hj with
      | 0, hj =>
        simp only [List.map_cons, List.getElem?_cons_zero, Option.some.injEq] at hj
        subst hj
        simpa [Addr.add] using h0)
  have HSP := Lib.hid (show splice (keyC 0) 0 (ids.map fun x => Value.int .i64 x) = keyC x0 by
    rcases hx with ⟨rfl, rfl⟩ | rfl
    · rfl
    · rfl)
  clear hT hM hi hx hlook
  obtain ⟨n, hn⟩ : ∃ n, ids.length = n := ⟨_, rfl⟩
  have HN := Lib.hid hn
  rw [hn] at hlen ⊢
  clear hn
  go_enter Try.func14, Try.ntmps14
  go_wp2_with (with_reducible refine Zone.hold_at 10 ?_)
  refine Zone.unhold ?_
  refine wpList_copy_splice rfl (.tmp 8) (.tmp 9) 22 22 rfl 3 Try.underlying22 (by kernel_rfl) (some ⟨w.heap.size, 0, none⟩) A 16 16 n c rfl rfl w.heap.size 0 (keyC 0) 48 HR.out (ids.map fun x => Value.int .i64 x) (by rw [List.length_map, HN.out]; exact (Nat.min_eq_left (by omega)).symm) (fun hp => ⟨rfl, HPOS.out hp⟩) (by rw [List.length_map, HN.out]; show 0 + n ≤ 16; omega) (fun v hv => by obtain ⟨x, _, rfl⟩ := List.mem_map.1 hv; rfl) w.heap.size w ((Below.refl _ _).alloc (Nat.le_refl _) _) (Nat.le_refl _) ?_
  intro w1 hr1 hb1
  have HK1 := Lib.hid (show Row w1 w.heap.size 48 (keyC x0) from HSP.out ▸ hr1)
  clear hr1 HPOS HSP HR
  have HB1 := Lib.hid (show Keep w w1 from hb1)
  have hz1 := HK1.out.lt
  have HTm := Lib.hid (HT.out.keep HB1.out)
  have hmb : m < w1.heap.size := by have := HB1.out.size; omega
  have hbb : b < w1.heap.size := by have := HB1.out.size; omega
  have HM1 := Lib.hid ((HB1.out.block m hmlt).trans HM.out)
  have HZ1 := Lib.hid HB1.out.size
  rw [List.length_map, HN.out]
  generalize w.heap.size = kb at hz1 HK1 HZ1 ⊢
  have hlk : ∀ p, (Instr.lookup 30 (.map (some m)) (keyV x0) true).run Try.prog (w1.gro p) = .ok (.tuple #[.pointer (some ⟨sp, 0, none⟩), .bool true]) (w1.gro p) := fun p => HLO.out _ ((heap_gro w1 p m hmb).trans HM1.out)
  unfold keyV at hlk
  have t0 := HTm.out.cell 0 _ rfl
  have t1 := HTm.out.cell 1 _ rfl
  have t2 := HTm.out.cell 2 _ rfl
  have k0 := HK1.out.cell 0 _ rfl
  have k1 := HK1.out.cell 1 _ rfl
  have k2 := HK1.out.cell 2 _ rfl
  have k3 := HK1.out.cell 3 _ rfl
  have k4 := HK1.out.cell 4 _ rfl
  have k5 := HK1.out.cell 5 _ rfl
  have k6 := HK1.out.cell 6 _ rfl
  have k7 := HK1.out.cell 7 _ rfl
  have k8 := HK1.out.cell 8 _ rfl
  have k9 := HK1.out.cell 9 _ rfl
  have k10 := HK1.out.cell 10 _ rfl
  have k11 := HK1.out.cell 11 _ rfl
  have k12 := HK1.out.cell 12 _ rfl
  have k13 := HK1.out.cell 13 _ rfl
  have k14 := HK1.out.cell 14 _ rfl
  have k15 := HK1.out.cell 15 _ rfl
  go_wp2
  first | refine Zone.wp_region_all_gro (by kernel_rfl) (by kernel_rfl) ?_ | refine Zone.wp_region_all (by kernel_rfl) (by kernel_rfl) ?_
  repeat
    refine Zone.wpZ_step (fun K hK => ?_)
    go_simp
    first
    | (refine hK _ _ ?_; clear hK K)
    | (apply Exists.intro
       refine ⟨fun p => ?_, hK _ _ ?_⟩
       (fail)
       clear hK K)
  refine Zone.wpZ_nil ?_
  intro p
  simp only [Zone.fill]
  go_wp2
  go_ret
  exact ⟨rfl, HB1.out.trans (by repeat (first | exact Keep.refl _ | apply Keep.alloc | apply Keep.gro | apply Keep.drew | apply Keep.drewN))⟩
/-- What Put sees. -/
structure PutSt (w : World) (b pb L m n : Nat) (A : Option Addr) (c : Nat) (cnt v : Int) (sp sb lb gb : Nat) (kv : Value) (cn s l gg : Int) : Prop where
  rb : Row w b 32 (TabC n m)
  rp : Row w pb 25 [.slice A n c, .int .i64 cnt, .slice (some ⟨L, 0, none⟩) 1 1, .slice (some ⟨L, 0, none⟩) 1 1, .slice (some ⟨L, 0, none⟩) 1 1]
  rL : Row w L 2 [.int .i64 v]
  r0 : Row w sp 25 [kv, .int .i64 cn, .slice (some ⟨sb, 0, none⟩) 1 1, .slice (some ⟨lb, 0, none⟩) 1 1, .slice (some ⟨gb, 0, none⟩) 1 1]
  r1 : Row w sb 2 [.int .i64 s]
  r2 : Row w lb 2 [.int .i64 l]
  r3 : Row w gb 2 [.int .i64 gg]
  d0 : sp ≠ pb
  d1 : L ≠ sb
  d2 : L ≠ lb
  d3 : L ≠ gb
  d4 : sb ≠ lb
  d5 : sb ≠ gb
  d6 : lb ≠ gb
section
variable {w w' : World} {b pb L m n : Nat} {A : Option Addr} {c : Nat} {cnt v : Int} {sp sb lb gb : Nat} {kv : Value} {cn s l gg : Int}
theorem PutSt.keep (h : PutSt w b pb L m n A c cnt v sp sb lb gb kv cn s l gg) (hk : Keep w w') : PutSt w' b pb L m n A c cnt v sp sb lb gb kv cn s l gg :=
  ⟨h.rb.keep hk, h.rp.keep hk, h.rL.keep hk, h.r0.keep hk, h.r1.keep hk, h.r2.keep hk, h.r3.keep hk, h.d0, h.d1, h.d2, h.d3, h.d4, h.d5, h.d6⟩
theorem PutSt.setCnt (h : PutSt w b pb L m n A c cnt v sp sb lb gb kv cn s l gg) (x : Int) : PutSt (w.setCell ⟨sp, 1, none⟩ (.int .i64 x)) b pb L m n A c cnt v sp sb lb gb kv x s l gg :=
  ⟨h.rb.other _ _ (row_ne h.r0 h.rb (by decide)), h.rp.other _ _ h.d0, h.rL.other _ _ (row_ne h.r0 h.rL (by decide)), h.r0.set 1 _, h.r1.other _ _ (row_ne h.r0 h.r1 (by decide)), h.r2.other _ _ (row_ne h.r0 h.r2 (by decide)), h.r3.other _ _ (row_ne h.r0 h.r3 (by decide)), h.d0, h.d1, h.d2, h.d3, h.d4, h.d5, h.d6⟩
theorem PutSt.setS (h : PutSt w b pb L m n A c cnt v sp sb lb gb kv cn s l gg) (x : Int) : PutSt (w.setCell ⟨sb, 0, none⟩ (.int .i64 x)) b pb L m n A c cnt v sp sb lb gb kv cn x l gg :=
  ⟨h.rb.other _ _ (row_ne h.r1 h.rb (by decide)), h.rp.other _ _ (row_ne h.r1 h.rp (by decide)), h.rL.other _ _ (Ne.symm h.d1), h.r0.other _ _ (row_ne h.r1 h.r0 (by decide)), h.r1.set 0 _, h.r2.other _ _ h.d4, h.r3.other _ _ h.d5, h.d0, h.d1, h.d2, h.d3, h.d4, h.d5, h.d6⟩
theorem PutSt.setL (h : PutSt w b pb L m n A c cnt v sp sb lb gb kv cn s l gg) (x : Int) : PutSt (w.setCell ⟨lb, 0, none⟩ (.int .i64 x)) b pb L m n A c cnt v sp sb lb gb kv cn s x gg :=
  ⟨h.rb.other _ _ (row_ne h.r2 h.rb (by decide)), h.rp.other _ _ (row_ne h.r2 h.rp (by decide)), h.rL.other _ _ (Ne.symm h.d2), h.r0.other _ _ (row_ne h.r2 h.r0 (by decide)), h.r1.other _ _ (Ne.symm h.d4), h.r2.set 0 _, h.r3.other _ _ h.d6, h.d0, h.d1, h.d2, h.d3, h.d4, h.d5, h.d6⟩
theorem PutSt.setG (h : PutSt w b pb L m n A c cnt v sp sb lb gb kv cn s l gg) (x : Int) : PutSt (w.setCell ⟨gb, 0, none⟩ (.int .i64 x)) b pb L m n A c cnt v sp sb lb gb kv cn s l x :=
  ⟨h.rb.other _ _ (row_ne h.r3 h.rb (by decide)), h.rp.other _ _ (row_ne h.r3 h.rp (by decide)), h.rL.other _ _ (Ne.symm h.d3), h.r0.other _ _ (row_ne h.r3 h.r0 (by decide)), h.r1.other _ _ (Ne.symm h.d5), h.r2.other _ _ (Ne.symm h.d6), h.r3.set 0 _, h.d0, h.d1, h.d2, h.d3, h.d4, h.d5, h.d6⟩
end
theorem turn4 {w1 w2 w3 w4 w5 : World} {a b c d : Nat} (h1 : Turn w1 w2 [a]) (h2 : Turn w2 w3 [b]) (h3 : Turn w3 w4 [c]) (h4 : Turn w4 w5 [d]) : Turn w1 w5 [a, b, c, d] :=
  (((h1.mono (by simp)).trans (h2.mono (by simp))).trans (h3.mono (by simp))).trans (h4.mono (by simp))
theorem GpAt.put {w w' : World} {lo : Nat} {g : Gp} {b pb L m n : Nat} {A : Option Addr} {c : Nat} {cnt v cn s l gg : Int} (h : GpAt w lo g) (hs : PutSt w' b pb L m n A c cnt v g.sp g.sb g.lb g.gb (.slice g.kA g.key.length g.kc) cn s l gg) (ht : Turn w w' [g.sp, g.sb, g.lb, g.gb]) :
    GpAt w' lo { g with cnt := cn, s := s, l := l, g := gg } :=
  ⟨hs.r0, h.key.turn ht (fun i hi e => by
      rcases h.key.2 with ⟨h1, _⟩ | ⟨q, cap, cur, hv, hb, hg, _⟩
      · rw [h1] at e; cases e
      · rw [hv] at e
        have hq : q = i := by simpa [Value.ownBlock] using e
        subst hq
        have hne : ∀ {T : TypeId} {a : Nat} {vs : List Value}, Row w a T vs → T ≠ 3 → a ≠ q := fun hr hT hh => by
          subst hh
          unfold Row at hr
          rw [hr] at hg
          simp at hg
          exact hT hg.2
        simp only [List.mem_cons, List.not_mem_nil, or_false] at hi
        rcases hi with hi | hi | hi | hi
        · exact hne h.row (by decide) hi.symm
        · exact hne h.rs (by decide) hi.symm
        · exact hne h.rl (by decide) hi.symm
        · exact hne h.rg (by decide) hi.symm), hs.r1, hs.r2, hs.r3, h.lp, h.ls, h.ll, h.lg, h.sl, h.sg, h.lg_⟩
def minI (x y : Int) : Int := if y < x then y else x
def maxI (x y : Int) : Int := if x < y then y else x
set_option maxHeartbeats 2000000 in
theorem put_core (w : World) (b m lo : Nat) (A : Option Addr) (c : Nat) (ids : List Int) (L : Nat) (v cnt c0 s0 l0 g0 : Int) (R : Gp → World → Prop) (hT : Row w b 32 (TabC ids.length m)) (hi : Sl w 1 intV A c ids) (hl : ids.length ≤ 1) (hL : Row w L 2 [.int .i64 v])
    (hc : 1 ≤ cnt ∧ cnt ≤ 1000) (hc0 : 0 ≤ c0 ∧ c0 ≤ 1000) (hs0 : -1000 ≤ s0 ∧ s0 ≤ 1000) (hv : -1000 ≤ v ∧ v ≤ 1000) (hm : m ≠ b ∧ m ≠ L ∧ m < w.heap.size)
    (hgr : ∀ W, Keep w W → w.heap.size < W.heap.size → Calls Try.prog 14 #[.pointer (some ⟨b, 0, none⟩), .slice A ids.length c] W fun e w' => ∃ g : Gp, e = .returned (.pointer (some ⟨g.sp, 0, none⟩)) ∧ (g.cnt = c0 ∧ g.s = s0 ∧ g.l = l0 ∧ g.g = g0) ∧ GpAt w' lo g ∧ R g w' ∧ Turn W w' [m] ∧ g.sp ≠ w.heap.size ∧ L ≠ g.sb ∧ L ≠ g.lb ∧ L ≠ g.gb) :
    Calls Try.prog 7 #[.pointer (some ⟨b, 0, none⟩), .agg #[.slice A ids.length c, .int .i64 cnt, .slice (some ⟨L, 0, none⟩) 1 1, .slice (some ⟨L, 0, none⟩) 1 1, .slice (some ⟨L, 0, none⟩) 1 1]] w fun e w' => ∃ (g : Gp) (w1 : World), e = .returned (.int .i64 0) ∧
      R g w1 ∧ GpAt w1 lo g ∧ Turn w w1 [m] ∧ Turn w1 w' [g.sp, g.sb, g.lb, g.gb] ∧ GpAt w' lo { g with cnt := c0 + cnt, s := s0 + v, l := minI l0 v, g := maxI g0 v } := by
  have HT := Lib.hid hT
  have HI := Lib.hid hi
  have HL := Lib.hid hL
  have HGR := Lib.hid hgr
  have hRD := ready_yes
  have hblt := hT.lt
  have hLlt := hL.lt
  have t0 := hT.cell 0 _ rfl
  have t1 := hT.cell 1 _ rfl
  have t2 := hT.cell 2 _ rfl
  obtain ⟨n, hn⟩ : ∃ n, ids.length = n := ⟨_, rfl⟩
  have HN := Lib.hid hn
  rw [hn] at hl HGR HT t0 ⊢
  have HM := Lib.hid hm
  have hcn : ¬ cnt < 1 := by omega
  clear hT hi hL hgr hn hm
  go_enter Try.func7, Try.ntmps7
  go_wp2_with (go_at_call 13; refine (ready_yes _ b m (((show Keep w _ from (by repeat (first | exact Keep.refl _ | apply Keep.alloc | apply Keep.gro | apply Keep.drew | apply Keep.drewN))).cell (p := ⟨b, 2, none⟩) hblt).trans t2)).mono ?_; rintro e w' ⟨rfl, rfl⟩)
  first | refine Zone.wp_region_all_gro (by kernel_rfl) (by kernel_rfl) ?_ | refine Zone.wp_region_all (by kernel_rfl) (by kernel_rfl) ?_
  repeat
    refine Zone.wpZ_step (fun K hK => ?_)
    go_simp
    first
    | (refine hK _ _ ?_; clear hK K)
    | (apply Exists.intro
       refine ⟨fun p => ?_, hK _ _ ?_⟩
       (fail)
       clear hK K)
  refine Zone.wpZ_nil ?_
  intro p
  simp only [Zone.fill]
  have hcd : decide (cnt < 1) = false := by simp; omega
  go_wp2_with (go_at_call 14; refine Zone.hold ?_)
  refine Zone.unhold ?_
  clear hcd
  refine (HGR.out _ (by repeat (first | exact Keep.refl _ | apply Keep.alloc | apply Keep.gro | apply Keep.drew | apply Keep.drewN)) (by simp [size_gro]; omega)).mono ?_
  rintro e w2 ⟨g, rfl, ⟨hg1, hg2, hg3, hg4⟩, hga, hr, htn, hne, hL1, hL2, hL3⟩
  have HKW := Lib.hid (show Keep w ((w.alloc (.cells #[.slice A n c, .int .i64 cnt, .slice (some ⟨L, 0, none⟩) 1 1, .slice (some ⟨L, 0, none⟩) 1 1, .slice (some ⟨L, 0, none⟩) 1 1] 25)).gro p) from (by repeat (first | exact Keep.refl _ | apply Keep.alloc | apply Keep.gro | apply Keep.drew | apply Keep.drewN)))
  have HST := Lib.hid (show PutSt w2 b w.heap.size L m n A c cnt v g.sp g.sb g.lb g.gb (.slice g.kA g.key.length g.kc) c0 s0 l0 g0 from
    ⟨htn.row (HT.out.keep HKW.out) (by simpa using (Ne.symm HM.out.1)), htn.row ((row_alloc w 25 [_, _, _, _, _]).keep (below_gro _ p)) (by have := HM.out.2.2; simp; omega), htn.row (HL.out.keep HKW.out) (by simpa using (Ne.symm HM.out.2.1)),
      hg1 ▸ hga.row, hg2 ▸ hga.rs, hg3 ▸ hga.rl, hg4 ▸ hga.rg, hne, hL1, hL2, hL3, hga.sl, hga.sg, hga.lg_⟩)
  have HTN := Lib.hid ((Turn.keep HKW.out [m]).trans htn)
  have HGA := Lib.hid hga
  have HR := Lib.hid hr
  clear htn hga hr hne hL1 hL2 hL3 hg1 hg2 hg3 hg4 HGR t0 t1 t2 hRD
  obtain ⟨pb, hpb⟩ : ∃ pb, w.heap.size = pb := ⟨_, rfl⟩
  have HPB := Lib.hid hpb
  rw [hpb] at HST hblt hLlt
  simp only [hpb]
  clear hpb
  clear HKW
  generalize w2 = w3 at *
  have hcn2 : IntKind.i64.wrap (c0 + cnt) = c0 + cnt := by apply IntWalk.i64_in <;> omega
  go_wp2
  have s1 := HST.out.r0.cell 1 _ rfl
  have f1 := HST.out.r0.soft 1
  have p1 := HST.out.rp.cell 1 _ rfl
  have hz0 := HST.out.r0.lt
  have hzp := HST.out.rp.lt
  first | refine Zone.wp_region_gro 9 (by kernel_rfl) (by kernel_rfl) ?_ | refine Zone.wp_region 9 (by kernel_rfl) (by kernel_rfl) ?_
  simp only [List.take_succ_cons, List.take_zero, List.drop_succ_cons, List.drop_zero]
  repeat
    refine Zone.wpZ_step (fun K hK => ?_)
    go_simp
    first
    | (refine hK _ _ ?_; clear hK K)
    | (apply Exists.intro
       refine ⟨fun p => ?_, hK _ _ ?_⟩
       (fail)
       clear hK K)
  refine Zone.wpZ_nil ?_
  intro p2
  simp only [Zone.fill]
  go_upto_region 7 with fail
  have HST4 := Lib.hid ((HST.out.keep (below_gro w3 p2)).setCnt (c0 + cnt))
  have HT4 := Lib.hid ((Turn.keep (below_gro w3 p2) [g.sp]).trans (Turn.set (w3.gro p2) ⟨g.sp, 1, none⟩ (.int .i64 (c0 + cnt))))
  generalize World.setCell _ _ _ = w4 at HST4 HT4 ⊢
  clear s1 f1 p1 hz0 hzp hcn2
  have t1 := HST4.out.rb.cell 1 _ rfl
  have hs2 : IntKind.i64.wrap (s0 + v) = s0 + v := by apply IntWalk.i64_in <;> omega
  go_wp2
  clear t1
  refine wp_loop_rounds 2 ?_
  rw [rounds_succ]
  go_upto_region 10 with fail
  have c1 := HST4.out.r0.cell 2 _ rfl
  have c2 := HST4.out.rp.cell 2 _ rfl
  have c3 := (HST4.out.r1).cell 0 _ rfl
  have c4 := (HST4.out.rL).cell 0 _ rfl
  have f3 := (HST4.out.r1).soft 0
  have z1 := HST4.out.r0.lt
  have z2 := HST4.out.rp.lt
  have z3 := (HST4.out.r1).lt
  have z4 := (HST4.out.rL).lt
  first | refine Zone.wp_region_gro 14 (by kernel_rfl) (by kernel_rfl) ?_ | refine Zone.wp_region 14 (by kernel_rfl) (by kernel_rfl) ?_
  simp only [List.take_succ_cons, List.take_zero, List.drop_succ_cons, List.drop_zero]
  repeat
    refine Zone.wpZ_step (fun K hK => ?_)
    go_simp
    first
    | (refine hK _ _ ?_; clear hK K)
    | (apply Exists.intro
       refine ⟨fun p => ?_, hK _ _ ?_⟩
       (fail)
       clear hK K)
  refine Zone.wpZ_nil ?_
  intro q
  simp only [Zone.fill]
  go_upto_region 11 with fail
  have HST5 := Lib.hid ((HST4.out.keep (below_gro w4 q)).setS (s0 + v))
  have HT5 := Lib.hid ((Turn.keep (below_gro w4 q) [g.sb]).trans (Turn.set (w4.gro q) ⟨g.sb, 0, none⟩ (.int .i64 (s0 + v))))
  generalize World.setCell (World.gro w4 q) ⟨g.sb, 0, none⟩ (.int .i64 (s0 + v)) = w5 at HST5 HT5 ⊢
  clear c1 c2 c3 c4 f3 z1 z2 z3 z4
  go_upto_region 11 with fail
  have c1 := HST5.out.r0.cell 3 _ rfl
  have c2 := HST5.out.rp.cell 3 _ rfl
  have c3 := (HST5.out.r2).cell 0 _ rfl
  have c4 := (HST5.out.rL).cell 0 _ rfl
  have f3 := (HST5.out.r2).soft 0
  have z1 := HST5.out.r0.lt
  have z2 := HST5.out.rp.lt
  have z3 := (HST5.out.r2).lt
  have z4 := (HST5.out.rL).lt
  first | refine Zone.wp_region_gro 19 (by kernel_rfl) (by kernel_rfl) ?_ | refine Zone.wp_region 19 (by kernel_rfl) (by kernel_rfl) ?_
  simp only [List.take_succ_cons, List.take_zero, List.drop_succ_cons, List.drop_zero]
  repeat
    refine Zone.wpZ_step (fun K hK => ?_)
    go_simp
    first
    | (refine hK _ _ ?_; clear hK K)
    | (apply Exists.intro
       refine ⟨fun p => ?_, hK _ _ ?_⟩
       (fail)
       clear hK K)
  refine Zone.wpZ_nil ?_
  intro q
  simp only [Zone.fill]
  go_upto_region 12 with fail
  have HST6 := Lib.hid ((HST5.out.keep (below_gro w5 q)).setL (if v < l0 then v else l0))
  have HT6 := Lib.hid ((Turn.keep (below_gro w5 q) [g.lb]).trans (Turn.set (w5.gro q) ⟨g.lb, 0, none⟩ (.int .i64 (if v < l0 then v else l0))))
  generalize World.setCell (World.gro w5 q) ⟨g.lb, 0, none⟩ (.int .i64 (if v < l0 then v else l0)) = w6 at HST6 HT6 ⊢
  clear c1 c2 c3 c4 f3 z1 z2 z3 z4
  go_upto_region 12 with fail
  have c1 := HST6.out.r0.cell 4 _ rfl
  have c2 := HST6.out.rp.cell 4 _ rfl
  have c3 := (HST6.out.r3).cell 0 _ rfl
  have c4 := (HST6.out.rL).cell 0 _ rfl
  have f3 := (HST6.out.r3).soft 0
  have z1 := HST6.out.r0.lt
  have z2 := HST6.out.rp.lt
  have z3 := (HST6.out.r3).lt
  have z4 := (HST6.out.rL).lt
  first | refine Zone.wp_region_gro 19 (by kernel_rfl) (by kernel_rfl) ?_ | refine Zone.wp_region 19 (by kernel_rfl) (by kernel_rfl) ?_
  simp only [List.take_succ_cons, List.take_zero, List.drop_succ_cons, List.drop_zero]
  repeat
    refine Zone.wpZ_step (fun K hK => ?_)
    go_simp
    first
    | (refine hK _ _ ?_; clear hK K)
    | (apply Exists.intro
       refine ⟨fun p => ?_, hK _ _ ?_⟩
       (fail)
       clear hK K)
  refine Zone.wpZ_nil ?_
  intro q
  simp only [Zone.fill]
  go_upto_region 13 with fail
  have HST7 := Lib.hid ((HST6.out.keep (below_gro w6 q)).setG (if g0 < v then v else g0))
  have HT7 := Lib.hid ((Turn.keep (below_gro w6 q) [g.gb]).trans (Turn.set (w6.gro q) ⟨g.gb, 0, none⟩ (.int .i64 (if g0 < v then v else g0))))
  generalize World.setCell (World.gro w6 q) ⟨g.gb, 0, none⟩ (.int .i64 (if g0 < v then v else g0)) = w7 at HST7 HT7 ⊢
  clear c1 c2 c3 c4 f3 z1 z2 z3 z4
  go_wp2
  all_goals
    rw [rounds_succ]
    go_wp2
    go_ret
    exact ⟨g, w3, rfl, HR.out, HGA.out, HTN.out, turn4 HT4.out HT5.out HT6.out HT7.out, HGA.out.put HST7.out (turn4 HT4.out HT5.out HT6.out HT7.out)⟩
end Go.Proofs.Ytpefhleglhbfaaa
