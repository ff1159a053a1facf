
/- groups: a copy of a group. -/
import Derived.WalkKit
import Derived.Lib.Hide
import Derived.WalkSpells
import Derived.WalkLawsBesides
import Derived.BigQuiet
import Derived.Shelf.Abstract
import Derived.Lib.SliceRun
import Derived.Laws.CopyOwn
import Derived.IntWalk
import Derived.Deep.CutRange
import Derived.Deep.DeepCutAuto
import Derived.Test.YtpefhleglhbfaaaGc
namespace Go.Proofs.Ytpefhleglhbfaaa
open Go.RowKit Go.Zone Go.Shelf
attribute [local go_sem] Zone.zone Zone.stepZ Zone.fill Zone.lookFs Zone.goes Zone.goesUpon Zone.dropFs Zone.cell_gro Zone.frozen_gro Zone.size_gro Zone.lt_add Zone.drew_gro Zone.tape_gro Zone.keep_refl
attribute [local go_sem] Zone.lt_add2 Zone.lt_add3 Zone.lt_add4 Zone.lt_add5 Zone.lt_add6 Zone.lt_add7 Zone.lt_add8 Zone.lt_add9 Zone.lt_add10 Zone.lt_add11 Zone.lt_add12
/-- What a group says. -/
structure Dt where
  key : List Int
  cnt : Int
  s : Int
  l : Int
  g : Int
/-- A group by value, its lists in blocks of their own. -/
structure Cp where
  d : Dt
  kA : Option Addr
  kc : Nat
  sA : Option Addr
  sc : Nat
  lA : Option Addr
  lc : Nat
  gA : Option Addr
  gc : Nat
def Cp.cells (x : Cp) : List Value := [.slice x.kA x.d.key.length x.kc, .int .i64 x.d.cnt, .slice x.sA 1 x.sc, .slice x.lA 1 x.lc, .slice x.gA 1 x.gc]
structure CpAt (w : World) (lo : Nat) (x : Cp) : Prop where
  key : Own w lo 3 1 intV (.slice x.kA x.d.key.length x.kc) x.d.key
  s : Own w lo 2 1 intV (.slice x.sA 1 x.sc) [x.d.s]
  l : Own w lo 2 1 intV (.slice x.lA 1 x.lc) [x.d.l]
  g : Own w lo 2 1 intV (.slice x.gA 1 x.gc) [x.d.g]
theorem CpAt.keep {w w' : World} {lo : Nat} {x : Cp} (h : CpAt w lo x) (hk : Keep w w') : CpAt w' lo x := ⟨h.key.keep hk, h.s.keep hk, h.l.keep hk, h.g.keep hk⟩
theorem CpAt.lower {w : World} {lo lo' : Nat} {x : Cp} (h : CpAt w lo x) (hl : lo' ≤ lo) : CpAt w lo' x := ⟨h.key.base_mono hl, h.s.base_mono hl, h.l.base_mono hl, h.g.base_mono hl⟩
theorem CpAt.turn {w w' : World} {lo b : Nat} {vs : List Value} {x : Cp} (h : CpAt w lo x) (ht : Turn w w' [b]) (hr : Row w b 25 vs) : CpAt w' lo x :=
  ⟨h.key.turn ht (by simpa using own_row_ne h.key hr (by decide)), h.s.turn ht (by simpa using own_row_ne h.s hr (by decide)), h.l.turn ht (by simpa using own_row_ne h.l hr (by decide)), h.g.turn ht (by simpa using own_row_ne h.g hr (by decide))⟩
theorem _root_.Go.Zone.Keep.after' {w w1 w2 : World} {b : Nat} (h : Keep w w1) (k : Turn w1 w2 [b]) (hb : w.heap.size ≤ b) : Keep w w2 := Turn.after h k (by simpa using hb)
def Gp.dt (g : Gp) : Dt := ⟨g.key, g.cnt, g.s, g.l, g.g⟩
def PI (lo : Nat) (x : Int) : Zone.Pred := fun v W => ∃ A c, v = .slice A 1 c ∧ Own W lo 2 1 intV (.slice A 1 c) [x]
theorem PI.mono {lo : Nat} {x : Int} : Zone.Mono (PI lo x) := fun _ _ _ hk ⟨A, c, h1, h2⟩ => ⟨A, c, h1, h2.keep hk⟩
def PC (lo : Nat) (d : Dt) : Zone.Pred := fun v W => ∃ x : Cp, v = .agg x.cells.toArray ∧ x.d = d ∧ CpAt W lo x
theorem PC.mono {lo : Nat} {d : Dt} : Zone.Mono (PC lo d) := fun _ _ _ hk ⟨x, h1, h2, h3⟩ => ⟨x, h1, h2, h3.keep hk⟩
theorem turn_setRow (w : World) (g : Nat) (cs : Array Value) : Turn w (w.setRow g cs) [g] := ⟨rfl, rfl, rfl, by simp, fun i _ hi => setRow_other w g i cs (by simpa using hi)⟩
set_option maxHeartbeats 4000000 in
theorem copied_any (w : World) (lo0 : Nat) (g : Gp) (h : GpAt w lo0 g) (hl : g.key.length ≤ 1) :
    Calls Try.prog 15 #[.pointer (some ⟨g.sp, 0, none⟩)] w fun e w' => ∃ x : Cp, e = .returned (.agg x.cells.toArray) ∧ x.d = g.dt ∧ CpAt w' w.heap.size x ∧ Keep w w' := by
  have H := Lib.hid h
  have hlt := h.row.lt
  have s0 := h.row.cell 0 _ rfl
  have s1 := h.row.cell 1 _ rfl
  have s2 := h.row.cell 2 _ rfl
  have s3 := h.row.cell 3 _ rfl
  have s4 := h.row.cell 4 _ rfl
  have HCK := Lib.hid (fun W (hW : Keep w W) => cloneI_any g.kA g.kc g.key W (by
    obtain ⟨A, c, e, hs⟩ := (h.key.keep hW).sl int_len (by omega)
    injection e with e1 _ e2
    rw [e1, e2]
    exact hs) (by omega))
  have HC6 := Lib.hid (fun W (b : Nat) (hW : Keep w W) (x : Int) (hr : Row w b 2 [.int .i64 x]) => clone64_any (some ⟨b, 0, none⟩) 1 [x] W ((hr.keep hW).sl_blk (xs := [x]) int_len (by simp) (by simp) (by decide)) (by simp))
  obtain ⟨n, hn⟩ : ∃ n, g.key.length = n := ⟨_, rfl⟩
  have HN := Lib.hid hn
  rw [hn] at hl s0 HCK
  obtain ⟨lo, hlo⟩ : ∃ lo, w.heap.size = lo := ⟨_, rfl⟩
  have HLOW := Lib.hid hlo
  clear h hn hlo
  go_enter Try.func15, Try.ntmps15
  go_wp2
  have HR1 := Lib.hid (row_alloc w 25 [.slice none 0 0, .int .i64 0, .slice none 0 0, .slice none 0 0, .slice none 0 0])
  have HK1 := Lib.hid (show Keep w (w.alloc (.cells [.slice none 0 0, .int .i64 0, .slice none 0 0, .slice none 0 0, .slice none 0 0].toArray 25)) from (by repeat (first | exact Keep.refl _ | apply Keep.alloc | apply Keep.gro | apply Keep.drew | apply Keep.drewN)))
  generalize hw1 : World.alloc w _ = w1 at HR1 HK1 ⊢
  have hk1 := HK1.out
  replace s0 := (hk1.cell (p := ⟨g.sp, 0, none⟩) hlt).trans s0
  replace s1 := (hk1.cell (p := ⟨g.sp, 1, none⟩) hlt).trans s1
  replace s2 := (hk1.cell (p := ⟨g.sp, 2, none⟩) hlt).trans s2
  replace s3 := (hk1.cell (p := ⟨g.sp, 3, none⟩) hlt).trans s3
  replace s4 := (hk1.cell (p := ⟨g.sp, 4, none⟩) hlt).trans s4
  have hz1 := hk1.size
  replace hlt : g.sp < w1.heap.size := by omega
  clear hw1 hk1
  simp only [HLOW.out] at HR1 hz1 ⊢
  have hr1 := HR1.out.lt
  first | refine Zone.wp_region_gro 25 (by kernel_rfl) (by kernel_rfl) ?_ | refine Zone.wp_region 25 (by kernel_rfl) (by kernel_rfl) ?_
  simp only [List.take_succ_cons, List.take_zero, List.drop_succ_cons, List.drop_zero]
  iterate 4
    refine Zone.wpZ_step (fun K hK => ?_)
    go_simp
    (refine hK _ _ ?_; clear hK K)
  refine Zone.wpZ_free 7 (PK lo g.key n) rfl PK.mono ?_ ?_
  · intro p2
    simp only [Zone.fill, Zone.lookFs, List.filter_nil]
    go_simp
    go_at_call 21
    refine (HCK.out _ (HK1.out.trans (by repeat (first | exact Keep.refl _ | apply Keep.alloc | apply Keep.gro | apply Keep.drew | apply Keep.drewN)))).mono ?_
    rintro e w5 ⟨A5, c5, rfl, hr5, hk5⟩
    exact ⟨_, rfl, ⟨A5, c5, rfl, hr5.base_mono (by simp [size_gro]; omega)⟩, hk5⟩
  iterate 8
    refine Zone.wpZ_step (fun K hK => ?_)
    unfold Zone.zone Zone.stepZ
    rw [Zone.lookFs_nil (by rfl)]
    go_simp
    (refine hK _ _ ?_; clear hK K)
  refine Zone.wpZ_free 16 (PI lo g.s) rfl PI.mono ?_ ?_
  · intro p2
    rw [Zone.lookFs_nil (by rfl)]
    simp only [Zone.fill]
    go_simp
    go_at_call 23
    refine (HC6.out _ g.sb (HK1.out.trans (by repeat (first | exact Keep.refl _ | apply Keep.alloc | apply Keep.gro | apply Keep.drew | apply Keep.drewN))) _ (H.out.rs)).mono ?_
    rintro e w5 ⟨A5, c5, rfl, hr5, hk5⟩
    exact ⟨_, rfl, ⟨A5, c5, rfl, hr5.base_mono (by simp [size_gro]; omega)⟩, hk5⟩
  iterate 4
    refine Zone.wpZ_step (fun K hK => ?_)
    unfold Zone.zone Zone.stepZ
    rw [Zone.lookFs_nil (by rfl)]
    go_simp
    (refine hK _ _ ?_; clear hK K)
  refine Zone.wpZ_free 21 (PI lo g.l) rfl PI.mono ?_ ?_
  · intro p2
    rw [Zone.lookFs_nil (by rfl)]
    simp only [Zone.fill]
    go_simp
    go_at_call 23
    refine (HC6.out _ g.lb (HK1.out.trans (by repeat (first | exact Keep.refl _ | apply Keep.alloc | apply Keep.gro | apply Keep.drew | apply Keep.drewN))) _ (H.out.rl)).mono ?_
    rintro e w5 ⟨A5, c5, rfl, hr5, hk5⟩
    exact ⟨_, rfl, ⟨A5, c5, rfl, hr5.base_mono (by simp [size_gro]; omega)⟩, hk5⟩
  iterate 4
    refine Zone.wpZ_step (fun K hK => ?_)
    unfold Zone.zone Zone.stepZ
    rw [Zone.lookFs_nil (by rfl)]
    go_simp
    (refine hK _ _ ?_; clear hK K)
  refine Zone.wpZ_free 26 (PI lo g.g) rfl PI.mono ?_ ?_
  · intro p2
    rw [Zone.lookFs_nil (by rfl)]
    simp only [Zone.fill]
    go_simp
    go_at_call 23
    refine (HC6.out _ g.gb (HK1.out.trans (by repeat (first | exact Keep.refl _ | apply Keep.alloc | apply Keep.gro | apply Keep.drew | apply Keep.drewN))) _ (H.out.rg)).mono ?_
    rintro e w5 ⟨A5, c5, rfl, hr5, hk5⟩
    exact ⟨_, rfl, ⟨A5, c5, rfl, hr5.base_mono (by simp [size_gro]; omega)⟩, hk5⟩
  refine Zone.wpZ_free 27 (PC lo g.dt) rfl PC.mono ?_ ?_
  · intro p2
    rw [show Zone.lookFs _ _ _ = [(26, PI lo g.g), (21, PI lo g.l), (16, PI lo g.s), (7, PK lo g.key n)] from rfl]
    rintro v4 ⟨A4, c4, rfl, h4⟩ v3 ⟨A3, c3, rfl, h3⟩ v2 ⟨A2, c2, rfl, h2⟩ v1 ⟨A1, c1, rfl, h1⟩
    have HFI := Lib.hid (show PC lo g.dt (.agg #[.slice A1 n c1, .int .i64 g.cnt, .slice A2 1 c2, .slice A3 1 c3, .slice A4 1 c4]) (w1.gro p2) from ⟨⟨g.dt, A1, c1, A2, c2, A3, c3, A4, c4⟩, by rw [← HN.out]; rfl, rfl, by rw [← HN.out] at h1; exact h1, h2, h3, h4⟩)
    clear h1 h2 h3 h4
    go_simp
    first | exact HFI.out | exact ⟨HFI.out, Keep.refl _⟩
  refine Zone.wpZ_nil ?_
  intro p2
  simp only [Zone.fill]
  rintro v27 ⟨x, rfl, hxd, hxa⟩ v26 _ v21 _ v16 _ v7 _
  have HXD := Lib.hid hxd
  have HXA := Lib.hid hxa
  have HR2 := Lib.hid (HR1.out.keep (below_gro w1 p2))
  have HK2 := Lib.hid (HK1.out.trans (below_gro w1 p2))
  clear hxd hxa s0 s1 s2 s3 s4
  generalize w1.gro p2 = w2 at HXA HR2 HK2 ⊢
  go_simp
  refine wpList_store_row rfl 25 (.tmp 2) (.tmp 27) rfl lo x.cells.toArray rfl rfl 25 _ HR2.out (by kernel_rfl) rfl (by simp [Cp.cells, Value.oneCell']) ?_
  have HT3 := Lib.hid (turn_setRow w2 lo x.cells.toArray)
  have HR3 := Lib.hid (setRow_heap w2 lo _ x.cells.toArray 25 (0, 0) HR2.out)
  generalize World.setRow w2 lo x.cells.toArray = w3 at HT3 HR3 ⊢
  have r0 := (show Row w3 lo 25 x.cells from HR3.out).cell 0 _ rfl
  have r1 := (show Row w3 lo 25 x.cells from HR3.out).cell 1 _ rfl
  have r2 := (show Row w3 lo 25 x.cells from HR3.out).cell 2 _ rfl
  have r3 := (show Row w3 lo 25 x.cells from HR3.out).cell 3 _ rfl
  have r4 := (show Row w3 lo 25 x.cells from HR3.out).cell 4 _ rfl
  go_wp2
  exact bodyPost_ret (v := .agg x.cells.toArray) (by simp [results, Try.results15, go_sem, r0, r1, r2, r3, r4]; rfl) rfl ⟨x, rfl, HXD.out, by rw [HLOW.out]; exact HXA.out.turn HT3.out HR2.out, HK2.out.after' HT3.out (Nat.le_of_eq HLOW.out)⟩
end Go.Proofs.Ytpefhleglhbfaaa
