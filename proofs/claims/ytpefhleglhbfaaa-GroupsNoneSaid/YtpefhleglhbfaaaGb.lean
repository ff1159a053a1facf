
/- groups: Repeat of one number, once; the group of a key. -/
import Derived.WalkKit
import Derived.Lib.Hide
import Derived.WalkSpells
import Derived.WalkLawsBesides
import Derived.BigQuiet
import Derived.Shelf.Abstract
import Derived.Lib.SliceRun
import Derived.Laws.CopyOwn
import Derived.Test.YtpefhleglhbfaaaGa
namespace Go.Proofs.Ytpefhleglhbfaaa
open Go.RowKit Go.Zone Go.Shelf
attribute [local go_sem] Zone.zone Zone.stepZ Zone.fill Zone.lookFs Zone.goes Zone.goesUpon Zone.dropFs Zone.cell_gro Zone.frozen_gro Zone.size_gro Zone.lt_add Zone.drew_gro Zone.tape_gro Zone.keep_refl
attribute [local go_sem] Zone.lt_add2 Zone.lt_add3 Zone.lt_add4 Zone.lt_add5 Zone.lt_add6 Zone.lt_add7 Zone.lt_add8 Zone.lt_add9 Zone.lt_add10 Zone.lt_add11 Zone.lt_add12
theorem mul64_one (w : World) : Calls Try.prog 27 #[.int .u64 1, .int .u64 1] w fun e w' => e = .returned (.tuple #[.int .u64 0, .int .u64 1]) ∧ w = w' := by
  have hb : bits BinOp.and .u64 1 4294967295 = 1 := by kernel_rfl
  have hc : bits BinOp.and .u64 0 4294967295 = 0 := by kernel_rfl
  have h1 : IntKind.u64.wrap 1 = 1 := by kernel_rfl
  have h0 : IntKind.u64.wrap 0 = 0 := by kernel_rfl
  have hd : (1 : Int) / 4294967296 = 0 := by decide
  go_enter Try.func27, Try.ntmps27
  go_wp2_with go_in
  exact bodyPost_ret (v := .tuple #[.int .u64 0, .int .u64 1]) (by simp [results, Try.results27, go_sem]) rfl ⟨rfl, rfl⟩
theorem make64 (W : World) : (Instr.makeSlice 23 (.int .i64 1) (.int .i64 1)).run Try.prog W = .ok (.slice (some ⟨W.heap.size, 0, none⟩) 1 1) (W.alloc (.cells #[.int .i64 0] 2)) := by kernel_rfl
theorem rep_any (x : Int) (b : Nat) (w : World) (h : w.cell? ⟨b, 0, none⟩ = some (.int .i64 x)) :
    Calls Try.prog 22 #[.slice (some ⟨b, 0, none⟩) 1 1, .int .i64 1] w fun e w' => ∃ g, e = .returned (.slice (some ⟨g, 0, none⟩) 1 1) ∧ w.heap.size ≤ g ∧ Row w' g 2 [.int .i64 x] ∧ Keep w w' := by
  have HMU := Lib.hid mul64_one
  have hm := make64
  have hb := World.block_lt_of_cell? _ _ h
  have H := Lib.hid (((Keep.refl w).alloc (.cells #[.int .i64 0] 2)).cell (p := ⟨b, 0, none⟩) hb |>.trans h)
  have HR := Lib.hid (row_alloc w 2 [.int .i64 0])
  clear h
  go_enter Try.func22, Try.ntmps22
  go_wp2_with (first | (go_at_call 27; refine (HMU.out _).mono ?_; rintro e w' ⟨rfl, rfl⟩) | (with_reducible refine Zone.hold_at 33 ?_))
  refine Zone.unhold ?_
  refine wpList_copy_splice rfl (.tmp 31) (.tmp 32) 23 23 rfl 2 Try.underlying23 (by kernel_rfl) (some ⟨w.heap.size, 0, none⟩) (some ⟨b, 0, none⟩) 1 1 1 1 rfl rfl w.heap.size 0 [.int .i64 0] 2 HR.out [.int .i64 x] rfl (fun _ => ⟨rfl, _, rfl, fun j v hj => ?_⟩) (by simp) (by simp [Value.oneCell']) w.heap.size w ((Below.refl _ _).alloc (Nat.le_refl _) _) (Nat.le_refl _) ?_
  · match j, hj with
    | 0, hj =>
      cases hj
      exact H.out
  · intro w1 hr1 hb1
    have HRX := Lib.hid (show Row w1 w.heap.size 2 [.int .i64 x] from hr1)
    clear hr1
    go_wp2
    refine wp_loop_rounds 1 ?_
    rw [rounds_succ]
    go_wp2
    go_ret
    exact ⟨_, rfl, Nat.le_refl _, HRX.out, hb1⟩
/-- A group in memory. -/
structure Gp where
  sp : Nat
  kA : Option Addr
  kc : Nat
  key : List Int
  cnt : Int
  sb : Nat
  lb : Nat
  gb : Nat
  s : Int
  l : Int
  g : Int
structure GpAt (w : World) (lo : Nat) (x : Gp) : Prop where
  row : Row w x.sp 25 [.slice x.kA x.key.length x.kc, .int .i64 x.cnt, .slice (some ⟨x.sb, 0, none⟩) 1 1, .slice (some ⟨x.lb, 0, none⟩) 1 1, .slice (some ⟨x.gb, 0, none⟩) 1 1]
  key : Own w lo 3 1 intV (.slice x.kA x.key.length x.kc) x.key
  rs : Row w x.sb 2 [.int .i64 x.s]
  rl : Row w x.lb 2 [.int .i64 x.l]
  rg : Row w x.gb 2 [.int .i64 x.g]
  lp : lo ≤ x.sp
  ls : lo ≤ x.sb
  ll : lo ≤ x.lb
  lg : lo ≤ x.gb
  sl : x.sb ≠ x.lb
  sg : x.sb ≠ x.gb
  lg_ : x.lb ≠ x.gb
theorem GpAt.keep {w w' : World} {lo : Nat} {x : Gp} (h : GpAt w lo x) (hk : Keep w w') : GpAt w' lo x :=
  ⟨h.row.keep hk, h.key.keep hk, h.rs.keep hk, h.rl.keep hk, h.rg.keep hk, h.lp, h.ls, h.ll, h.lg, h.sl, h.sg, h.lg_⟩
theorem GpAt.turn {w w' : World} {lo : Nat} {x : Gp} {S : List Nat} (h : GpAt w lo x) (hk : Turn w w' S) (hs : ∀ i ∈ S, i < lo) : GpAt w' lo x :=
  have hn : ∀ g, lo ≤ g → g ∉ S := fun g hg hm => by have := hs g hm; omega
  ⟨hk.row h.row (hn _ h.lp), h.key.turn hk (fun i hi e => by have := (h.key.lt i e).1; have := hs i hi; omega), hk.row h.rs (hn _ h.ls), hk.row h.rl (hn _ h.ll), hk.row h.rg (hn _ h.lg), h.lp, h.ls, h.ll, h.lg, h.sl, h.sg, h.lg_⟩
theorem GpAt.lower {w : World} {lo lo' : Nat} {x : Gp} (h : GpAt w lo x) (hl : lo' ≤ lo) : GpAt w lo' x :=
  ⟨h.row, h.key.base_mono hl, h.rs, h.rl, h.rg, Nat.le_trans hl h.lp, Nat.le_trans hl h.ls, Nat.le_trans hl h.ll, Nat.le_trans hl h.lg, h.sl, h.sg, h.lg_⟩
theorem turn_setBlock (w : World) (m : Nat) (o : Obj) : Turn w (ChangeMaps.setBlock w m o) [m] :=
  ⟨rfl, rfl, rfl, by simp [ChangeMaps.setBlock], fun i _ hi => by
    simp only [ChangeMaps.setBlock]
    rw [Array.getElem?_setIfInBounds_ne (fun e => hi (by simp [e]))]⟩
/-- a key, as the program has it -/
def keyV (x : Int) : Value := .agg #[.int .i64 x, .int .i64 0, .int .i64 0, .int .i64 0, .int .i64 0, .int .i64 0, .int .i64 0, .int .i64 0, .int .i64 0, .int .i64 0, .int .i64 0, .int .i64 0, .int .i64 0, .int .i64 0, .int .i64 0, .int .i64 0]
def keyC (x : Int) : List Value := [.int .i64 x, .int .i64 0, .int .i64 0, .int .i64 0, .int .i64 0, .int .i64 0, .int .i64 0, .int .i64 0, .int .i64 0, .int .i64 0, .int .i64 0, .int .i64 0, .int .i64 0, .int .i64 0, .int .i64 0, .int .i64 0]
def IsKey (ids : List Int) (x : Int) : Prop := (ids = [] ∧ x = 0) ∨ ids = [x]
def TabC (by_ m : Nat) : List Value := [.int .i64 (by_ : Int), .int .i64 1, .map (some m)]
def PR (lo : Nat) (x : Int) : Zone.Pred := fun v W => ∃ g, v = .slice (some ⟨g, 0, none⟩) 1 1 ∧ lo ≤ g ∧ Row W g 2 [.int .i64 x]
theorem PR.mono {lo : Nat} {x : Int} : Zone.Mono (PR lo x) := fun _ _ _ hk ⟨g, h1, h2, h3⟩ => ⟨g, h1, h2, h3.keep hk⟩
def PK (lo : Nat) (ids : List Int) (n : Nat) : Zone.Pred := fun v W => ∃ A c, v = .slice A n c ∧ Own W lo 3 1 intV (.slice A n c) ids
theorem PK.mono {lo : Nat} {ids : List Int} {n : Nat} : Zone.Mono (PK lo ids n) := fun _ _ _ hk ⟨A, c, h1, h2⟩ => ⟨A, c, h1, h2.keep hk⟩
def PA (lo : Nat) (ids : List Int) (n : Nat) : Zone.Pred := fun v W => ∃ v1 v2 v3 v4, v = .agg #[v1, .int .i64 0, v2, v3, v4] ∧ PK lo ids n v1 W ∧ PR lo 0 v2 W ∧ PR lo 9223372036854775807 v3 W ∧ PR lo (-9223372036854775808) v4 W
theorem PA.mono {lo : Nat} {ids : List Int} {n : Nat} : Zone.Mono (PA lo ids n) := fun _ _ _ hk ⟨v1, v2, v3, v4, h, h1, h2, h3, h4⟩ => ⟨v1, v2, v3, v4, h, PK.mono _ _ _ hk h1, PR.mono _ _ _ hk h2, PR.mono _ _ _ hk h3, PR.mono _ _ _ hk h4⟩
def PG (lo : Nat) (ids : List Int) : Zone.Pred := fun v W => ∃ g : Gp, v = .pointer (some ⟨g.sp, 0, none⟩) ∧ g.key = ids ∧ g.cnt = 0 ∧ g.s = 0 ∧ g.l = 9223372036854775807 ∧ g.g = -9223372036854775808 ∧ GpAt W lo g
theorem PG.mono {lo : Nat} {ids : List Int} : Zone.Mono (PG lo ids) := fun _ _ _ hk ⟨g, h1, h2, h3, h4, h5, h6, h7⟩ => ⟨g, h1, h2, h3, h4, h5, h6, h7.keep hk⟩
theorem pr_new {w1 : World} {p : GB} {lo : Nat} {x : Int} (h : w1.heap.size = lo) : PR lo x (.slice (some ⟨w1.heap.size + p.os.size, 0, none⟩) 1 1) ((w1.gro p).alloc (.cells #[.int .i64 x] 2)) ∧ Keep (w1.gro p) ((w1.gro p).alloc (.cells #[.int .i64 x] 2)) :=
  ⟨⟨_, rfl, by omega, by have := row_alloc (w1.gro p) 2 [.int .i64 x]; rwa [size_gro] at this⟩, (by repeat (first | exact Keep.refl _ | apply Keep.alloc | apply Keep.gro | apply Keep.drew | apply Keep.drewN))⟩
theorem pg_new {W : World} {lo n : Nat} {ids : List Int} {v1 v2 v3 v4 : Value} (hn : ids.length = n) (hl : lo ≤ W.heap.size) (h1 : PK lo ids n v1 W) (h2 : PR lo 0 v2 W) (h3 : PR lo 9223372036854775807 v3 W) (h4 : PR lo (-9223372036854775808) v4 W) :
    PG lo ids (.pointer (some ⟨W.heap.size, 0, none⟩)) (W.alloc (.cells #[v1, .int .i64 0, v2, v3, v4] 25)) := by
  obtain ⟨A, c, rfl, k1⟩ := h1
  obtain ⟨g2, rfl, l2, k2⟩ := h2
  obtain ⟨g3, rfl, l3, k3⟩ := h3
  obtain ⟨g4, rfl, l4, k4⟩ := h4
  subst hn
  have ne : ∀ {a b : Nat} {x y : Int}, Row W a 2 [.int .i64 x] → Row W b 2 [.int .i64 y] → x ≠ y → a ≠ b := fun ha hb hxy e => by
    subst e
    unfold Row at ha hb
    rw [ha] at hb
    simp at hb
    exact hxy hb
  have hk : Keep W (W.alloc (.cells #[.slice A ids.length c, .int .i64 0, .slice (some ⟨g2, 0, none⟩) 1 1, .slice (some ⟨g3, 0, none⟩) 1 1, .slice (some ⟨g4, 0, none⟩) 1 1] 25)) := (by repeat (first | exact Keep.refl _ | apply Keep.alloc | apply Keep.gro | apply Keep.drew | apply Keep.drewN))
  exact ⟨⟨W.heap.size, A, c, ids, 0, g2, g3, g4, 0, 9223372036854775807, -9223372036854775808⟩, rfl, rfl, rfl, rfl, rfl, rfl, row_alloc W 25 [_, _, _, _, _], k1.keep hk, k2.keep hk, k3.keep hk, k4.keep hk, hl, l2, l3, l4, ne k2 k3 (by decide), ne k2 k4 (by decide), ne k3 k4 (by decide)⟩
set_option maxHeartbeats 1000000 in
theorem group_new (w : World) (b m by_ clock : Nat) (es : Array MapEntry) (A : Option Addr) (c : Nat) (ids : List Int) (x0 : Int) (hT : Row w b 32 (TabC by_ m)) (hM : w.heap[m]? = some (.map es clock)) (hi : Sl w 1 intV A c ids) (hx : IsKey ids x0)
    (hlook : ∀ W : World, W.heap[m]? = some (.map es clock) → (Instr.lookup 30 (.map (some m)) (keyV x0) true).run Try.prog W = .ok (.tuple #[.pointer none, .bool false]) W)
    (hupd : ∀ (W : World) (v : Value), W.heap[m]? = some (.map es clock) → (Instr.mapUpdate 30 (.map (some m)) (keyV x0) v).run Try.prog W = .ok () (ChangeMaps.setBlock W m (.map (es.push ⟨keyV x0, v, clock⟩) (clock + 1)))) :
    Calls Try.prog 14 #[.pointer (some ⟨b, 0, none⟩), .slice A ids.length c] w fun e w' => ∃ g : Gp, e = .returned (.pointer (some ⟨g.sp, 0, none⟩)) ∧ g.key = ids ∧ g.cnt = 0 ∧ g.s = 0 ∧ g.l = 9223372036854775807 ∧ g.g = -9223372036854775808 ∧ GpAt w' w.heap.size g ∧
      w'.heap[m]? = some (.map (es.push ⟨keyV x0, .pointer (some ⟨g.sp, 0, none⟩), clock⟩) (clock + 1)) ∧ Turn w w' [m] := by
  have HT := Lib.hid hT
  have HM := Lib.hid hM
  have HI := Lib.hid hi
  have HX := Lib.hid hx
  have HLO := Lib.hid hlook
  have HUP := Lib.hid hupd
  have hmlt : m < w.heap.size := (Array.getElem?_eq_some_iff.1 hM).1
  have hblt := hT.lt
  have hlen : ids.length ≤ 1 := by rcases hx with ⟨rfl, _⟩ | rfl <;> simp
  have HR := Lib.hid (row_alloc w 48 (keyC 0))
  have HPOS := Lib.hid (show 0 < (ids.map fun x => Value.int .i64 x).length → ∃ ad, A = some ad ∧ ∀ j v, (ids.map fun x => Value.int .i64 x)[j]? = some v → (w.alloc (.cells (keyC 0).toArray 48)).cell? (ad.add j) = some v from fun hp => by
    rcases hx with ⟨rfl, _⟩ | rfl
    · simp at hp
    · obtain ⟨g, off, hA, hg, h0⟩ := sl_int (hi.keep ((Keep.refl w).alloc (.cells (keyC 0).toArray 48))) 0 (by simp)
      refine ⟨_, hA, fun j v hj => ?_⟩
      match j, hj with
      | 0, hj =>
        simp only [List.map_cons, List.getElem?_cons_zero, Option.some.injEq] at hj
        subst hj
        simpa [Addr.add] using h0)
  have HSP := Lib.hid (show splice (keyC 0) 0 (ids.map fun x => Value.int .i64 x) = keyC x0 by
    rcases hx with ⟨rfl, rfl⟩ | rfl
    · rfl
    · rfl)
  clear hT hM hi hx hlook hupd
  obtain ⟨n, hn⟩ : ∃ n, ids.length = n := ⟨_, rfl⟩
  have HN := Lib.hid hn
  rw [hn] at hlen ⊢
  clear hn
  go_enter Try.func14, Try.ntmps14
  go_wp2_with (with_reducible refine Zone.hold_at 10 ?_)
  refine Zone.unhold ?_
  refine wpList_copy_splice rfl (.tmp 8) (.tmp 9) 22 22 rfl 3 Try.underlying22 (by kernel_rfl) (some ⟨w.heap.size, 0, none⟩) A 16 16 n c rfl rfl w.heap.size 0 (keyC 0) 48 HR.out (ids.map fun x => Value.int .i64 x) (by rw [List.length_map, HN.out]; exact (Nat.min_eq_left (by omega)).symm) (fun hp => ⟨rfl, HPOS.out hp⟩) (by rw [List.length_map, HN.out]; show 0 + n ≤ 16; omega) (fun v hv => by obtain ⟨x, _, rfl⟩ := List.mem_map.1 hv; rfl) w.heap.size w ((Below.refl _ _).alloc (Nat.le_refl _) _) (Nat.le_refl _) ?_
  intro w1 hr1 hb1
  have HK1 := Lib.hid (show Row w1 w.heap.size 48 (keyC x0) from HSP.out ▸ hr1)
  clear hr1 HPOS HSP HR
  have HB1 := Lib.hid (show Keep w w1 from hb1)
  have hz1 := HK1.out.lt
  have HTm := Lib.hid (HT.out.keep HB1.out)
  have hmb : m < w1.heap.size := by have := HB1.out.size; omega
  have hbb : b < w1.heap.size := by have := HB1.out.size; omega
  have HM1 := Lib.hid ((HB1.out.block m hmlt).trans HM.out)
  have HZ1 := Lib.hid HB1.out.size
  rw [List.length_map, HN.out]
  generalize w.heap.size = kb at hz1 HK1 HZ1 ⊢
  have hlk : ∀ p, (Instr.lookup 30 (.map (some m)) (keyV x0) true).run Try.prog (w1.gro p) = .ok (.tuple #[.pointer none, .bool false]) (w1.gro p) := fun p => HLO.out _ ((heap_gro w1 p m hmb).trans HM1.out)
  unfold keyV at hlk
  have t0 := HTm.out.cell 0 _ rfl
  have t1 := HTm.out.cell 1 _ rfl
  have t2 := HTm.out.cell 2 _ rfl
  have k0 := HK1.out.cell 0 _ rfl
  have k1 := HK1.out.cell 1 _ rfl
  have k2 := HK1.out.cell 2 _ rfl
  have k3 := HK1.out.cell 3 _ rfl
  have k4 := HK1.out.cell 4 _ rfl
  have k5 := HK1.out.cell 5 _ rfl
  have k6 := HK1.out.cell 6 _ rfl
  have k7 := HK1.out.cell 7 _ rfl
  have k8 := HK1.out.cell 8 _ rfl
  have k9 := HK1.out.cell 9 _ rfl
  have k10 := HK1.out.cell 10 _ rfl
  have k11 := HK1.out.cell 11 _ rfl
  have k12 := HK1.out.cell 12 _ rfl
  have k13 := HK1.out.cell 13 _ rfl
  have k14 := HK1.out.cell 14 _ rfl
  have k15 := HK1.out.cell 15 _ rfl
  go_wp2
  first | refine Zone.wp_region_all_gro (by kernel_rfl) (by kernel_rfl) ?_ | refine Zone.wp_region_all (by kernel_rfl) (by kernel_rfl) ?_
  repeat
    refine Zone.wpZ_step (fun K hK => ?_)
    go_simp
    first
    | (refine hK _ _ ?_; clear hK K)
    | (apply Exists.intro
       refine ⟨fun p => ?_, hK _ _ ?_⟩
       (fail)
       clear hK K)
  refine Zone.wpZ_nil ?_
  intro p
  simp only [Zone.fill]
  clear hlk k0 k1 k2 k3 k4 k5 k6 k7 k8 k9 k10 k11 k12 k13 k14 k15
  go_wp2
  have hm := make64
  have HCL := Lib.hid (fun W (hW : Keep w1 W) => (cloneI_any A c ids W (HI.out.keep (HB1.out.trans hW)) (by rw [HN.out]; omega)))
  have HREP := Lib.hid rep_any
  rw [HN.out] at HCL
  obtain ⟨lo, hlo⟩ : ∃ lo, w1.heap.size = lo := ⟨_, rfl⟩
  have HLOW := Lib.hid hlo
  clear hlo
  first | refine Zone.wp_region_all_gro (by kernel_rfl) (by kernel_rfl) ?_ | refine Zone.wp_region_all (by kernel_rfl) (by kernel_rfl) ?_
  refine Zone.wpZ_step (fun K hK => ?_)
  go_simp
  (refine hK _ _ ?_; clear hK K)
  refine Zone.wpZ_free 23 (PK lo ids n) rfl PK.mono ?_ ?_
  · intro p2
    rw [Zone.lookFs_nil (by rfl)]
    simp only [Zone.fill]
    go_simp
    go_at_call 21
    refine (HCL.out _ (by repeat (first | exact Keep.refl _ | apply Keep.alloc | apply Keep.gro | apply Keep.drew | apply Keep.drewN))).mono ?_
    rintro e w5 ⟨A5, c5, rfl, hr5, hk5⟩
    exact ⟨_, rfl, ⟨A5, c5, rfl, hr5.base_mono (by rw [← HLOW.out]; simp [size_gro])⟩, hk5⟩
  iterate 4
    refine Zone.wpZ_step (fun K hK => ?_)
    unfold Zone.zone Zone.stepZ
    rw [Zone.lookFs_nil (by rfl)]
    go_simp
    (refine hK _ _ ?_; clear hK K)
  refine Zone.wpZ_free 28 (PR lo 0) rfl PR.mono ?_ ?_
  · intro p2
    rw [Zone.lookFs_nil (by rfl)]
    simp only [Zone.fill]
    go_simp
    exact pr_new HLOW.out
  refine Zone.wpZ_free 29 (PR lo 9223372036854775807) rfl PR.mono ?_ ?_
  · intro p2
    rw [Zone.lookFs_nil (by rfl)]
    simp only [Zone.fill]
    go_simp
    exact pr_new HLOW.out
  iterate 4
    refine Zone.wpZ_step (fun K hK => ?_)
    unfold Zone.zone Zone.stepZ
    rw [Zone.lookFs_nil (by rfl)]
    go_simp
    (refine hK _ _ ?_; clear hK K)
  refine Zone.wpZ_free 34 (PR lo 9223372036854775807) rfl PR.mono ?_ ?_
  · intro p2
    rw [show Zone.lookFs _ _ _ = [(29, PR lo 9223372036854775807)] from rfl]
    rintro v5 ⟨g5, rfl, _, hr5⟩
    go_simp
    go_at_call 22
    refine (HREP.out _ g5 _ (hr5.cell 0 _ rfl)).mono ?_
    rintro e w5 ⟨g6, rfl, hl6, hr6, hk6⟩
    exact ⟨_, rfl, ⟨g6, rfl, Nat.le_trans (by rw [← HLOW.out]; simp [size_gro]) hl6, hr6⟩, hk6⟩
  refine Zone.wpZ_free 35 (PR lo (-9223372036854775808)) rfl PR.mono ?_ ?_
  · intro p2
    rw [Zone.lookFs_nil (by rfl)]
    simp only [Zone.fill]
    go_simp
    exact pr_new HLOW.out
  iterate 4
    refine Zone.wpZ_step (fun K hK => ?_)
    unfold Zone.zone Zone.stepZ
    rw [Zone.lookFs_nil (by rfl)]
    go_simp
    (refine hK _ _ ?_; clear hK K)
  refine Zone.wpZ_free 40 (PR lo (-9223372036854775808)) rfl PR.mono ?_ ?_
  · intro p2
    rw [show Zone.lookFs _ _ _ = [(35, PR lo (-9223372036854775808))] from rfl]
    rintro v5 ⟨g5, rfl, _, hr5⟩
    go_simp
    go_at_call 22
    refine (HREP.out _ g5 _ (hr5.cell 0 _ rfl)).mono ?_
    rintro e w5 ⟨g6, rfl, hl6, hr6, hk6⟩
    exact ⟨_, rfl, ⟨g6, rfl, Nat.le_trans (by rw [← HLOW.out]; simp [size_gro]) hl6, hr6⟩, hk6⟩
  refine Zone.wpZ_free 41 (PA lo ids n) rfl PA.mono ?_ ?_
  · intro p2
    rw [show Zone.lookFs _ _ _ = [(40, PR lo (-9223372036854775808)), (34, PR lo 9223372036854775807), (28, PR lo 0), (23, PK lo ids n)] from rfl]
    rintro v4 h4 v3 h3 v2 h2 v1 h1
    have hfin : ∀ _ : World, PA lo ids n (.agg #[v1, .int .i64 0, v2, v3, v4]) (w1.gro p2) := fun _ => ⟨v1, v2, v3, v4, rfl, h1, h2, h3, h4⟩
    obtain ⟨A5, c5, rfl, _⟩ := h1
    obtain ⟨g5, rfl, _⟩ := h2
    obtain ⟨g6, rfl, _⟩ := h3
    obtain ⟨g7, rfl, _⟩ := h4
    have HFI := Lib.hid hfin
    clear hfin
    go_simp
    first | exact HFI.out w | exact ⟨HFI.out w, Keep.refl _⟩
  refine Zone.wpZ_free 42 (PG lo ids) rfl PG.mono ?_ ?_
  · intro p2
    rw [show Zone.lookFs _ _ _ = [(41, PA lo ids n)] from rfl]
    rintro v ⟨v1, v2, v3, v4, rfl, h1, h2, h3, h4⟩
    go_simp
    have h9 := pg_new HN.out (by rw [← HLOW.out]; simp [size_gro]) h1 h2 h3 h4
    rw [size_gro] at h9
    exact ⟨h9, (by repeat (first | exact Keep.refl _ | apply Keep.alloc | apply Keep.gro | apply Keep.drew | apply Keep.drewN))⟩
  refine Zone.wpZ_free 6 (PG lo ids) rfl PG.mono ?_ ?_
  · intro p2
    rw [show Zone.lookFs _ _ _ = [(42, PG lo ids)] from rfl]
    rintro v hv
    go_simp
    (try exact ⟨hv, Keep.refl _⟩)
  refine Zone.wpZ_nil ?_
  intro p2
  simp only [Zone.fill]
  rintro v6 hv6 v42 _ v41 _ v40 _ v35 _ v34 _ v29 _ v28 _ v23 _
  go_simp
  go_wp2
  obtain ⟨g, rfl, hg1, hg2, hg3, hg4, hg5, hg6⟩ := hv6
  have HG := Lib.hid (show g.key = ids ∧ g.cnt = 0 ∧ g.s = 0 ∧ g.l = 9223372036854775807 ∧ g.g = -9223372036854775808 from ⟨hg1, hg2, hg3, hg4, hg5⟩)
  have HG6 := Lib.hid hg6
  have HM2 := Lib.hid ((heap_gro w1 p2 m hmb).trans HM1.out)
  have HT2 := Lib.hid (HTm.out.keep (below_gro w1 p2))
  have HK2 := Lib.hid (HK1.out.keep (below_gro w1 p2))
  have HKK := Lib.hid (HB1.out.trans (below_gro w1 p2))
  have hz2 : lo ≤ (w1.gro p2).heap.size := by rw [← HLOW.out]; simp [size_gro]
  have hml : m < lo := by rw [← HLOW.out]; exact hmb
  have hbl : b < lo := by rw [← HLOW.out]; exact hbb
  have hkl : kb < lo := by rw [← HLOW.out]; exact hz1
  have hlw : w.heap.size ≤ lo := by rw [← HLOW.out]; exact HB1.out.size
  clear hg1 hg2 hg3 hg4 hg5 hg6 t0 t1 t2 hm HREP HCL HLOW HB1 HM1 HTm HK1 hb1 HT HM HI HZ1 hmb hbb hz1 hmlt hblt
  generalize w1.gro p2 = w2 at *
  have t2 := HT2.out.cell 2 _ rfl
  have k0 := HK2.out.cell 0 _ rfl
  have k1 := HK2.out.cell 1 _ rfl
  have k2 := HK2.out.cell 2 _ rfl
  have k3 := HK2.out.cell 3 _ rfl
  have k4 := HK2.out.cell 4 _ rfl
  have k5 := HK2.out.cell 5 _ rfl
  have k6 := HK2.out.cell 6 _ rfl
  have k7 := HK2.out.cell 7 _ rfl
  have k8 := HK2.out.cell 8 _ rfl
  have k9 := HK2.out.cell 9 _ rfl
  have k10 := HK2.out.cell 10 _ rfl
  have k11 := HK2.out.cell 11 _ rfl
  have k12 := HK2.out.cell 12 _ rfl
  have k13 := HK2.out.cell 13 _ rfl
  have k14 := HK2.out.cell 14 _ rfl
  have k15 := HK2.out.cell 15 _ rfl
  have hmb : m < w2.heap.size := by omega
  have hbb : b < w2.heap.size := by omega
  have hz1 : kb < w2.heap.size := by omega
  have hup : ∀ p v, (Instr.mapUpdate 30 (.map (some m)) (keyV x0) v).run Try.prog (w2.gro p) = .ok () (ChangeMaps.setBlock (w2.gro p) m (.map (es.push ⟨keyV x0, v, clock⟩) (clock + 1))) := fun p v => HUP.out _ v ((heap_gro w2 p m hmb).trans HM2.out)
  unfold keyV at hup
  first | refine Zone.wp_region_gro 6 (by kernel_rfl) (by kernel_rfl) ?_ | refine Zone.wp_region 6 (by kernel_rfl) (by kernel_rfl) ?_
  simp only [List.take_succ_cons, List.take_zero, List.drop_succ_cons, List.drop_zero]
  repeat
    refine Zone.wpZ_step (fun K hK => ?_)
    go_simp
    first
    | (refine hK _ _ ?_; clear hK K)
    | (apply Exists.intro
       refine ⟨fun p => ?_, hK _ _ ?_⟩
       (fail)
       clear hK K)
  refine Zone.wpZ_nil ?_
  intro p3
  simp only [Zone.fill]
  have HUP2 := Lib.hid hup
  clear k0 k1 k2 k3 k4 k5 k6 k7 k8 k9 k10 k11 k12 k13 k14 k15
  go_wp2
  go_ret
  obtain ⟨g1, g2, g3, g4, g5⟩ := HG.out
  have hts := (Turn.keep (HKK.out.gro p3) [m]).trans (turn_setBlock (w2.gro p3) m (.map (es.push ⟨keyV x0, .pointer (some ⟨g.sp, 0, none⟩), clock⟩) (clock + 1)))
  exact ⟨g, rfl, g1, g2, g3, g4, g5, (((HG6.out.keep (below_gro w2 p3)).turn (turn_setBlock (w2.gro p3) m _) (by simpa using hml)).lower hlw), ChangeMaps.heap_setBlock_same ((heap_gro w2 p3 m hmb).trans HM2.out) _, hts⟩
end Go.Proofs.Ytpefhleglhbfaaa
