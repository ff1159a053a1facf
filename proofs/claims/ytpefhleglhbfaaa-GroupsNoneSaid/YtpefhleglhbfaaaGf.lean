
/- groups: what is found in the map; New, Add. -/
import Derived.WalkKit
import Derived.Lib.Hide
import Derived.WalkSpells
import Derived.WalkLawsBesides
import Derived.BigQuiet
import Derived.Shelf.Abstract
import Derived.Lib.SliceRun
import Derived.Laws.CopyOwn
import Derived.IntWalk
import Derived.Deep.CutRange
import Derived.Deep.DeepCutAuto
import Derived.Test.YtpefhleglhbfaaaGe
namespace Go.Proofs.Ytpefhleglhbfaaa
open Go.RowKit Go.Zone Go.Shelf
attribute [local go_sem] Zone.zone Zone.stepZ Zone.fill Zone.lookFs Zone.goes Zone.goesUpon Zone.dropFs Zone.cell_gro Zone.frozen_gro Zone.size_gro Zone.lt_add Zone.drew_gro Zone.tape_gro Zone.keep_refl
attribute [local go_sem] Zone.lt_add2 Zone.lt_add3 Zone.lt_add4 Zone.lt_add5 Zone.lt_add6 Zone.lt_add7 Zone.lt_add8 Zone.lt_add9 Zone.lt_add10 Zone.lt_add11 Zone.lt_add12
abbrev tM : TypeId := 30
def p1 (sp : Nat) : Value := .pointer (some ⟨sp, 0, none⟩)
theorem look_e (W : World) (m : Nat) (h : W.heap[m]? = some (.map #[] 0)) : (Instr.lookup tM (.map (some m)) (keyV 2) true).run Try.prog W = .ok (.tuple #[.pointer none, .bool false]) W := by
  unfold Instr.lookup
  simp only [Sem.run_bind, run_underlying Try.underlying30, Result.andThen_ok, MapKept.run_getObj_map h]
  kernel_rfl
theorem look_1 (W : World) (m s2 : Nat) (h : W.heap[m]? = some (.map #[⟨keyV 2, p1 s2, 0⟩] 1)) : (Instr.lookup tM (.map (some m)) (keyV 1) true).run Try.prog W = .ok (.tuple #[.pointer none, .bool false]) W := by
  unfold Instr.lookup
  simp only [Sem.run_bind, run_underlying Try.underlying30, Result.andThen_ok, MapKept.run_getObj_map h]
  kernel_rfl
theorem look_2 (W : World) (m s2 s1 : Nat) (h : W.heap[m]? = some (.map #[⟨keyV 2, p1 s2, 0⟩, ⟨keyV 1, p1 s1, 1⟩] 2)) : (Instr.lookup tM (.map (some m)) (keyV 2) true).run Try.prog W = .ok (.tuple #[p1 s2, .bool true]) W := by
  unfold Instr.lookup
  simp only [Sem.run_bind, run_underlying Try.underlying30, Result.andThen_ok, MapKept.run_getObj_map h]
  kernel_rfl
theorem look_0 (W : World) (m : Nat) (h : W.heap[m]? = some (.map #[] 0)) : (Instr.lookup tM (.map (some m)) (keyV 0) true).run Try.prog W = .ok (.tuple #[.pointer none, .bool false]) W := by
  unfold Instr.lookup
  simp only [Sem.run_bind, run_underlying Try.underlying30, Result.andThen_ok, MapKept.run_getObj_map h]
  kernel_rfl
theorem ck2 (W : World) : (Instr.checkKey false 10000 48 (keyV 2)).run Try.prog W = .ok () W := by kernel_rfl
theorem ck1 (W : World) : (Instr.checkKey false 10000 48 (keyV 1)).run Try.prog W = .ok () W := by kernel_rfl
theorem ck0 (W : World) : (Instr.checkKey false 10000 48 (keyV 0)).run Try.prog W = .ok () W := by kernel_rfl
theorem fk2 (W : World) : (Instr.findKey 48 (keyV 2) []).run Try.prog W = .ok none W := by kernel_rfl
theorem fk0 (W : World) : (Instr.findKey 48 (keyV 0) []).run Try.prog W = .ok none W := by kernel_rfl
theorem fk1 (W : World) (s2 : Nat) : (Instr.findKey 48 (keyV 1) [⟨keyV 2, p1 s2, 0⟩]).run Try.prog W = .ok none W := by kernel_rfl
theorem set_map {P : Program} {W : World} {m : Nat} {es : Array MapEntry} {c : Nat} (o : Obj) (h : W.heap[m]? = some (.map es c)) : (setObj m o).run P W = .ok () (ChangeMaps.setBlock W m o) := by
  simp [setObj, Sem.run, h, ChangeMaps.setBlock]
theorem upd_e (W : World) (m : Nat) (v : Value) (h : W.heap[m]? = some (.map #[] 0)) : (Instr.mapUpdate tM (.map (some m)) (keyV 2) v).run Try.prog W = .ok () (ChangeMaps.setBlock W m (.map (#[].push ⟨keyV 2, v, 0⟩) (0 + 1))) := by
  unfold Instr.mapUpdate
  simp only [Sem.run_bind, run_underlying Try.underlying30, Result.andThen_ok, MapKept.run_getObj_map h, ck2, fk2, set_map _ h]
theorem upd_0 (W : World) (m : Nat) (v : Value) (h : W.heap[m]? = some (.map #[] 0)) : (Instr.mapUpdate tM (.map (some m)) (keyV 0) v).run Try.prog W = .ok () (ChangeMaps.setBlock W m (.map (#[].push ⟨keyV 0, v, 0⟩) (0 + 1))) := by
  unfold Instr.mapUpdate
  simp only [Sem.run_bind, run_underlying Try.underlying30, Result.andThen_ok, MapKept.run_getObj_map h, ck0, fk0, set_map _ h]
theorem upd_1 (W : World) (m s2 : Nat) (v : Value) (h : W.heap[m]? = some (.map #[⟨keyV 2, p1 s2, 0⟩] 1)) : (Instr.mapUpdate tM (.map (some m)) (keyV 1) v).run Try.prog W = .ok () (ChangeMaps.setBlock W m (.map (#[⟨keyV 2, p1 s2, 0⟩].push ⟨keyV 1, v, 1⟩) (1 + 1))) := by
  unfold Instr.mapUpdate
  simp only [Sem.run_bind, run_underlying Try.underlying30, Result.andThen_ok, MapKept.run_getObj_map h, ck1, fk1, set_map _ h]
theorem new_one (w : World) : Calls Try.prog 11 #[.int .i64 1, .int .i64 1] w fun e w' => ∃ b m, e = .returned (.tuple #[.pointer (some ⟨b, 0, none⟩), .int .i64 0]) ∧ Row w' b 32 (TabC 1 m) ∧ w'.heap[m]? = some (.map #[] 0) ∧ w.heap.size ≤ m ∧ w.heap.size ≤ b ∧ Keep w w' := by
  have hmm := @run_makeMap Try.prog
  have HR := Lib.hid (row_alloc (w.alloc (.map #[] 0)) 32 (TabC 1 w.heap.size))
  have HM := Lib.hid (show ((w.alloc (.map #[] 0)).alloc (.cells (TabC 1 w.heap.size).toArray 32)).heap[w.heap.size]? = some (.map #[] 0) from (((Keep.refl (w.alloc (.map #[] 0))).alloc (.cells (TabC 1 w.heap.size).toArray 32)).block w.heap.size (by simp)).trans (by unfold World.alloc; simp))
  go_enter Try.func11, Try.ntmps11
  go_wp2
  have HR' := HR.out
  rw [World.size_alloc] at HR'
  exact bodyPost_ret (v := .tuple #[.pointer (some ⟨w.heap.size + 1, 0, none⟩), .int .i64 0]) (by simp [results, Try.results11, go_sem]) rfl ⟨w.heap.size + 1, w.heap.size, rfl, HR', HM.out, Nat.le_refl _, Nat.le_succ _, (by repeat (first | exact Keep.refl _ | apply Keep.alloc | apply Keep.gro | apply Keep.drew | apply Keep.drewN))⟩
theorem new_zero (w : World) : Calls Try.prog 11 #[.int .i64 0, .int .i64 1] w fun e w' => ∃ b m g lo, e = .returned (.tuple #[.pointer (some ⟨b, 0, none⟩), .int .i64 0]) ∧ TabAt w' lo b m 0 [(0, g)] ∧ g.dt = ⟨[], 0, 0, 9223372036854775807, -9223372036854775808⟩ ∧ Keep w w' := by
  have hmm := @run_makeMap Try.prog
  have HR := Lib.hid (row_alloc (w.alloc (.map #[] 0)) 32 (TabC 0 w.heap.size))
  have HM := Lib.hid (show ((w.alloc (.map #[] 0)).alloc (.cells (TabC 0 w.heap.size).toArray 32)).heap[w.heap.size]? = some (.map #[] 0) from (((Keep.refl (w.alloc (.map #[] 0))).alloc (.cells (TabC 0 w.heap.size).toArray 32)).block w.heap.size (by simp)).trans (by unfold World.alloc; simp))
  go_enter Try.func11, Try.ntmps11
  go_wp2_with (go_at_call 14; refine Zone.hold ?_)
  refine Zone.unhold ?_
  have HR' := HR.out
  rw [World.size_alloc] at HR'
  refine (group_new _ (w.heap.size + 1) w.heap.size 0 0 #[] none 0 [] 0 HR' HM.out (Sl.nil_ _ (Nat.zero_le _)) (.inl ⟨rfl, rfl⟩) (fun W h => look_0 W _ h) (fun W v h => upd_0 W _ v h)).mono ?_
  rintro e w2 ⟨g, rfl, h1, h2, h3, h4, h5, h6, h7, h8⟩
  have HFIN := Lib.hid (show TabAt w2 (w.heap.size + 2) (w.heap.size + 1) w.heap.size 0 [(0, g)] from ⟨h8.row HR' (by simp), h7, fun x hx => by
    simp only [List.mem_singleton] at hx
    subst hx
    exact ⟨h6.lower (by simp), by rw [h1]; rfl⟩, by omega⟩)
  have HD := Lib.hid (show g.dt = ⟨[], 0, 0, 9223372036854775807, -9223372036854775808⟩ by unfold Gp.dt; rw [h1, h2, h3, h4, h5])
  have HK := Lib.hid (show Keep w w2 from Turn.after (show Keep w _ from (by repeat (first | exact Keep.refl _ | apply Keep.alloc | apply Keep.gro | apply Keep.drew | apply Keep.drewN))) h8 (by simp))
  clear h1 h2 h3 h4 h5 h6 h7 h8 HR'
  go_wp2
  exact bodyPost_ret (v := .tuple #[.pointer (some ⟨w.heap.size + 1, 0, none⟩), .int .i64 0]) (by simp [results, Try.results11, go_sem]) rfl ⟨w.heap.size + 1, w.heap.size, g, w.heap.size + 2, rfl, HFIN.out, HD.out, HK.out⟩
theorem add_put (w : World) (b : Nat) (v1 l : Value) (R : World → Prop) (h : Calls Try.prog 7 #[.pointer (some ⟨b, 0, none⟩), .agg #[v1, .int .i64 1, l, l, l]] w fun e w' => e = .returned (.int .i64 0) ∧ R w') (hv : ∃ A n c, v1 = .slice A n c) (hl : ∃ A n c, l = .slice A n c) :
    Calls Try.prog 6 #[.pointer (some ⟨b, 0, none⟩), v1, l] w fun e w' => e = .returned (.int .i64 0) ∧ R w' := by
  obtain ⟨A, n, c, rfl⟩ := hv
  obtain ⟨B, k, d, rfl⟩ := hl
  have H := Lib.hid h
  clear h
  go_enter Try.func6, Try.ntmps6
  go_wp2_with (go_at_call 7; refine Zone.hold ?_)
  refine Zone.unhold ?_
  refine H.out.mono ?_
  rintro e w' ⟨rfl, hr⟩
  have HR := Lib.hid hr
  clear hr
  go_wp2
  go_ret
  exact ⟨rfl, HR.out⟩
/-- One group. -/
structure T1 (w : World) (b m lo : Nat) (g2 : Gp) : Prop where
  row : Row w b 32 (TabC 1 m)
  map : w.heap[m]? = some (.map #[⟨keyV 2, p1 g2.sp, 0⟩] 1)
  at_ : GpAt w lo g2
  lt : m < lo
theorem T1.keep {w w' : World} {b m lo : Nat} {g2 : Gp} (h : T1 w b m lo g2) (hk : Keep w w') : T1 w' b m lo g2 :=
  ⟨h.row.keep hk, (hk.block m (Array.getElem?_eq_some_iff.1 h.map).1).trans h.map, h.at_.keep hk, h.lt⟩
/-- Two. -/
structure T2 (w : World) (b m lo lo1 : Nat) (g2 g1 : Gp) : Prop where
  row : Row w b 32 (TabC 1 m)
  map : w.heap[m]? = some (.map #[⟨keyV 2, p1 g2.sp, 0⟩, ⟨keyV 1, p1 g1.sp, 1⟩] 2)
  at2 : GpAt w lo g2
  at1 : GpAt w lo1 g1
  lt : m < lo
  up : g2.sp < lo1 ∧ g2.sb < lo1 ∧ g2.lb < lo1 ∧ g2.gb < lo1
theorem T2.keep {w w' : World} {b m lo lo1 : Nat} {g2 g1 : Gp} (h : T2 w b m lo lo1 g2 g1) (hk : Keep w w') : T2 w' b m lo lo1 g2 g1 :=
  ⟨h.row.keep hk, (hk.block m (Array.getElem?_eq_some_iff.1 h.map).1).trans h.map, h.at2.keep hk, h.at1.keep hk, h.lt, h.up⟩
theorem mem4 {P : Nat → Prop} {a b c d : Nat} (h1 : P a) (h2 : P b) (h3 : P c) (h4 : P d) : ∀ i ∈ [a, b, c, d], P i := by
  intro i hi
  simp only [List.mem_cons, List.not_mem_nil, or_false] at hi
  rcases hi with rfl | rfl | rfl | rfl <;> assumption
theorem add1 (w : World) (b m : Nat) (A : Option Addr) (c L : Nat) (hr : Row w b 32 (TabC 1 m)) (hm : w.heap[m]? = some (.map #[] 0)) (hs : Sl w 1 intV A c [2]) (hL : Row w L 2 [.int .i64 5]) :
    Calls Try.prog 6 #[.pointer (some ⟨b, 0, none⟩), .slice A 1 c, .slice (some ⟨L, 0, none⟩) 1 1] w fun e w' => e = .returned (.int .i64 0) ∧ ∃ g2, T1 w' b m w.heap.size g2 ∧ g2.dt = ⟨[2], 1, 5, 5, 5⟩ ∧ Turn w w' [m] := by
  have hmb : m ≠ b := fun e => by subst e; unfold Row at hr; rw [hr] at hm; cases hm
  have hmL : m ≠ L := fun e => by subst e; unfold Row at hL; rw [hL] at hm; cases hm
  have hml : m < w.heap.size := (Array.getElem?_eq_some_iff.1 hm).1
  refine add_put w b _ _ _ ?_ ⟨_, _, _, rfl⟩ ⟨_, _, _, rfl⟩
  refine (put_core w b m w.heap.size A c [2] L 5 1 0 0 9223372036854775807 (-9223372036854775808) (fun g w1 => g.key = [2] ∧ w1.heap[m]? = some (.map #[⟨keyV 2, p1 g.sp, 0⟩] 1)) hr hs (by simp) hL (by omega) (by omega) (by omega) (by omega) ⟨hmb, hmL, hml⟩ (fun W hk hlt => ?_)).mono ?_
  · refine (group_new W b m 1 0 #[] A c [2] 2 (hr.keep hk) ((hk.block m hml).trans hm) (hs.keep hk) (.inr rfl) (fun W h => look_e W _ h) (fun W v h => upd_e W _ v h)).mono ?_
    rintro e w' ⟨g, rfl, h1, h2, h3, h4, h5, h6, h7, h8⟩
    have hb := h6.ls; have hb2 := h6.ll; have hb3 := h6.lg; have hb4 := h6.lp
    have hLl := hL.lt
    exact ⟨g, rfl, ⟨h2, h3, h4, h5⟩, h6.lower hk.size, ⟨h1, h7⟩, h8, by omega, by omega, by omega, by omega⟩
  · rintro e w' ⟨g, w1, rfl, ⟨hk, hmp⟩, hg, ht, ht2, hg'⟩
    have hS : ∀ i ∈ [g.sp, g.sb, g.lb, g.gb], w.heap.size ≤ i := mem4 hg.lp hg.ls hg.ll hg.lg
    have hne : ∀ i, i < w.heap.size → i ∉ [g.sp, g.sb, g.lb, g.gb] := fun i hi hm => by have := hS i hm; omega
    refine ⟨rfl, { g with cnt := 0 + 1, s := 0 + 5, l := minI 9223372036854775807 5, g := maxI (-9223372036854775808) 5 }, ⟨ht2.row (ht.row hr (by simpa using Ne.symm hmb)) (hne _ hr.lt), (ht2.block m (Nat.lt_of_lt_of_le hml ht.size) (hne _ hml)).trans hmp, hg', hml⟩, ?_, ht.trans_up ht2 hS⟩
    unfold Gp.dt
    simp only [hk]
    rfl
theorem add2 (w : World) (b m lo : Nat) (g2 : Gp) (A : Option Addr) (c L : Nat) (h : T1 w b m lo g2) (hs : Sl w 1 intV A c [1]) (hL : Row w L 2 [.int .i64 7]) :
    Calls Try.prog 6 #[.pointer (some ⟨b, 0, none⟩), .slice A 1 c, .slice (some ⟨L, 0, none⟩) 1 1] w fun e w' => e = .returned (.int .i64 0) ∧ ∃ g1, T2 w' b m lo w.heap.size g2 g1 ∧ g1.dt = ⟨[1], 1, 7, 7, 7⟩ ∧ Turn w w' [m] := by
  have hr := h.row
  have hm := h.map
  have hmb : m ≠ b := fun e => by subst e; unfold Row at hr; rw [hr] at hm; cases hm
  have hmL : m ≠ L := fun e => by subst e; unfold Row at hL; rw [hL] at hm; cases hm
  have hml : m < w.heap.size := (Array.getElem?_eq_some_iff.1 hm).1
  refine add_put w b _ _ _ ?_ ⟨_, _, _, rfl⟩ ⟨_, _, _, rfl⟩
  refine (put_core w b m w.heap.size A c [1] L 7 1 0 0 9223372036854775807 (-9223372036854775808) (fun g w1 => g.key = [1] ∧ w1.heap[m]? = some (.map #[⟨keyV 2, p1 g2.sp, 0⟩, ⟨keyV 1, p1 g.sp, 1⟩] 2)) hr hs (by simp) hL (by omega) (by omega) (by omega) (by omega) ⟨hmb, hmL, hml⟩ (fun W hk hlt => ?_)).mono ?_
  · refine (group_new W b m 1 1 #[⟨keyV 2, p1 g2.sp, 0⟩] A c [1] 1 (hr.keep hk) ((hk.block m hml).trans hm) (hs.keep hk) (.inr rfl) (fun W h => look_1 W _ _ h) (fun W v h => upd_1 W _ _ v h)).mono ?_
    rintro e w' ⟨g, rfl, h1, h2, h3, h4, h5, h6, h7, h8⟩
    have hb := h6.ls; have hb2 := h6.ll; have hb3 := h6.lg; have hb4 := h6.lp
    have hLl := hL.lt
    exact ⟨g, rfl, ⟨h2, h3, h4, h5⟩, h6.lower hk.size, ⟨h1, h7⟩, h8, by omega, by omega, by omega, by omega⟩
  · rintro e w' ⟨g, w1, rfl, ⟨hk, hmp⟩, hg, ht, ht2, hg'⟩
    have hS : ∀ i ∈ [g.sp, g.sb, g.lb, g.gb], w.heap.size ≤ i := mem4 hg.lp hg.ls hg.ll hg.lg
    have hne : ∀ i, i < w.heap.size → i ∉ [g.sp, g.sb, g.lb, g.gb] := fun i hi hm => by have := hS i hm; omega
    have htt := ht.trans_up ht2 hS
    refine ⟨rfl, { g with cnt := 0 + 1, s := 0 + 7, l := minI 9223372036854775807 7, g := maxI (-9223372036854775808) 7 }, ⟨ht2.row (ht.row hr (by simpa using Ne.symm hmb)) (hne _ hr.lt), (ht2.block m (Nat.lt_of_lt_of_le hml ht.size) (hne _ hml)).trans hmp, h.at_.turn htt (by simpa using h.lt), hg', h.lt, h.at_.row.lt, h.at_.rs.lt, h.at_.rl.lt, h.at_.rg.lt⟩, ?_, htt⟩
    unfold Gp.dt
    simp only [hk]
    rfl
theorem add3 (w : World) (b m lo lo1 : Nat) (g2 g1 : Gp) (A : Option Addr) (c L : Nat) (h : T2 w b m lo lo1 g2 g1) (hd : g2.dt = ⟨[2], 1, 5, 5, 5⟩) (hs : Sl w 1 intV A c [2]) (hL : Row w L 2 [.int .i64 (-1)]) (hne : L ≠ g2.sb ∧ L ≠ g2.lb ∧ L ≠ g2.gb) :
    Calls Try.prog 6 #[.pointer (some ⟨b, 0, none⟩), .slice A 1 c, .slice (some ⟨L, 0, none⟩) 1 1] w fun e w' => e = .returned (.int .i64 0) ∧ ∃ g2', T2 w' b m lo lo1 g2' g1 ∧ g2'.dt = ⟨[2], 2, 4, -1, 5⟩ ∧ Turn w w' [g2.sp, g2.sb, g2.lb, g2.gb] := by
  have hr := h.row
  have hm := h.map
  have hmb : m ≠ b := fun e => by subst e; unfold Row at hr; rw [hr] at hm; cases hm
  have hmL : m ≠ L := fun e => by subst e; unfold Row at hL; rw [hL] at hm; cases hm
  have hml : m < w.heap.size := (Array.getElem?_eq_some_iff.1 hm).1
  unfold Gp.dt at hd
  injection hd with d1 d2 d3 d4 d5
  refine add_put w b _ _ _ ?_ ⟨_, _, _, rfl⟩ ⟨_, _, _, rfl⟩
  refine (put_core w b m lo A c [2] L (-1) 1 1 5 5 5 (fun g w1 => g = g2 ∧ Keep w w1) hr hs (by simp) hL (by omega) (by omega) (by omega) (by omega) ⟨hmb, hmL, hml⟩ (fun W hk hlt => ?_)).mono ?_
  · refine (group_old W b m 1 2 g2.sp #[⟨keyV 2, p1 g2.sp, 0⟩, ⟨keyV 1, p1 g1.sp, 1⟩] A c [2] 2 (hr.keep hk) ((hk.block m hml).trans hm) (hs.keep hk) (.inr rfl) (fun W h => look_2 W _ _ _ h)).mono ?_
    rintro e w' ⟨rfl, hk2⟩
    have := h.at2.row.lt
    exact ⟨g2, rfl, ⟨d2, d3, d4, d5⟩, h.at2.keep (hk.trans hk2), ⟨rfl, hk.trans hk2⟩, Turn.keep hk2 _, by omega, hne.1, hne.2.1, hne.2.2⟩
  · rintro e w' ⟨g, w1, rfl, ⟨rfl, hk⟩, hg, ht, ht2, hg'⟩
    have hlo := h.lt
    have hm4 : m ∉ [g.sp, g.sb, g.lb, g.gb] := fun hi => by have := mem4 hg.lp hg.ls hg.ll hg.lg m hi; omega
    have hb4 : b ∉ [g.sp, g.sb, g.lb, g.gb] := fun hi => mem4 (P := fun i => b ≠ i) (row_ne hr h.at2.row (by decide)) (row_ne hr h.at2.rs (by decide)) (row_ne hr h.at2.rl (by decide)) (row_ne hr h.at2.rg (by decide)) b hi rfl
    refine ⟨rfl, { g with cnt := 1 + 1, s := 5 + -1, l := minI 5 (-1), g := maxI 5 (-1) }, ⟨ht2.row (hr.keep hk) hb4, (ht2.block m (Nat.lt_of_lt_of_le hml hk.size) hm4).trans ((hk.block m hml).trans hm), hg', (h.at1.keep hk).turn ht2 (mem4 h.up.1 h.up.2.1 h.up.2.2.1 h.up.2.2.2), h.lt, h.up⟩, ?_, (Turn.keep hk _).trans ht2⟩
    unfold Gp.dt
    simp only [d1]
    rfl
end Go.Proofs.Ytpefhleglhbfaaa
