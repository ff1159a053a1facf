/- Arguments opened: columns, a configuration, ints. -/
import Derived.Deep.Grids
import Derived.Test.YtcffcblfmlclnaaGreatDoorOpen
import Derived.Test.YtcffcblfmlclnaaGreatDoorUnd
import Derived.Test.YtcffcblfmlclnaaGreatDoorBs3
namespace Go.Proofs.YtcffcblfmlclnaaGreatDoor
open Go.RowKit Go.Zone Go.ChangeShapes Go.WideShapes Go.Deep Go.Joins Go.ChangeMaps
section
variable {H : Type} {enc : TypeId × Value → H} {w : World} {held : Bool}
theorem weights_all {P : Program} {e : TypeId} {n : Nat} : ∀ {l : List (DataW H)} {d : DataW H}, d ∈ l → n ∈ d.weights P e → n ∈ DataW.weightsAll P e l
  | x :: r, d, hd, hn => by
    simp only [DataW.weightsAll, List.mem_append]
    rcases List.mem_cons.1 hd with rfl | hd
    · exact .inl hn
    · exact .inr (weights_all hd hn)
def colTest (P : Program) (t : TypeId) : Bool := match P.underlying t with
  | some (.struct ⟨[f0, f1]⟩) => oneCellFields P #[f0, f1] && (match P.underlying f0.type, P.underlying f1.type with | some .string, some (.int .u8) => true | _, _ => false)
  | _ => false
theorem u_col : ∃ f0 f1, Tryz.prog.underlying 32 = some (.struct #[f0, f1]) ∧ oneCellFields Tryz.prog #[f0, f1] = true ∧ Tryz.prog.underlying f0.type = some .string ∧ Tryz.prog.underlying f1.type = some (.int .u8) := by
  have h : colTest Tryz.prog 32 = true := by kernel_rfl
  unfold colTest at h
  split at h
  · rename_i f0 f1 hs
    rw [Bool.and_eq_true] at h
    obtain ⟨h1, h2⟩ := h
    split at h2
    · rename_i a b
      exact ⟨f0, f1, hs, h1, a, b⟩
    · cases h2
  · cases h
theorem u_cols : Tryz.prog.underlying 22 = some (.slice 32) := by kernel_rfl
theorem c_col : Tryz.prog.cellsOf 32 = 2 := by kernel_rfl
theorem u_ints : Tryz.prog.underlying 24 = some (.slice 3) := by kernel_rfl
theorem u_bools : Tryz.prog.underlying 23 = some (.slice 4) := by kernel_rfl
theorem c_int : Tryz.prog.cellsOf 3 = 1 := by kernel_rfl
theorem c_bool : Tryz.prog.cellsOf 4 = 1 := by kernel_rfl
set_option maxRecDepth 100000 in
theorem open_cols {b0 : Nat} {r : Reach} {v : Value} {d : DataW H} {ps : List MemPlace} (hv : Value.okWide Tryz.prog w r b0 22 v) (h : DataW.Trod enc Tryz.prog w 0 (fun _ => true) held 22 v d ps)
    (hz : ∀ n ∈ d.weights Tryz.prog 22, n ≤ reachBytes) :
    ∃ A c xs, v = .slice A xs.length c ∧ Sl w 2 Col.cells A c xs ∧ ∀ x ∈ xs, x.name.size ≤ 140737488355328 := by
  obtain ⟨f0, f1, hs, hone, t0, t1⟩ := u_col
  have hrb := reachBytes_lt
  obtain ⟨fuel, hf⟩ := h
  have hcs : v.cells.toList = [v] := by
    simp only [Value.okWide, u_cols] at hv
    cases v <;> simp_all [Cell.okWide, Cell.ok, u_cols, Value.cells]
  rcases open_slice_fields u_cols hs hone c_col hf with ⟨h0, _⟩ | ⟨a, len, cap, m, D, Pl, h0, hb, hl, hm, hmm, hx, hi⟩
  · simp only [hcs, List.cons.injEq, and_true] at h0
    exact ⟨none, 0, [], h0, Sl.nil_ _ (by omega), fun _ h => by cases h⟩
  · simp only [hcs, List.cons.injEq, and_true] at h0
    simp only [Prod.mk.injEq] at hx
    have hw1 : ∀ i, i < len → ∀ n ∈ (D i).weights Tryz.prog 32, n ≤ reachBytes := fun i hi n hn => hz n (by
      rw [hx.1]
      simp only [DataW.weights, u_cols, List.mem_cons, List.mem_append]
      exact .inr (.inl (weights_all (List.mem_map.2 ⟨i, List.mem_range.2 hi, rfl⟩) hn)))
    have hw2 : len * Tryz.prog.bytesOf 32 ≤ reachBytes := by
      have := hz ((len + (m - len)) * Tryz.prog.bytesOf 32) (by rw [hx.1]; simp [DataW.weights, u_cols])
      exact Nat.le_trans (Nat.mul_le_mul_right _ (by omega)) this
    rw [show Tryz.prog.bytesOf 32 = 24 by kernel_rfl] at hw2
    obtain ⟨xs, hxl, hxs⟩ := choose_list (Q := fun i (x : Col) => x.name.size ≤ 140737488355328 ∧ w.cell? (a.add (i * 2)) = some (.string x.name) ∧ w.cell? (a.add (i * 2 + 1)) = some (.int .u8 x.kind)) len fun i hil => by
      obtain ⟨ys, n, hD, _, hyl, hff⟩ := hi i (by rw [hmm]; split <;> omega)
      obtain ⟨v0, y0, c0, e0, r0⟩ := hff 0 f0 rfl
      obtain ⟨v1, y1, c1, e1, r1⟩ := hff 1 f1 rfl
      obtain ⟨s, g0, gd, ws⟩ := DataW.trod_string t0 r0
      obtain ⟨k, g1, _, wk⟩ := DataW.trod_int t1 r1
      cases g0; cases g1
      refine ⟨⟨s, k⟩, ?_, c0, c1⟩
      match ys, hyl, e0, e1 with
      | [z0, z1], _, e0, e1 =>
        cases e0; cases e1
        have h2 := hw1 i hil s.data.toList.length (by
          rw [hD, gd]
          simp [DataW.weights, hs, DataW.weightsEach])
        have h3 : s.data.toList.length = s.size := by rw [Lib.size_eq]
        simp only
        omega
    subst hxl
    refine ⟨some a, cap, xs, h0, ⟨hl, by unfold maxLen at hm; omega, by omega, fun i hil => ?_⟩, fun x hx => ?_⟩
    · obtain ⟨_, c0, c1⟩ := hxs i hil
      have hsp : a.spot = none := by
        obtain ⟨_, d0, _⟩ := hxs 0 (by omega)
        simp only [Nat.zero_mul, Addr.add, if_true] at d0
        unfold World.cell? at d0
        split at d0
        · split at d0
          · cases d0
          · rename_i h; simpa using h
        · cases d0
      have hadd : ∀ n, a.add n = ⟨a.block, a.off + n, none⟩ := fun n => by
        obtain ⟨ab, ao, asp⟩ := a
        simp only at hsp
        subst hsp
        unfold Addr.add
        split
        · rename_i h; subst h; rfl
        · rfl
      rw [hadd] at c0 c1
      refine ⟨a.block, a.off, by obtain ⟨ab, ao, asp⟩ := a; simp only at hsp; subst hsp; rfl, fun j u hu => ?_⟩
      match j, hu with
      | 0, hu => cases hu; exact c0
      | 1, hu => cases hu; exact c1
    · obtain ⟨i, hil, rfl⟩ := List.getElem_of_mem hx
      exact (hxs i hil).1
/-- ints in a cell -/
theorem sl_ints {v : Value} {fuel : Nat} {x : DataW H × List MemPlace} (hf : DataW.trod enc Tryz.prog w 0 (fun _ => true) held fuel 24 [v] = some x) (hz : ∀ n ∈ x.1.weights Tryz.prog 24, n ≤ reachBytes) :
    ∃ A c xs, v = .slice A xs.length c ∧ Sl w 1 i64V A c xs := by
  have hrb := reachBytes_lt
  rcases open_ints u_ints u_int c_int hf with ⟨h0, _⟩ | ⟨a, len, cap, zs, h0, _, hl, hm, hzl, hx, hcell, hwz⟩
  · simp only [List.cons.injEq, and_true] at h0
    exact ⟨none, 0, [], h0, Sl.nil_ _ (by omega)⟩
  · simp only [List.cons.injEq, and_true] at h0
    simp only [if_true] at hzl
    subst hx
    have hz' := hz _ (by simp only [DataW.weights, u_ints]; exact List.mem_cons_self)
    rw [show Tryz.prog.bytesOf 3 = 8 by kernel_rfl] at hz'
    simp only [lits, List.length_map, List.length_take, List.length_drop] at hz'
    have hbl : (zs.take len).length = len := by simp; omega
    refine ⟨some a, cap, zs.take len, by rw [hbl]; exact h0, ⟨by rw [hbl]; exact hl, by unfold maxLen at hm; omega, by rw [hbl]; omega, fun i hi => ?_⟩⟩
    rw [hbl] at hi
    have c0 := hcell i (by omega)
    obtain ⟨ab, ao, spot⟩ := a
    have hspot : spot = none := by simpa [Addr.add] using World.cell?_spot (hcell 0 (by omega))
    subst hspot
    refine ⟨ab, ao, rfl, fun j u hu => ?_⟩
    match j, hu with
    | 0, hu =>
      cases hu
      rw [Addr.add_lit] at c0
      rw [Nat.mul_one, Nat.add_zero, c0]
      simp [List.getD, show i < zs.length by omega]
/-- flags in a cell -/
theorem sl_bools {v : Value} {fuel : Nat} {x : DataW H × List MemPlace} (hf : DataW.trod enc Tryz.prog w 0 (fun _ => true) held fuel 23 [v] = some x) (hz : ∀ n ∈ x.1.weights Tryz.prog 23, n ≤ reachBytes) :
    ∃ A c xs, v = .slice A xs.length c ∧ Sl w 1 flV A c xs := by
  have hrb := reachBytes_lt
  rcases open_bools u_bools u_bool c_bool hf with ⟨h0, _⟩ | ⟨a, len, cap, B, h0, _, hl, hm, hx, hcell⟩
  · simp only [List.cons.injEq, and_true] at h0
    exact ⟨none, 0, [], h0, Sl.nil_ _ (by omega)⟩
  · simp only [List.cons.injEq, and_true] at h0
    subst hx
    have hz' := hz ((len + (cap - len)) * Tryz.prog.bytesOf 4) (by simp [DataW.weights, u_bools, boolRow])
    rw [show Tryz.prog.bytesOf 4 = 1 by kernel_rfl] at hz'
    have hbl : ((List.range len).map B).length = len := by simp
    refine ⟨some a, cap, (List.range len).map B, by rw [hbl]; exact h0, ⟨by rw [hbl]; exact hl, by unfold maxLen at hm; omega, by rw [hbl]; omega, fun i hi => ?_⟩⟩
    rw [hbl] at hi
    have c0 := hcell i (by omega)
    obtain ⟨ab, ao, spot⟩ := a
    have hspot : spot = none := by simpa [Addr.add] using World.cell?_spot (hcell 0 (by omega))
    subst hspot
    refine ⟨ab, ao, rfl, fun j u hu => ?_⟩
    match j, hu with
    | 0, hu =>
      cases hu
      rw [Addr.add_lit] at c0
      rw [Nat.mul_one, Nat.add_zero, c0]
      simp
def cfgTest (P : Program) (t ti tb : TypeId) : Bool := match P.underlying t with
  | some (.struct ⟨[f0, f1, f2, f3, f4]⟩) => oneCellFields P #[f0, f1, f2, f3, f4] && (f1.type == tb && (f2.type == tb && (f3.type == ti && (match P.underlying f0.type, P.underlying f4.type with | some (.int .i64), some (.int .i64) => true | _, _ => false))))
  | _ => false
theorem u_cfg : ∃ f0 f1 f2 f3 f4, Tryz.prog.underlying 26 = some (.struct #[f0, f1, f2, f3, f4]) ∧ oneCellFields Tryz.prog #[f0, f1, f2, f3, f4] = true ∧ f1.type = 23 ∧ f2.type = 23 ∧ f3.type = 24 ∧ Tryz.prog.underlying f0.type = some (.int .i64) ∧ Tryz.prog.underlying f4.type = some (.int .i64) := by
  have h : cfgTest Tryz.prog 26 24 23 = true := by kernel_rfl
  unfold cfgTest at h
  split at h
  · rename_i f0 f1 f2 f3 f4 hs
    rw [Bool.and_eq_true, Bool.and_eq_true, Bool.and_eq_true, Bool.and_eq_true, beq_iff_eq, beq_iff_eq, beq_iff_eq] at h
    obtain ⟨h1, e1, e2, e3, h2⟩ := h
    split at h2
    · rename_i a b
      exact ⟨f0, f1, f2, f3, f4, hs, h1, e1, e2, e3, a, b⟩
    · cases h2
  · cases h
theorem c_cfg : Tryz.prog.cellsOf 26 = 5 := by kernel_rfl
theorem five' {α : Type} {l : List α} (h : l.length = 5) : ∃ a b c d e, l = [a, b, c, d, e] := by
  match l, h with
  | [a, b, c, d, e], _ => exact ⟨a, b, c, d, e, rfl⟩
set_option maxRecDepth 100000 in
theorem open_cfg {b0 : Nat} {r : Reach} {v : Value} {d : DataW H} {ps : List MemPlace} (hv : Value.okWide Tryz.prog w r b0 26 v) (h : DataW.Trod enc Tryz.prog w 0 (fun _ => true) held 26 v d ps)
    (hz : ∀ n ∈ d.weights Tryz.prog 26, n ≤ reachBytes) : ∃ c : Cfg, v = c.v ∧ CfgAt w c := by
  obtain ⟨f0, f1, f2, f3, f4, hs, hone, k1, k2, k3, t0, t4⟩ := u_cfg
  obtain ⟨cs, rfl, hsz⟩ := okWide_struct hs hv
  obtain ⟨fuel, hf0⟩ := h
  obtain ⟨xs, n', hn', hx, hlen, hxl, hf⟩ := DataW.trod_struct hs hf0
  rw [c_cfg] at hlen
  obtain ⟨l⟩ := cs
  obtain ⟨v0, v1, v2, v3, v4, rfl⟩ := five' (l := l) hlen
  obtain ⟨y0, y1, y2, y3, y4, rfl⟩ := five' hxl
  simp only [Prod.mk.injEq, List.map_cons, List.map_nil] at hx
  obtain ⟨rfl, _⟩ := hx
  have g0 := hf 0 f0 rfl
  have g1 := hf 1 f1 rfl
  have g2 := hf 2 f2 rfl
  have g3 := hf 3 f3 rfl
  have g4 := hf 4 f4 rfl
  rw [(hone_of hone 0 f0 rfl).1, (hone_of hone 0 f0 rfl).2] at g0
  rw [(hone_of hone 1 f1 rfl).1, (hone_of hone 1 f1 rfl).2, k1] at g1
  rw [(hone_of hone 2 f2 rfl).1, (hone_of hone 2 f2 rfl).2, k2] at g2
  rw [(hone_of hone 3 f3 rfl).1, (hone_of hone 3 f3 rfl).2, k3] at g3
  rw [(hone_of hone 4 f4 rfl).1, (hone_of hone 4 f4 rfl).2] at g4
  simp only [Value.cells, List.drop_succ_cons, List.drop_zero, List.take_succ_cons, List.take_zero, List.getElem?_cons_zero, List.getElem?_cons_succ] at g0 g1 g2 g3 g4
  obtain ⟨s, e0, _, _⟩ := DataW.trod_int t0 g0
  obtain ⟨lf, e4, _, _⟩ := DataW.trod_int t4 g4
  simp only [List.cons.injEq, and_true] at e0 e4
  subst e0; subst e4
  have hw : ∀ n, n ∈ y1.1.weights Tryz.prog 23 ∨ n ∈ y2.1.weights Tryz.prog 23 ∨ n ∈ y3.1.weights Tryz.prog 24 → n ≤ reachBytes := fun n hn => hz n (by
    simp only [DataW.weights, hs, List.map_cons, List.map_nil, DataW.weightsEach, List.mem_append, k1, k2, k3]
    rcases hn with h | h | h <;> simp [h])
  obtain ⟨iA, ic, iv, rfl, hi⟩ := sl_bools g1 fun n hn => hw n (.inl hn)
  obtain ⟨rA, rc, rv, rfl, hr⟩ := sl_bools g2 fun n hn => hw n (.inr (.inl hn))
  obtain ⟨sA, sc, sv, rfl, hsv⟩ := sl_ints g3 fun n hn => hw n (.inr (.inr hn))
  exact ⟨⟨s, iA, ic, iv, rA, rc, rv, sA, sc, sv, lf⟩, rfl, ⟨hi, hr, hsv⟩⟩
set_option maxRecDepth 100000 in
theorem open_intl {b0 : Nat} {r : Reach} {v : Value} {d : DataW H} {ps : List MemPlace} (hv : Value.okWide Tryz.prog w r b0 24 v) (h : DataW.Trod enc Tryz.prog w 0 (fun _ => true) held 24 v d ps)
    (hz : ∀ n ∈ d.weights Tryz.prog 24, n ≤ reachBytes) : ∃ A c xs, v = .slice A xs.length c ∧ Sl w 1 i64V A c xs := by
  obtain ⟨fuel, hf⟩ := h
  have hcs : v.cells.toList = [v] := by
    simp only [Value.okWide, u_ints] at hv
    cases v <;> simp_all [Cell.okWide, Cell.ok, u_ints, Value.cells]
  rw [hcs] at hf
  exact sl_ints hf hz
end
end Go.Proofs.YtcffcblfmlclnaaGreatDoor
