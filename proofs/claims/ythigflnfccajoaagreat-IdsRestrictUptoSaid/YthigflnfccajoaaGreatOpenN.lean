
/- Arguments opened: a filter; three lists of values. -/
import Derived.Test.YthigflnfccajoaaGreatRows
import Derived.Test.YthigflnfccajoaaGreatOpen
import Derived.Test.YthigflnfccajoaaGreatMd
import Derived.Test.YthigflnfccajoaaGreatRval
namespace Go.Proofs.YthigflnfccajoaaGreat
open Go.RowKit Go.Zone Go.ChangeShapes Go.WideShapes Go.Deep Go.Joins Go.ChangeMaps
theorem bulk_pos {H : Type} (d : DataW H) : 1 ≤ Rows.uptoBulk d := by
  cases d with
  | lit l => cases l <;> simp [Rows.uptoBulk]
  | _ => simp [Rows.uptoBulk]
theorem bulk_all {H : Type} (k : Nat) : ∀ (l : List (DataW H)), (∀ d ∈ l, k ≤ Rows.uptoBulk d) → k * l.length ≤ Rows.uptoBulkAll l
  | [], _ => by simp [Rows.uptoBulkAll]
  | x :: r, h => by
    have h1 := bulk_all k r fun d hd => h d (by simp [hd])
    have h2 := h x (by simp)
    simp only [Rows.uptoBulkAll, List.length_cons, Nat.mul_add, Nat.mul_one]
    omega
theorem bulk_mem {H : Type} : ∀ (l : List (DataW H)) (d : DataW H), d ∈ l → Rows.uptoBulk d ≤ Rows.uptoBulkAll l
  | x :: r, d, h => by
    simp only [Rows.uptoBulkAll]
    rcases List.mem_cons.1 h with h | h
    · subst h; omega
    · have := bulk_mem r d h; omega
theorem sizes_le {H : Type} (D : Nat → DataW H) : ∀ (ks : List Nd) (s : Nat), (∀ i, (h : i < ks.length) → sizeF ks[i] ≤ Rows.uptoBulk (D (s + i))) → (ks.map sizeF).sum ≤ Rows.uptoBulkAll ((List.range' s ks.length).map D)
  | [], _, _ => by simp
  | k :: r, s, h => by
    have h0 := h 0 (by simp)
    have h1 := sizes_le D r (s + 1) fun i hi => by
      have := h (i + 1) (by simpa using hi)
      rw [show s + 1 + i = s + (i + 1) by omega]
      simpa using this
    simp only [List.length_cons, List.range'_succ, List.map_cons, List.sum_cons, Rows.uptoBulkAll]
    simp only [List.getElem_cons_zero, Nat.add_zero] at h0
    omega
def nodeTest (P : Program) (t tn tv : TypeId) : Bool := match P.underlying t with
  | some (.struct ⟨[f0, f1, f2, f3, f4]⟩) => oneCellFields P #[f0, f1, f2, f3, f4] && (match P.underlying f0.type, P.underlying f1.type, P.underlying f2.type, P.underlying f3.type, P.underlying f4.type with | some (.int .u8), some (.slice a), some .string, some (.int .u8), some (.slice b) => a == tn && b == tv | _, _, _, _, _ => false)
  | _ => false
theorem u_node : ∃ f0 f1 f2 f3 f4, Tryz.prog.underlying 27 = some (.struct #[f0, f1, f2, f3, f4]) ∧ oneCellFields Tryz.prog #[f0, f1, f2, f3, f4] = true ∧ Tryz.prog.underlying f0.type = some (.int .u8) ∧ Tryz.prog.underlying f1.type = some (.slice 27) ∧ Tryz.prog.underlying f2.type = some .string ∧ Tryz.prog.underlying f3.type = some (.int .u8) ∧ Tryz.prog.underlying f4.type = some (.slice 51) := by
  have h : nodeTest Tryz.prog 27 27 51 = true := by kernel_rfl
  unfold nodeTest at h
  split at h
  · rename_i f0 f1 f2 f3 f4 hs
    rw [Bool.and_eq_true] at h
    obtain ⟨h1, h2⟩ := h
    split at h2
    · rename_i a b c d e
      rw [Bool.and_eq_true, beq_iff_eq, beq_iff_eq] at h2
      obtain ⟨e1, e2⟩ := h2
      subst e1; subst e2
      exact ⟨f0, f1, f2, f3, f4, hs, h1, a, b, c, d, e⟩
    · cases h2
  · cases h
theorem c_node : Tryz.prog.cellsOf 27 = 5 := by kernel_rfl
section
variable {H : Type} {enc : TypeId × Value → H} {w : World} {held : Bool}
theorem spot_none {a : Addr} {v : Value} (h : w.cell? a = some v) : a.spot = none := by
  unfold World.cell? at h
  split at h
  · split at h
    · cases h
    · rename_i hq; simpa using hq
  · cases h
theorem add_spot {a : Addr} (h : a.spot = none) (n : Nat) : a.add n = ⟨a.block, a.off + n, none⟩ := by
  obtain ⟨ab, ao, asp⟩ := a
  simp only at h
  subst h
  unfold Addr.add
  split
  · rename_i h; subst h; rfl
  · rfl
theorem open_vals2 {t : TypeId} {v : Value} {d : DataW H} {ps : List MemPlace} {fuel : Nat} (ht : Tryz.prog.underlying t = some (.slice 51)) (hf : DataW.trod enc Tryz.prog w 0 (fun _ => true) held fuel t [v] = some (d, ps)) (hb : Rows.uptoBulk d ≤ 1048576) :
    ∃ A c xs, v = .slice A xs.length c ∧ Sl w 3 Val.cells A c xs ∧ (∀ x ∈ xs, WfV x) ∧ xs.length + 1 ≤ Rows.uptoBulk d := by
  obtain ⟨f0, f1, f2, hs, hone, t0, t1, t2⟩ := u_val
  rcases open_slice_fields ht hs hone c_val hf with ⟨h0, h1⟩ | ⟨a, len, cap, m, D, Pl, h0, hb', hl, hm, hmm, hx, hi⟩
  · simp only [List.cons.injEq, and_true] at h0
    simp only [Prod.mk.injEq] at h1
    exact ⟨none, 0, [], h0, Sl.nil_ _ (by omega), fun _ h => (by cases h), by rw [h1.1]; simp [Rows.uptoBulk]⟩
  · simp only [List.cons.injEq, and_true] at h0
    obtain ⟨xs, hxl, hxs⟩ := choose_list (Q := fun i (x : Val) => WfV x ∧ w.cell? (a.add (i * 3)) = some (.int .u8 x.k) ∧ w.cell? (a.add (i * 3 + 1)) = some (.int .i64 x.n) ∧ w.cell? (a.add (i * 3 + 2)) = some (.string x.s)) len fun i hil => by
      obtain ⟨ys, n, _, _, _, hff⟩ := hi i (by rw [hmm]; split <;> omega)
      obtain ⟨v0, y0, c0, _, r0⟩ := hff 0 f0 rfl
      obtain ⟨v1, y1, c1, _, r1⟩ := hff 1 f1 rfl
      obtain ⟨v2, y2, c2, _, r2⟩ := hff 2 f2 rfl
      obtain ⟨k, e0, _, wk⟩ := DataW.trod_int t0 r0
      obtain ⟨n', e1, _, wn⟩ := DataW.trod_int t1 r1
      obtain ⟨s, e2, _, ws⟩ := DataW.trod_string t2 r2
      cases e0; cases e1; cases e2
      exact ⟨⟨k, n', s⟩, ⟨wk, wn, ws⟩, c0, c1, c2⟩
    subst hxl
    simp only [Prod.mk.injEq] at hx
    have hbk : xs.length + 1 ≤ Rows.uptoBulk d := by
      rw [hx.1]
      have h1 := bulk_all 1 ((List.range xs.length).map D) fun d _ => bulk_pos d
      simp only [List.length_map, List.length_range, Nat.one_mul] at h1
      simp only [Rows.uptoBulk]
      omega
    refine ⟨some a, cap, xs, h0, ⟨hl, by unfold maxLen at hm; omega, by omega, fun i hil => ?_⟩, fun x hx => ?_, hbk⟩
    · obtain ⟨_, c0, c1, c2⟩ := hxs i hil
      have hsp : a.spot = none := by
        obtain ⟨_, d0, _, _⟩ := hxs 0 (by omega)
        simp only [Nat.zero_mul, Addr.add, if_true] at d0
        exact spot_none d0
      rw [add_spot hsp] at c0 c1 c2
      refine ⟨a.block, a.off, by obtain ⟨ab, ao, asp⟩ := a; simp only at hsp; subst hsp; rfl, fun j u hu => ?_⟩
      match j, hu with
      | 0, hu => cases hu; exact c0
      | 1, hu => cases hu; exact c1
      | 2, hu => cases hu; exact c2
    · obtain ⟨i, hil, rfl⟩ := List.getElem_of_mem hx
      exact (hxs i hil).1
theorem five {α : Type} {l : List α} (h : l.length = 5) : ∃ a b c d e, l = [a, b, c, d, e] := by
  match l, h with
  | [a, b, c, d, e], _ => exact ⟨a, b, c, d, e, rfl⟩
set_option maxRecDepth 100000 in
theorem open_nd : ∀ (k fuel : Nat) (cs : List Value) (d : DataW H) (ps : List MemPlace), Rows.uptoBulk d ≤ k → k ≤ 1048576 → DataW.trod enc Tryz.prog w 0 (fun _ => true) held fuel 27 cs = some (d, ps) →
    ∃ n : Nd, cs = n.cells ∧ (∀ b, w.heap.size ≤ b → Nd.In w b n) ∧ sizeF n ≤ Rows.uptoBulk d := by
  intro k
  induction k with
  | zero => intro fuel cs d ps hb _ _; have := bulk_pos d; omega
  | succ k ih =>
    intro fuel cs d ps hb hk h
    obtain ⟨f0, f1, f2, f3, f4, hs, hone, t0, t1, t2, t3, t4⟩ := u_node
    obtain ⟨xs, n', hn', hx, hlen, hxl, hf⟩ := DataW.trod_struct hs h
    rw [c_node] at hlen
    obtain ⟨v0, v1, v2, v3, v4, rfl⟩ := five hlen
    obtain ⟨y0, y1, y2, y3, y4, rfl⟩ := five hxl
    simp only [Prod.mk.injEq, List.map_cons, List.map_nil] at hx
    obtain ⟨rfl, _⟩ := hx
    have g0 := hf 0 f0 rfl
    have g1 := hf 1 f1 rfl
    have g2 := hf 2 f2 rfl
    have g3 := hf 3 f3 rfl
    have g4 := hf 4 f4 rfl
    rw [(hone_of hone 0 f0 rfl).1, (hone_of hone 0 f0 rfl).2] at g0
    rw [(hone_of hone 1 f1 rfl).1, (hone_of hone 1 f1 rfl).2] at g1
    rw [(hone_of hone 2 f2 rfl).1, (hone_of hone 2 f2 rfl).2] at g2
    rw [(hone_of hone 3 f3 rfl).1, (hone_of hone 3 f3 rfl).2] at g3
    rw [(hone_of hone 4 f4 rfl).1, (hone_of hone 4 f4 rfl).2] at g4
    simp only [List.drop_succ_cons, List.drop_zero, List.take_succ_cons, List.take_zero, List.getElem?_cons_zero, List.getElem?_cons_succ] at g0 g1 g2 g3 g4
    obtain ⟨op, e0, _, _⟩ := DataW.trod_int t0 g0
    obtain ⟨col, e2, _, _⟩ := DataW.trod_string t2 g2
    obtain ⟨cmp, e3, _, _⟩ := DataW.trod_int t3 g3
    simp only [List.cons.injEq, and_true] at e0 e2 e3
    subst e0; subst e2; subst e3
    simp only [Rows.uptoBulk, Rows.uptoBulkAll] at hb ⊢
    have p0 := bulk_pos y0.1
    have p2 := bulk_pos y2.1
    have p3 := bulk_pos y3.1
    obtain ⟨B, dd, vals, rfl, hv, _, hvb⟩ := open_vals2 (d := y4.1) (ps := y4.2) t4 g4 (by omega)
    have hkids : ∃ A c ks, v1 = .slice A ks.length c ∧ Sl w 5 Nd.cells A c ks ∧ (∀ n ∈ ks, ∀ b, w.heap.size ≤ b → Nd.In w b n) ∧ (ks.map sizeF).sum + 1 ≤ Rows.uptoBulk y1.1 := by
      rcases open_slice t1 g1 with ⟨h0, h1⟩ | ⟨a, len, cap, m, n, D, Pl, h0, hb', hl, hm, hmm, hx, hi⟩
      · simp only [List.cons.injEq, and_true] at h0
        refine ⟨none, 0, [], h0, Sl.nil_ _ (by omega), fun _ h => (by cases h), ?_⟩
        rw [h1]
        simp [Rows.uptoBulk]
      · simp only [List.cons.injEq, and_true] at h0
        have hy : y1.1 = .slice ((List.range len).map D) ((List.range (m - len)).map fun j => D (len + j)) := by rw [hx]
        have hbD : ∀ i, i < len → Rows.uptoBulk (D i) + 1 ≤ Rows.uptoBulk y1.1 := fun i hil => by
          rw [hy]
          have := bulk_mem ((List.range len).map D) (D i) (List.mem_map.2 ⟨i, List.mem_range.2 hil, rfl⟩)
          simp only [Rows.uptoBulk]
          omega
        obtain ⟨ks, hkl, hks⟩ := choose_list (Q := fun i (q : Nd) => (∀ j u, q.cells[j]? = some u → w.cell? (a.add (i * 5 + j)) = some u) ∧ (∀ b, w.heap.size ≤ b → Nd.In w b q) ∧ sizeF q ≤ Rows.uptoBulk (D i)) len fun i hil => by
          obtain ⟨cs', hc, ht⟩ := hi i (by rw [hmm]; split <;> omega)
          rw [c_node] at hc
          have hbi := hbD i hil
          obtain ⟨q, hq, hin, hsz⟩ := ih n cs' (D i) (Pl i) (by omega) (by omega) ht
          obtain ⟨_, hcl, hat⟩ := World.cells?_some hc
          refine ⟨q, fun j u hu => ?_, hin, hsz⟩
          have hj : j < 5 := by
            have := (List.getElem?_eq_some_iff.1 hu).1
            simpa [Nd.cells] using this
          rw [← Go.Deep.add_add, hat j hj, hq, hu]
        subst hkl
        refine ⟨some a, cap, ks, h0, ⟨hl, by unfold maxLen at hm; omega, ?_, fun i hil => ?_⟩, fun q hq => ?_, ?_⟩
        · have h1 := bulk_all 1 ((List.range ks.length).map D) fun d _ => bulk_pos d
          simp only [List.length_map, List.length_range, Nat.one_mul] at h1
          have h2 : Rows.uptoBulkAll ((List.range ks.length).map D) ≤ Rows.uptoBulk y1.1 := by rw [hy]; simp only [Rows.uptoBulk]; omega
          omega
        · have hsp : a.spot = none := by
            have := (hks 0 (by omega)).1 0 _ rfl
            simp only [Nat.zero_mul, Addr.add, if_true] at this
            exact spot_none this
          refine ⟨a.block, a.off, by obtain ⟨ab, ao, asp⟩ := a; simp only at hsp; subst hsp; rfl, fun j u hu => ?_⟩
          have := (hks i hil).1 j u hu
          rw [add_spot hsp] at this
          rw [Nat.add_assoc]
          exact this
        · obtain ⟨i, hil, rfl⟩ := List.getElem_of_mem hq
          exact (hks i hil).2.1
        · have h1 := sizes_le D ks 0 fun i hil => by rw [Nat.zero_add]; exact (hks i hil).2.2
          rw [← List.range_eq_range'] at h1
          rw [hy]
          simp only [Rows.uptoBulk]
          omega
    obtain ⟨KA, kc, ks, rfl, hsk, hin, hkb⟩ := hkids
    refine ⟨⟨op, KA, kc, ks, col, cmp, B, dd, vals⟩, rfl, fun b hb2 => .mk _ hsk hv (fun g off hA hp => sl_ne hsk (fun _ => by simp [Nd.cells]) hb2 g off hA hp) (fun g off hA hp => sl_ne hv (fun _ => by simp [Val.cells]) hb2 g off hA hp) (fun q hq => hin q hq b hb2), ?_⟩
    rw [sizeF_eq]
    simp only
    omega
set_option maxRecDepth 100000 in
/-- A filter as an argument. -/
theorem open_filter {b0 : Nat} {r : Reach} {v : Value} {d : DataW H} {ps : List MemPlace} (hv : Value.okWide Tryz.prog w r b0 27 v) (h : DataW.Trod enc Tryz.prog w 0 (fun _ => true) held 27 v d ps) (hb : Rows.uptoBulk d ≤ 1048576) :
    ∃ n : Nd, v = n.v ∧ Nd.In w w.heap.size n ∧ sizeF n ≤ 1048576 := by
  obtain ⟨f0, f1, f2, f3, f4, hs, _⟩ := u_node
  obtain ⟨cs, rfl, hsz⟩ := okWide_struct hs hv
  obtain ⟨fuel, hf⟩ := h
  obtain ⟨n, hn, hin, hz⟩ := open_nd (Rows.uptoBulk d) fuel _ d ps (Nat.le_refl _) hb hf
  refine ⟨n, ?_, hin _ (Nat.le_refl _), by omega⟩
  have hc : cs.toList = n.cells := hn
  have : cs = n.cells.toArray := by rw [← hc]
  rw [this]
  rfl
def dictsTest (P : Program) (t tv : TypeId) : Bool := match P.underlying t with
  | some (.struct ⟨[f0, f1, f2]⟩) => oneCellFields P #[f0, f1, f2] && (match P.underlying f0.type, P.underlying f1.type, P.underlying f2.type with | some (.slice a), some (.slice b), some (.slice c) => a == tv && (b == tv && c == tv) | _, _, _ => false)
  | _ => false
theorem u_dicts : ∃ f0 f1 f2, Tryz.prog.underlying 24 = some (.struct #[f0, f1, f2]) ∧ oneCellFields Tryz.prog #[f0, f1, f2] = true ∧ Tryz.prog.underlying f0.type = some (.slice 51) ∧ Tryz.prog.underlying f1.type = some (.slice 51) ∧ Tryz.prog.underlying f2.type = some (.slice 51) := by
  have h : dictsTest Tryz.prog 24 51 = true := by kernel_rfl
  unfold dictsTest at h
  split at h
  · rename_i f0 f1 f2 hs
    rw [Bool.and_eq_true] at h
    obtain ⟨h1, h2⟩ := h
    split at h2
    · rename_i a b c d e f
      rw [Bool.and_eq_true, Bool.and_eq_true, beq_iff_eq, beq_iff_eq, beq_iff_eq] at h2
      obtain ⟨e1, e2, e3⟩ := h2
      subst e1; subst e2; subst e3
      exact ⟨f0, f1, f2, hs, h1, d, e, f⟩
    · cases h2
  · cases h
theorem c_dicts : Tryz.prog.cellsOf 24 = 3 := by kernel_rfl
set_option maxRecDepth 100000 in
/-- Three lists of values as an argument. -/
theorem open_dicts {b0 : Nat} {r : Reach} {v : Value} {d : DataW H} {ps : List MemPlace} (hv : Value.okWide Tryz.prog w r b0 24 v) (h : DataW.Trod enc Tryz.prog w 0 (fun _ => true) held 24 v d ps) (hb : Rows.uptoBulk d ≤ 1048576) :
    ∃ A0 c0 xs0 A1 c1 xs1 A2 c2 xs2, v = .agg #[.slice A0 xs0.length c0, .slice A1 xs1.length c1, .slice A2 xs2.length c2] ∧ Sl w 3 Val.cells A0 c0 xs0 ∧ Sl w 3 Val.cells A1 c1 xs1 ∧ Sl w 3 Val.cells A2 c2 xs2 ∧
      (∀ x ∈ xs0, WfV x) ∧ (∀ x ∈ xs1, WfV x) ∧ (∀ x ∈ xs2, WfV x) := by
  obtain ⟨f0, f1, f2, hs, hone, t0, t1, t2⟩ := u_dicts
  obtain ⟨v0, v1, v2, y0, y1, y2, n, rfl, rfl, _, r0, r1, r2⟩ := open_agg3 hs hone c_dicts hv h
  simp only [Rows.uptoBulk, Rows.uptoBulkAll] at hb
  obtain ⟨A0, c0, xs0, rfl, s0, w0, _⟩ := open_vals2 (d := y0.1) (ps := y0.2) t0 r0 (by omega)
  obtain ⟨A1, c1, xs1, rfl, s1, w1, _⟩ := open_vals2 (d := y1.1) (ps := y1.2) t1 r1 (by omega)
  obtain ⟨A2, c2, xs2, rfl, s2, w2, _⟩ := open_vals2 (d := y2.1) (ps := y2.2) t2 r2 (by omega)
  exact ⟨A0, c0, xs0, A1, c1, xs1, A2, c2, xs2, rfl, s0, s1, s2, w0, w1, w2⟩
end
end Go.Proofs.YthigflnfccajoaaGreat
