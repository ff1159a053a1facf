
/- A region that draws its order: by an invariant over what is listed; two blocks made and filled. -/
import Derived.WalkKit
import Derived.Lib.Hide
import Derived.WalkSpells
import Derived.WalkLawsBesides
import Derived.BigQuiet
import Derived.Shelf.Abstract
import Derived.Test.YthigflnfccajoaaGreatZone
import Derived.Laws.Tables
import Derived.Test.YthigflnfccajoaaGreatRr
import Derived.Deep.CutRange
import Derived.Deep.DeepCutAuto
import Derived.Test.YthigflnfccajoaaGreatRows
import Derived.ProofKit
import Derived.Deep.CondSized
import Derived.Test.YthigflnfccajoaaGreatOpenN
import Derived.Test.YthigflnfccajoaaGreatUnd
namespace Go.Zone
open Go.RowKit
section
variable {P : Program} {ops : Array Oper} {md : Region.Mode} {Q : Exit → Act → World → Prop}
def backB (md : Region.Mode) (ops : Array Oper) : Bool :=
  (List.range ops.size).all fun i => ((ops[i]?).map fun o => o.after.all fun e => !Region.binds md e || decide (e.on < i)).getD true
theorem getD_true_of {listed : Array Bool} {i : Nat} (hi : i < listed.size) (h : listed.getD i false ≠ true) : listed.getD i true = false := by
  simp only [Array.getD_eq_getD_getElem?, Array.getElem?_eq_getElem hi, Option.getD_some] at h ⊢
  simpa using h
theorem getD_flip {listed : Array Bool} {i : Nat} (h : listed.getD i true = false) : listed.getD i false = false := by
  rcases Nat.lt_or_ge i listed.size with hi | hi
  · simpa only [Array.getD_eq_getD_getElem?, Array.getElem?_eq_getElem hi, Option.getD_some] using h
  · simp only [Array.getD_eq_getD_getElem?, Array.getElem?_eq_none hi, Option.getD_none] at h
    cases h
theorem getD_listed {listed : Array Bool} {i j : Nat} (hi : i < listed.size) : (listed.setIfInBounds i true).getD j false = if i = j then true else listed.getD j false := by
  simp only [Array.getD_eq_getD_getElem?, Array.getElem?_setIfInBounds]
  by_cases h : i = j
  · subst h; simp [hi]
  · simp [h]
theorem ready_none (hb : backB md ops = true) {listed : Array Bool} (hs : listed.size = ops.size) (h : Region.ready md ops listed = []) : ∀ i, i < ops.size → listed.getD i false = true := by
  intro i
  induction i using Nat.strongRecOn with
  | _ i ih =>
    intro hi
    by_cases hl : listed.getD i false = true
    · exact hl
    · have h1 : i ∈ Region.ready md ops listed := mem_ready.2 ⟨getD_true_of (by omega) hl, ops[i], Array.getElem?_eq_getElem hi, fun e he hbd => by
        have h2 := List.all_eq_true.1 hb i (List.mem_range.2 hi)
        rw [Array.getElem?_eq_getElem hi] at h2
        simp only [Option.map_some, Option.getD_some] at h2
        have h3 := Array.all_eq_true_iff_forall_mem.1 h2 e he
        rw [hbd] at h3
        have h4 : e.on < i := by simpa using h3
        exact ih e.on h4 (by omega)⟩
      rw [h] at h1
      cases h1
theorem wpAny_inv (hb : backB md ops = true) (I : Array Bool → Act → World → Prop)
    (hstep : ∀ listed a w, I listed a w → listed.size = ops.size → ∀ i o, ops[i]? = some o → listed.getD i false = false → (∀ e ∈ o.after, Region.binds md e = true → listed.getD e.on false = true) →
      Region.wanted o (yielded ops a.tmps) = true ∧ ((∃ v w', (execOp a.eval o).run P w = .ok (.value v) w' ∧ I (listed.setIfInBounds i true) (a.put o.dst v) w') ∨ ∃ w', (execOp a.eval o).run P w = .ok .skip w' ∧ I (listed.setIfInBounds i true) (a.put o.dst undef) w'))
    (hend : ∀ listed a w, I listed a w → listed.size = ops.size → (∀ i, i < ops.size → listed.getD i false = true) → Q .normal a w) :
    ∀ (f : Nat) (listed : Array Bool) (a : Act) (w : World), listed.toList.count false = f → listed.size = ops.size → I listed a w → wpAny P md ops Q f listed a w := by
  intro f
  induction f with
  | zero =>
    intro listed a w hc hs hI
    have hall : ∀ i, i < ops.size → listed.getD i false = true := fun i hi => by
      have hi' : i < listed.size := by omega
      have h0 : ¬ (false ∈ listed.toList) := List.count_eq_zero.1 hc
      by_cases hx : listed.getD i false = true
      · exact hx
      · refine absurd ?_ h0
        have : listed[i] = false := by simpa only [Array.getD_eq_getD_getElem?, Array.getElem?_eq_getElem hi', Option.getD_some, Bool.not_eq_true] using hx
        rw [← this]
        simp
    refine ⟨?_, hend listed a w hI hs hall⟩
    refine List.eq_nil_iff_forall_not_mem.2 fun j hj => ?_
    obtain ⟨h1, o, ho, _⟩ := mem_ready.1 hj
    have := hall j (Array.getElem?_eq_some_iff.1 ho).1
    rw [getD_flip h1] at this
    cases this
  | succ f ih =>
    intro listed a w hc hs hI
    refine ⟨fun h => hend listed a w hI hs (ready_none hb hs h), fun i hi => ?_⟩
    obtain ⟨h1, o, ho, hall⟩ := mem_ready.1 hi
    have hio : i < ops.size := (Array.getElem?_eq_some_iff.1 ho).1
    have hil : i < listed.toList.length := by simp; omega
    obtain ⟨hw, hr⟩ := hstep listed a w hI hs i o ho (getD_flip h1) hall
    have hc' : (listed.setIfInBounds i true).toList.count false = f := by
      rw [Array.toList_setIfInBounds, List.count_set hil]
      have h2 := getD_flip h1
      simp only [Array.getD_eq_getD_getElem?, Array.getElem?_eq_getElem (show i < listed.size by omega), Option.getD_some] at h2
      simp [h2, hc]
    unfold wpOp
    simp only [ho, hw, if_true]
    refine .inl ?_
    unfold Oper.wp
    rcases hr with ⟨v, w', h2, h3⟩ | ⟨w', h2, h3⟩
    · rw [h2]
      exact ih _ _ _ hc' (by simpa using hs) h3
    · rw [h2]
      exact ih _ _ _ hc' (by simpa using hs) h3
theorem wp_region_inv {id : Nat} {a : Act} {w : World} (hm : P.follows .mixedOrders = true) (hb : backB .any ops = true) (I : Array Bool → Act → World → Prop)
    (h0 : I (Array.replicate ops.size false) a { w with drawn := w.drawn + 1 })
    (hstep : ∀ listed a w, I listed a w → listed.size = ops.size → ∀ i o, ops[i]? = some o → listed.getD i false = false → (∀ e ∈ o.after, Region.binds .any e = true → listed.getD e.on false = true) →
      Region.wanted o (yielded ops a.tmps) = true ∧ ((∃ v w', (execOp a.eval o).run P w = .ok (.value v) w' ∧ I (listed.setIfInBounds i true) (a.put o.dst v) w') ∨ ∃ w', (execOp a.eval o).run P w = .ok .skip w' ∧ I (listed.setIfInBounds i true) (a.put o.dst undef) w'))
    (hend : ∀ listed a w, I listed a w → listed.size = ops.size → (∀ i, i < ops.size → listed.getD i false = true) → Q .normal a w) : (Code.region id ops true).wp P Q a w :=
  wp_region_any hm (wpAny_inv hb I hstep hend ops.size _ a _ (by simp) (by simp) h0)
end
/-- The eight operations: two loads, two builds, two blocks made, two stores. -/
structure Two (P : Program) (ops : Array Oper) (a : Act) (w : World) (d0 d1 d2 d3 d4 d5 : Nat) (V0 V1 V2 V3 : Value) (cz c1 c2 : Array Value) (ty : TypeId) : Prop where
  size : ops.size = 8
  free : ∀ (i : Nat) o, ops[i]? = some o → o.guard = none
  dst : ops.toList.map (·.dst) = [some d0, some d1, some d2, some d3, some d4, some d5, none, none]
  e1 : ∀ o, ops[1]? = some o → ∃ e ∈ o.after, Region.binds .any e = true ∧ e.on = 0
  e3 : ∀ o, ops[3]? = some o → ∃ e ∈ o.after, Region.binds .any e = true ∧ e.on = 2
  e6 : ∀ o, ops[6]? = some o → (∃ e ∈ o.after, Region.binds .any e = true ∧ e.on = 1) ∧ ∃ e ∈ o.after, Region.binds .any e = true ∧ e.on = 4
  e7 : ∀ o, ops[7]? = some o → (∃ e ∈ o.after, Region.binds .any e = true ∧ e.on = 3) ∧ ∃ e ∈ o.after, Region.binds .any e = true ∧ e.on = 5
  r0 : ∀ o, ops[0]? = some o → ∀ (b : Act) W, (∀ t : Nat, t ∉ [d0, d1, d2, d3, d4, d5] → b.tmps.getD t undef = a.tmps.getD t undef) → Keep w W → (execOp b.eval o).run P W = .ok (.value V0) W
  r1 : ∀ o, ops[1]? = some o → ∀ (b : Act) W, b.tmps.getD d0 undef = V0 → (execOp b.eval o).run P W = .ok (.value V1) W
  r2 : ∀ o, ops[2]? = some o → ∀ (b : Act) W, (∀ t : Nat, t ∉ [d0, d1, d2, d3, d4, d5] → b.tmps.getD t undef = a.tmps.getD t undef) → Keep w W → (execOp b.eval o).run P W = .ok (.value V2) W
  r3 : ∀ o, ops[3]? = some o → ∀ (b : Act) W, b.tmps.getD d2 undef = V2 → (execOp b.eval o).run P W = .ok (.value V3) W
  r4 : ∀ o, ops[4]? = some o → ∀ (b : Act) W, (execOp b.eval o).run P W = .ok (.value (.pointer (some ⟨W.heap.size, 0, none⟩))) (W.alloc (.cells cz ty))
  r5 : ∀ o, ops[5]? = some o → ∀ (b : Act) W, (execOp b.eval o).run P W = .ok (.value (.pointer (some ⟨W.heap.size, 0, none⟩))) (W.alloc (.cells cz ty))
  r6 : ∀ o, ops[6]? = some o → ∀ (b : Act) W q, b.tmps.getD d4 undef = .pointer (some ⟨q, 0, none⟩) → b.tmps.getD d1 undef = V1 → W.heap[q]? = some (.cells cz ty (0, 0)) → (execOp b.eval o).run P W = .ok .skip (W.setRow q c1)
  r7 : ∀ o, ops[7]? = some o → ∀ (b : Act) W q, b.tmps.getD d5 undef = .pointer (some ⟨q, 0, none⟩) → b.tmps.getD d3 undef = V3 → W.heap[q]? = some (.cells cz ty (0, 0)) → (execOp b.eval o).run P W = .ok .skip (W.setRow q c2)
theorem edge_of {ops : Array Oper} {i j : Nat} (h : ((ops[i]?).map fun o => o.after.any fun e => Region.binds .any e && e.on == j) = some true) : ∀ o, ops[i]? = some o → ∃ e ∈ o.after, Region.binds .any e = true ∧ e.on = j := fun o ho => by
  rw [ho] at h
  have h1 : (o.after.any fun e => Region.binds .any e && e.on == j) = true := by simpa using h
  obtain ⟨k, hk, h2⟩ := Array.any_eq_true.1 h1
  simp only [Bool.and_eq_true, beq_iff_eq] at h2
  exact ⟨_, Array.getElem_mem hk, h2.1, h2.2⟩
theorem edge_two {ops : Array Oper} {i j k : Nat} (h : ((ops[i]?).map fun o => o.after.any fun e => Region.binds .any e && e.on == j) = some true) (h' : ((ops[i]?).map fun o => o.after.any fun e => Region.binds .any e && e.on == k) = some true) :
    ∀ o, ops[i]? = some o → (∃ e ∈ o.after, Region.binds .any e = true ∧ e.on = j) ∧ ∃ e ∈ o.after, Region.binds .any e = true ∧ e.on = k := fun o ho => ⟨edge_of h o ho, edge_of h' o ho⟩
theorem free_of {ops : Array Oper} (h : ops.all (fun o => o.guard.isNone) = true) : ∀ (i : Nat) o, ops[i]? = some o → o.guard = none := fun i o ho => by
  obtain ⟨hi, rfl⟩ := Array.getElem?_eq_some_iff.1 ho
  have := Array.all_eq_true.1 h i hi
  simpa using this
structure TwoI (a : Act) (w : World) (d0 d1 d2 d3 d4 d5 : Nat) (V0 V1 V2 V3 : Value) (cz c1 c2 : Array Value) (ty : TypeId) (L : Nat → Bool) (b : Act) (W : World) (q1 q2 : Nat) : Prop where
  defers : b.defers = a.defers
  size : b.tmps.size = a.tmps.size
  rest : ∀ t : Nat, t ∉ [d0, d1, d2, d3, d4, d5] → b.tmps.getD t undef = a.tmps.getD t undef
  keep : Keep w W
  s0 : L 0 = true → b.tmps.getD d0 undef = V0
  s1 : L 1 = true → b.tmps.getD d1 undef = V1
  s2 : L 2 = true → b.tmps.getD d2 undef = V2
  s3 : L 3 = true → b.tmps.getD d3 undef = V3
  s4 : L 4 = true → b.tmps.getD d4 undef = .pointer (some ⟨q1, 0, none⟩) ∧ w.heap.size ≤ q1 ∧ q1 < W.heap.size ∧ W.heap[q1]? = some (.cells (if L 6 = true then c1 else cz) ty (0, 0))
  s5 : L 5 = true → b.tmps.getD d5 undef = .pointer (some ⟨q2, 0, none⟩) ∧ w.heap.size ≤ q2 ∧ q2 < W.heap.size ∧ W.heap[q2]? = some (.cells (if L 7 = true then c2 else cz) ty (0, 0))
  ne : L 4 = true → L 5 = true → q1 ≠ q2
  s6 : L 6 = true → L 4 = true
  s7 : L 7 = true → L 5 = true
theorem getD_replicate_false' (n k : Nat) : (Array.replicate n false).getD k false = false := by
  simp only [Array.getD_eq_getD_getElem?, Array.getElem?_replicate]
  split <;> rfl
theorem heap_alloc_at (W : World) (o : Obj) : (W.alloc o).heap[W.heap.size]? = some o := by unfold World.alloc; simp
theorem heap_alloc_old (W : World) (o : Obj) (i : Nat) (h : i < W.heap.size) : (W.alloc o).heap[i]? = W.heap[i]? := by
  have : i ≠ W.heap.size := by omega
  unfold World.alloc
  simp [Array.getElem?_push, this]
theorem keep_setRow {w W : World} (h : Keep w W) (q : Nat) (cs : Array Value) (hq : w.heap.size ≤ q) : Keep w (W.setRow q cs) :=
  ⟨h.os, h.tape, h.output, by simpa using h.size, fun k hk => (setRow_other W q k cs (by omega)).trans (h.block k hk)⟩
theorem put_at (b : Act) (d : Nat) (u : Value) (h : d < b.tmps.size) : (b.put (some d) u).tmps.getD d undef = u := by rw [getD_put b _ u d h, if_pos rfl]
theorem put_else (b : Act) (d : Nat) (u : Value) (t : Nat) (h : d ≠ t) : (b.put (some d) u).tmps.getD t undef = b.tmps.getD t undef := by
  simp [Act.put, Array.getElem?_setIfInBounds_ne h]
theorem wp_two {P : Program} {ops : Array Oper} {Q : Exit → Act → World → Prop} {id : Nat} {a : Act} {w : World} {d0 d1 d2 d3 d4 d5 : Nat} {V0 V1 V2 V3 : Value} {cz c1 c2 : Array Value} {ty : TypeId}
    (hm : P.follows .mixedOrders = true) (hb : backB .any ops = true) (hn : [d0, d1, d2, d3, d4, d5].Nodup) (hlt : ∀ d ∈ [d0, d1, d2, d3, d4, d5], d < a.tmps.size)
    (T : Two P ops a w d0 d1 d2 d3 d4 d5 V0 V1 V2 V3 cz c1 c2 ty)
    (hQ : ∀ W q1 q2, Keep w W → q1 ≠ q2 → w.heap.size ≤ q1 → w.heap.size ≤ q2 → q1 < W.heap.size → q2 < W.heap.size → W.heap[q1]? = some (.cells c1 ty (0, 0)) → W.heap[q2]? = some (.cells c2 ty (0, 0)) →
      Q .normal ((((((a.put (some d0) V0).put (some d1) V1).put (some d2) V2).put (some d3) V3).put (some d4) (.pointer (some ⟨q1, 0, none⟩))).put (some d5) (.pointer (some ⟨q2, 0, none⟩))) W) :
    (Code.region id ops true).wp P Q a w := by
  simp only [List.nodup_cons, List.mem_cons, List.not_mem_nil, or_false, not_or, List.nodup_nil, and_true, not_false_eq_true] at hn
  obtain ⟨⟨n01, n02, n03, n04, n05⟩, ⟨n12, n13, n14, n15⟩, ⟨n23, n24, n25⟩, ⟨n34, n35⟩, n45⟩ := hn
  have z0 := hlt d0 (by simp)
  have z1 := hlt d1 (by simp)
  have z2 := hlt d2 (by simp)
  have z3 := hlt d3 (by simp)
  have z4 := hlt d4 (by simp)
  have z5 := hlt d5 (by simp)
  refine wp_region_inv hm hb (fun listed b W => ∃ q1 q2, TwoI a w d0 d1 d2 d3 d4 d5 V0 V1 V2 V3 cz c1 c2 ty (fun k => listed.getD k false) b W q1 q2) ?_ ?_ ?_
  · have hr : ∀ k, (Array.replicate ops.size false).getD k false = true → False := fun k h => by
      rw [getD_replicate_false'] at h; cases h
    exact ⟨0, 0, rfl, rfl, fun _ _ => rfl, ⟨rfl, rfl, rfl, Nat.le_refl _, fun _ _ => rfl⟩, fun h => (hr _ h).elim, fun h => (hr _ h).elim, fun h => (hr _ h).elim, fun h => (hr _ h).elim, fun h => (hr _ h).elim, fun h => (hr _ h).elim, fun h => (hr _ h).elim, fun h => (hr _ h).elim, fun h => (hr _ h).elim⟩
  · rintro listed b W ⟨q1, q2, h⟩ hs i o ho hun hed
    have hi8 : i < 8 := by have := (Array.getElem?_eq_some_iff.1 ho).1; have := T.size; omega
    have hil : i < listed.size := by have := T.size; omega
    refine ⟨by unfold Region.wanted; rw [T.free i o ho], ?_⟩
    have hL : (fun k => (listed.setIfInBounds i true).getD k false) = fun k => if i = k then true else listed.getD k false := funext fun k => getD_listed hil
    simp only [hL]
    generalize hLL : (fun k => listed.getD k false) = L at h
    have hun' : L i = false := by rw [← hLL]; exact hun
    have hLk : ∀ k, listed.getD k false = L k := fun k => by rw [← hLL]
    simp only [hLk] at hed ⊢
    clear hLL hL hun hLk
    have hsz := h.size
    have hkz := h.keep.size
    match i, hi8 with
    | 0, _ =>
      have hd : o.dst = some d0 := by
        have h1 := congrArg (fun l => l[0]?) T.dst
        simp only [List.getElem?_map, Array.getElem?_toList, ho] at h1
        exact Option.some.inj h1
      rw [hd]
      exact .inl ⟨V0, W, T.r0 o ho b W h.rest h.keep, q1, q2, (put_defers' _ _ _).trans h.defers, (put_size _ _ _).trans h.size, fun t ht => (put_else b d0 _ t (fun e => ht (by simp [e]))).trans (h.rest t ht), h.keep,
        fun _ => put_at b d0 _ (by omega), fun hl => (put_else b d0 _ d1 n01).trans (h.s1 hl), fun hl => (put_else b d0 _ d2 n02).trans (h.s2 hl), fun hl => (put_else b d0 _ d3 n03).trans (h.s3 hl),
        fun hl => ⟨(put_else b d0 _ d4 n04).trans (h.s4 hl).1, (h.s4 hl).2⟩, fun hl => ⟨(put_else b d0 _ d5 n05).trans (h.s5 hl).1, (h.s5 hl).2⟩, h.ne, h.s6, h.s7⟩
    | 1, _ =>
      obtain ⟨e, he, hbe, hon⟩ := T.e1 o ho
      have l0 : L 0 = true := by have := hed e he hbe; rwa [hon] at this
      have hd : o.dst = some d1 := by
        have h1 := congrArg (fun l => l[1]?) T.dst
        simp only [List.getElem?_map, Array.getElem?_toList, ho] at h1
        exact Option.some.inj h1
      rw [hd]
      exact .inl ⟨V1, W, T.r1 o ho b W (h.s0 l0), q1, q2, (put_defers' _ _ _).trans h.defers, (put_size _ _ _).trans h.size, fun t ht => (put_else b d1 _ t (fun e => ht (by simp [e]))).trans (h.rest t ht), h.keep,
        fun hl => (put_else b d1 _ d0 (Ne.symm n01)).trans (h.s0 hl), fun _ => put_at b d1 _ (by omega), fun hl => (put_else b d1 _ d2 n12).trans (h.s2 hl), fun hl => (put_else b d1 _ d3 n13).trans (h.s3 hl),
        fun hl => ⟨(put_else b d1 _ d4 n14).trans (h.s4 hl).1, (h.s4 hl).2⟩, fun hl => ⟨(put_else b d1 _ d5 n15).trans (h.s5 hl).1, (h.s5 hl).2⟩, h.ne, h.s6, h.s7⟩
    | 2, _ =>
      have hd : o.dst = some d2 := by
        have h1 := congrArg (fun l => l[2]?) T.dst
        simp only [List.getElem?_map, Array.getElem?_toList, ho] at h1
        exact Option.some.inj h1
      rw [hd]
      exact .inl ⟨V2, W, T.r2 o ho b W h.rest h.keep, q1, q2, (put_defers' _ _ _).trans h.defers, (put_size _ _ _).trans h.size, fun t ht => (put_else b d2 _ t (fun e => ht (by simp [e]))).trans (h.rest t ht), h.keep,
        fun hl => (put_else b d2 _ d0 (Ne.symm n02)).trans (h.s0 hl), fun hl => (put_else b d2 _ d1 (Ne.symm n12)).trans (h.s1 hl), fun _ => put_at b d2 _ (by omega), fun hl => (put_else b d2 _ d3 n23).trans (h.s3 hl),
        fun hl => ⟨(put_else b d2 _ d4 n24).trans (h.s4 hl).1, (h.s4 hl).2⟩, fun hl => ⟨(put_else b d2 _ d5 n25).trans (h.s5 hl).1, (h.s5 hl).2⟩, h.ne, h.s6, h.s7⟩
    | 3, _ =>
      obtain ⟨e, he, hbe, hon⟩ := T.e3 o ho
      have l2 : L 2 = true := by have := hed e he hbe; rwa [hon] at this
      have hd : o.dst = some d3 := by
        have h1 := congrArg (fun l => l[3]?) T.dst
        simp only [List.getElem?_map, Array.getElem?_toList, ho] at h1
        exact Option.some.inj h1
      rw [hd]
      exact .inl ⟨V3, W, T.r3 o ho b W (h.s2 l2), q1, q2, (put_defers' _ _ _).trans h.defers, (put_size _ _ _).trans h.size, fun t ht => (put_else b d3 _ t (fun e => ht (by simp [e]))).trans (h.rest t ht), h.keep,
        fun hl => (put_else b d3 _ d0 (Ne.symm n03)).trans (h.s0 hl), fun hl => (put_else b d3 _ d1 (Ne.symm n13)).trans (h.s1 hl), fun hl => (put_else b d3 _ d2 (Ne.symm n23)).trans (h.s2 hl), fun _ => put_at b d3 _ (by omega),
        fun hl => ⟨(put_else b d3 _ d4 n34).trans (h.s4 hl).1, (h.s4 hl).2⟩, fun hl => ⟨(put_else b d3 _ d5 n35).trans (h.s5 hl).1, (h.s5 hl).2⟩, h.ne, h.s6, h.s7⟩
    | 4, _ =>
      have l6 : L 6 = false := by
        cases hx : L 6 with
        | false => rfl
        | true => rw [h.s6 hx] at hun'; cases hun'
      have hd : o.dst = some d4 := by
        have h1 := congrArg (fun l => l[4]?) T.dst
        simp only [List.getElem?_map, Array.getElem?_toList, ho] at h1
        exact Option.some.inj h1
      rw [hd]
      refine .inl ⟨_, _, T.r4 o ho b W, W.heap.size, q2, (put_defers' _ _ _).trans h.defers, (put_size _ _ _).trans h.size, fun t ht => (put_else b d4 _ t (fun e => ht (by simp [e]))).trans (h.rest t ht), h.keep.alloc _,
        fun hl => (put_else b d4 _ d0 (Ne.symm n04)).trans (h.s0 hl), fun hl => (put_else b d4 _ d1 (Ne.symm n14)).trans (h.s1 hl), fun hl => (put_else b d4 _ d2 (Ne.symm n24)).trans (h.s2 hl), fun hl => (put_else b d4 _ d3 (Ne.symm n34)).trans (h.s3 hl),
        fun _ => ⟨put_at b d4 _ (by omega), hkz, by simp, ?_⟩, fun hl => ⟨(put_else b d4 _ d5 n45).trans (h.s5 hl).1, (h.s5 hl).2.1, by have := (h.s5 hl).2.2.1; simp; omega, ?_⟩, fun _ hl => ?_, fun _ => rfl, h.s7⟩
      · rw [heap_alloc_at]
        simp [l6]
      · rw [heap_alloc_old _ _ _ (h.s5 hl).2.2.1]
        exact (h.s5 hl).2.2.2
      · have := (h.s5 hl).2.2.1
        omega
    | 5, _ =>
      have l7 : L 7 = false := by
        cases hx : L 7 with
        | false => rfl
        | true => rw [h.s7 hx] at hun'; cases hun'
      have hd : o.dst = some d5 := by
        have h1 := congrArg (fun l => l[5]?) T.dst
        simp only [List.getElem?_map, Array.getElem?_toList, ho] at h1
        exact Option.some.inj h1
      rw [hd]
      refine .inl ⟨_, _, T.r5 o ho b W, q1, W.heap.size, (put_defers' _ _ _).trans h.defers, (put_size _ _ _).trans h.size, fun t ht => (put_else b d5 _ t (fun e => ht (by simp [e]))).trans (h.rest t ht), h.keep.alloc _,
        fun hl => (put_else b d5 _ d0 (Ne.symm n05)).trans (h.s0 hl), fun hl => (put_else b d5 _ d1 (Ne.symm n15)).trans (h.s1 hl), fun hl => (put_else b d5 _ d2 (Ne.symm n25)).trans (h.s2 hl), fun hl => (put_else b d5 _ d3 (Ne.symm n35)).trans (h.s3 hl),
        fun hl => ⟨(put_else b d5 _ d4 (Ne.symm n45)).trans (h.s4 hl).1, (h.s4 hl).2.1, by have := (h.s4 hl).2.2.1; simp; omega, ?_⟩, fun _ => ⟨put_at b d5 _ (by omega), hkz, by simp, ?_⟩, fun hl _ => ?_, h.s6, fun _ => rfl⟩
      · rw [heap_alloc_old _ _ _ (h.s4 hl).2.2.1]
        exact (h.s4 hl).2.2.2
      · rw [heap_alloc_at]
        simp [l7]
      · have := (h.s4 hl).2.2.1
        omega
    | 6, _ =>
      obtain ⟨⟨e, he, hbe, hon⟩, e', he', hbe', hon'⟩ := T.e6 o ho
      have l1 : L 1 = true := by have := hed e he hbe; rwa [hon] at this
      have l4 : L 4 = true := by have := hed e' he' hbe'; rwa [hon'] at this
      obtain ⟨g1, g2, g3, g4⟩ := h.s4 l4
      rw [hun'] at g4
      replace g4 : W.heap[q1]? = some (.cells cz ty (0, 0)) := g4
      have hd : o.dst = none := by
        have h1 := congrArg (fun l => l[6]?) T.dst
        simp only [List.getElem?_map, Array.getElem?_toList, ho] at h1
        exact Option.some.inj h1
      rw [hd]
      refine .inr ⟨_, T.r6 o ho b W q1 g1 (h.s1 l1) g4, q1, q2, h.defers, h.size, h.rest, keep_setRow h.keep q1 c1 g2, h.s0, h.s1, h.s2, h.s3,
        fun _ => ⟨g1, g2, by simpa using g3, setRow_heap W q1 _ c1 ty (0, 0) g4⟩, fun hl => ⟨(h.s5 hl).1, (h.s5 hl).2.1, by simpa using (h.s5 hl).2.2.1, (setRow_other W q1 q2 c1 (Ne.symm (h.ne l4 hl))).trans (h.s5 hl).2.2.2⟩, h.ne, fun _ => l4, h.s7⟩
    | 7, _ =>
      obtain ⟨⟨e, he, hbe, hon⟩, e', he', hbe', hon'⟩ := T.e7 o ho
      have l3 : L 3 = true := by have := hed e he hbe; rwa [hon] at this
      have l5 : L 5 = true := by have := hed e' he' hbe'; rwa [hon'] at this
      obtain ⟨g1, g2, g3, g4⟩ := h.s5 l5
      rw [hun'] at g4
      replace g4 : W.heap[q2]? = some (.cells cz ty (0, 0)) := g4
      have hd : o.dst = none := by
        have h1 := congrArg (fun l => l[7]?) T.dst
        simp only [List.getElem?_map, Array.getElem?_toList, ho] at h1
        exact Option.some.inj h1
      rw [hd]
      refine .inr ⟨_, T.r7 o ho b W q2 g1 (h.s3 l3) g4, q1, q2, h.defers, h.size, h.rest, keep_setRow h.keep q2 c2 g2, h.s0, h.s1, h.s2, h.s3,
        fun hl => ⟨(h.s4 hl).1, (h.s4 hl).2.1, by simpa using (h.s4 hl).2.2.1, (setRow_other W q2 q1 c2 (h.ne hl l5)).trans (h.s4 hl).2.2.2⟩, fun _ => ⟨g1, g2, by simpa using g3, setRow_heap W q2 _ c2 ty (0, 0) g4⟩, h.ne, h.s6, fun _ => l5⟩
  · rintro listed b W ⟨q1, q2, h⟩ hs hall
    have ha : ∀ k, k < 8 → listed.getD k false = true := fun k hk => hall k (by have := T.size; omega)
    obtain ⟨a1, a2, a3, a4⟩ := h.s4 (ha 4 (by omega))
    obtain ⟨b1, b2, b3, b4⟩ := h.s5 (ha 5 (by omega))
    rw [if_pos (ha 6 (by omega))] at a4
    rw [if_pos (ha 7 (by omega))] at b4
    have hfin := hQ W q1 q2 h.keep (h.ne (ha 4 (by omega)) (ha 5 (by omega))) a2 b2 a3 b3 a4 b4
    have hbe : b = (((((a.put (some d0) V0).put (some d1) V1).put (some d2) V2).put (some d3) V3).put (some d4) (.pointer (some ⟨q1, 0, none⟩))).put (some d5) (.pointer (some ⟨q2, 0, none⟩)) := by
      refine act_eq (by simp only [put_defers', h.defers]) (by simp only [put_size, h.size]) fun t ht => ?_
      by_cases e5 : d5 = t
      · subst e5; rw [put_at _ _ _ (by simpa only [put_size] using z5)]; exact b1
      rw [put_else _ _ _ _ e5]
      by_cases e4 : d4 = t
      · subst e4; rw [put_at _ _ _ (by simpa only [put_size] using z4)]; exact a1
      rw [put_else _ _ _ _ e4]
      by_cases e3 : d3 = t
      · subst e3; rw [put_at _ _ _ (by simpa only [put_size] using z3)]; exact h.s3 (ha 3 (by omega))
      rw [put_else _ _ _ _ e3]
      by_cases e2 : d2 = t
      · subst e2; rw [put_at _ _ _ (by simpa only [put_size] using z2)]; exact h.s2 (ha 2 (by omega))
      rw [put_else _ _ _ _ e2]
      by_cases e1 : d1 = t
      · subst e1; rw [put_at _ _ _ (by simpa only [put_size] using z1)]; exact h.s1 (ha 1 (by omega))
      rw [put_else _ _ _ _ e1]
      by_cases e0 : d0 = t
      · subst e0; rw [put_at _ _ _ z0]; exact h.s0 (ha 0 (by omega))
      rw [put_else _ _ _ _ e0]
      exact h.rest t (by simp only [List.mem_cons, List.not_mem_nil, or_false, not_or]; exact ⟨Ne.symm e0, Ne.symm e1, Ne.symm e2, Ne.symm e3, Ne.symm e4, Ne.symm e5⟩)
    rw [hbe]
    exact hfin
end Go.Zone
/- Two questions laid by value: their loads, builds, blocks and stores. -/
namespace Go.Proofs.YthigflnfccajoaaGreat
open Go.RowKit Go.Zone Go.Shelf
theorem qz_size : (Tryz.prog.info? 56).map (·.size) = some 16 := by kernel_rfl
theorem storeAt_row {P : Program} (w : World) (g : Nat) (t ty : TypeId) (old cells : Array Value) (hg : w.heap[g]? = some (.cells old t (0, 0))) (hi : (P.info? ty).map (·.size) = some cells.size) (ho : old.size = cells.size) (h1 : cells.all (·.oneCell') = true) :
    (Instr.storeAt ty (.pointer (some ⟨g, 0, none⟩)) (.agg cells)).run P w = .ok () (w.setRow g cells) := by
  simp only [Instr.storeAt, Instr.sureAddr, Sem.run_bind, Sem.run_pure, Result.andThen_ok, run_storeVar_row w g t ty old cells hg hi ho h1]
def qzZ : List Value := [.int .u8 0, .slice none 0 0, .string ⟨#[]⟩, .int .u8 0, .slice none 0 0, .slice none 0 0, .slice none 0 0, .int .u8 0, .slice none 0 0, .int .i64 0, .int .u8 0, .int .u8 0, .int .i64 0, .string ⟨#[]⟩, .slice none 0 0, .int .i64 0]
theorem op_store (ρ : Operand → Value) (o : Oper) (W : World) (q : Nat) (n : Nd) (x y : Operand) (ho : o.op = .store 56 x y) (hx : ρ x = .pointer (some ⟨q, 0, none⟩)) (hy : ρ y = .agg (qzC n).toArray) (hq : W.heap[q]? = some (.cells qzZ.toArray 56 (0, 0))) :
    (execOp ρ o).run Tryz.prog W = .ok .skip (W.setRow q (qzC n).toArray) := by
  unfold execOp
  simp only [ho, hx, hy, Sem.run_bind, storeAt_row W q _ _ _ _ hq (show (Tryz.prog.info? 56).map (·.size) = some (qzC n).toArray.size from qz_size) rfl (by simp [qzC, Value.oneCell']), Result.andThen_ok, Sem.run_pure]
theorem op_build (ρ : Operand → Value) (o : Oper) (W : World) (n : Nd) (x : Operand) (ho : o.op = .build 56 #[(0, x)]) (hx : ρ x = n.v) : (execOp ρ o).run Tryz.prog W = .ok (.value (.agg (qzC n).toArray)) W := by
  unfold execOp
  simp only [ho, List.map_toArray, List.map_cons, List.map_nil, hx]
  kernel_rfl
theorem op_alloc (ρ : Operand → Value) (o : Oper) (W : World) (ho : o.op = .alloc 56) : (execOp ρ o).run Tryz.prog W = .ok (.value (.pointer (some ⟨W.heap.size, 0, none⟩))) (W.alloc (.cells qzZ.toArray 56)) := by
  unfold execOp
  simp only [ho]
  kernel_rfl
theorem op_load (ρ : Operand → Value) (o : Oper) (W : World) (n : Nd) (q : Nat) (x : Operand) (ho : o.op = .load 27 x) (hx : ρ x = .pointer (some ⟨q, 0, none⟩)) (h : At W q n.cells) : (execOp ρ o).run Tryz.prog W = .ok (.value n.v) W := by
  have x0 := h 0 _ rfl
  have x1 := h 1 _ rfl
  have x2 := h 2 _ rfl
  have x3 := h 3 _ rfl
  have x4 := h 4 _ rfl
  have hl := World.block_lt_of_cell? _ _ x0
  unfold execOp
  simp only [ho, hx]
  go_simp
theorem at_of_row {W : World} {q : Nat} {l : List Value} {ty : TypeId} (h : W.heap[q]? = some (.cells l.toArray ty (0, 0))) : At W q l := fun j u hj => by
  unfold World.cell?
  rw [h]
  simpa using hj
end Go.Proofs.YthigflnfccajoaaGreat
/- IdsRestrict: the law answers true. -/
namespace Go.Proofs.YthigflnfccajoaaGreat
open Go.RowKit Go.Zone Go.Shelf
attribute [local go_sem] Zone.zone Zone.stepZ Zone.fill Zone.lookFs Zone.goes Zone.goesUpon Zone.dropFs Zone.cell_gro Zone.frozen_gro Zone.size_gro Zone.lt_add Zone.drew_gro Zone.tape_gro Zone.keep_refl
attribute [local go_sem] Zone.lt_add2 Zone.lt_add3 Zone.lt_add4 Zone.lt_add5 Zone.lt_add6 Zone.lt_add7 Zone.lt_add8 Zone.lt_add9 Zone.lt_add10 Zone.lt_add11 Zone.lt_add12
theorem qzC_v (n : Nd) : qzC n = [.int .u8 n.op, .slice n.A n.kids.length n.c, .string n.col, .int .u8 n.cmp, .slice n.B n.vals.length n.d, .slice none 0 0, .slice none 0 0,
  .int .u8 0, .slice none 0 0, .int .i64 0, .int .u8 0, .int .u8 0, .int .i64 0, .string ⟨#[]⟩, .slice none 0 0, .int .i64 0] := rfl
theorem kindS_12 (s : Nm) : kindS s = 1 ∨ kindS s = 2 := by
  unfold kindS
  repeat' split
  all_goals simp
theorem flags_same {W : World} {b1 b2 n : Nat} {L : List Bool} {v1 v2 : Value} (h1 : OneR b1 n L v1 W) (h2 : OneR b2 n L v2 W) (hl : L.length = n) (hn : n ≤ 60) :
    Calls Tryz.prog 15 #[v1, v2] W fun e w' => e = .returned (.bool true) ∧ Keep W w' := by
  obtain ⟨A, c, rfl, h3⟩ := h1
  obtain ⟨B, d, rfl, h4⟩ := h2
  subst hl
  have h5 := flagsEq_any A B c d L L W (flags_sl h3 (by omega)) (flags_sl h4 (by omega))
  simpa using h5
set_option maxRecDepth 100000 in
set_option maxHeartbeats 8000000 in
theorem restrict_law (A0 : Option Addr) (c0 : Nat) (xs0 : List Val) (A1 : Option Addr) (c1 : Nat) (xs1 : List Val) (A2 : Option Addr) (c2 : Nat) (xs2 : List Val) (f : Nd) (w : World) (h0 : Sl w 3 Val.cells A0 c0 xs0) (h1 : Sl w 3 Val.cells A1 c1 xs1) (h2 : Sl w 3 Val.cells A2 c2 xs2)
    (hw0 : ∀ x ∈ xs0, x.s.size ≤ maxLen) (hw1 : ∀ x ∈ xs1, x.s.size ≤ maxLen) (hw2 : ∀ x ∈ xs2, x.s.size ≤ maxLen) (hf : Nd.In w w.heap.size f) (hsf : sizeF f ≤ 10000000) :
    Calls Tryz.prog 3 #[.agg #[.slice A0 xs0.length c0, .slice A1 xs1.length c1, .slice A2 xs2.length c2], f.v] w fun e w' => e = .returned (.bool true) ∧ Keep w w' := by
  have HMADE := Lib.hid (fun W (hW : Keep w W) => made_any A0 c0 xs0 A1 c1 xs1 A2 c2 xs2 W (h0.keep hW) (h1.keep hW) (h2.keep hW) hw0 hw1 hw2)
  have HWS := Lib.hid (show (∀ x ∈ xs0, x.s.size ≤ maxLen) ∧ (∀ x ∈ xs1, x.s.size ≤ maxLen) ∧ (∀ x ∈ xs2, x.s.size ≤ maxLen) from ⟨hw0, hw1, hw2⟩)
  have HF := Lib.hid hf
  have hl0 := h0.len
  have hl1 := h1.len
  have hl2 := h2.len
  have hkl := hf.kids_.len
  have hvl := hf.vals_.len
  have KN := Lib.hid (fun W => known25_any W)
  clear h0 h1 h2 hw0 hw1 hw2 hf
  have ef : f.v = .agg #[.int .u8 f.op, .slice f.A f.kids.length f.c, .string f.col, .int .u8 f.cmp, .slice f.B f.vals.length f.d] := rfl
  rw [ef]
  clear ef
  go_enter Tryz.func3, Tryz.ntmps3
  go_wp2_with (go_at_call 6; refine Zone.hold ?_)
  refine Zone.unhold ?_
  refine (HMADE.out _ (by repeat (first | exact Keep.refl _ | apply Keep.alloc | apply Keep.gro | apply Keep.drew | apply Keep.drewN))).mono ?_
  rintro e w1 (⟨rfl, hk1⟩ | ⟨P, R, ms, rfl, hm, hk1⟩)
  · have HK1 := Lib.hid (Keep.trans (show Keep w _ from (by repeat (first | exact Keep.refl _ | apply Keep.alloc | apply Keep.gro | apply Keep.drew | apply Keep.drewN))) hk1)
    go_wp2_with (go_at_call 8; refine (KN.out _).mono ?_; rintro e w' ⟨rfl, hk⟩; (first | obtain ⟨p, rfl⟩ := Zone.gro_of_gro _ _ hk | obtain ⟨p, rfl⟩ := Zone.gro_of_below _ hk); clear hk)
    go_ret
    exact ⟨rfl, HK1.out.trans (by repeat (first | exact Keep.refl _ | apply Keep.alloc | apply Keep.gro | apply Keep.drew | apply Keep.drewN))⟩
  · have HK1 := Lib.hid (Keep.trans (show Keep w _ from (by repeat (first | exact Keep.refl _ | apply Keep.alloc | apply Keep.gro | apply Keep.drew | apply Keep.drewN))) hk1)
    have HM := Lib.hid hm
    obtain ⟨A, c, rfl, _⟩ := hm.ptrs
    obtain ⟨RA, Rc, rfl, _⟩ := hm.rows
    obtain ⟨m0, m1, m2, rfl⟩ : ∃ m0 m1 m2, ms = [m0, m1, m2] := by
      have := hm.len
      match ms, this with
      | [a, b, c], _ => exact ⟨a, b, c, rfl⟩
    have ha1 : w.heap.size + 1 < w1.heap.size := by have := hk1.size; simp at this; omega
    have HX1 := Lib.hid (show At w1 (w.heap.size + 1) [.int .u8 f.op, .slice f.A f.kids.length f.c, .string f.col, .int .u8 f.cmp, .slice f.B f.vals.length f.d] from At.keep hk1 (by
      have := at_alloc (w.alloc (.cells #[.slice A0 xs0.length c0, .slice A1 xs1.length c1, .slice A2 xs2.length c2] 24)) [.int .u8 f.op, .slice f.A f.kids.length f.c, .string f.col, .int .u8 f.cmp, .slice f.B f.vals.length f.d] 27
      simpa only [World.size_alloc] using this))
    clear hk1 hm
    generalize w.heap.size + 1 = a1 at ha1 HX1 ⊢
    go_upto_region 2 with fail
    have HKA := Lib.hid (show Keep w1 (w1.alloc (.cells #[.slice A 3 c] 28)) from (by repeat (first | exact Keep.refl _ | apply Keep.alloc | apply Keep.gro | apply Keep.drew | apply Keep.drewN)))
    have hcl : (w1.alloc (.cells #[.slice A 3 c] 28)).cell? ⟨w1.heap.size, 0, none⟩ = some (.slice A 3 c) := by simp [go_sem]
    have hz2 : w1.heap.size < (w1.alloc (.cells #[.slice A 3 c] 28)).heap.size := by simp
    generalize hw2 : World.alloc w1 _ = w2 at HKA hcl hz2 ⊢
    clear hw2
    generalize w1.heap.size = bl at hcl hz2 ha1 ⊢
    have HX1b := Lib.hid (HX1.out.keep' HKA.out)
    have HKW := Lib.hid (HK1.out.trans HKA.out)
    have HCL := Lib.hid hcl
    have HMB := Lib.hid (HM.out.keep HKA.out)
    have HFB := Lib.hid ((HF.out.keep HKW.out).fresh (Nat.le_refl _))
    clear HX1 HF HK1 HM HKA hcl HMADE
    have x10 := HX1b.out 0 _ rfl
    have x11 := HX1b.out 1 _ rfl
    have x12 := HX1b.out 2 _ rfl
    have x13 := HX1b.out 3 _ rfl
    have x14 := HX1b.out 4 _ rfl
    have ha1' : a1 < w2.heap.size := by omega
    go_wp2_with (go_at_call 7; refine Zone.hold ?_)
    refine Zone.unhold ?_
    clear x10 x11 x12 x13 x14
    refine (may25_any f w2 HFB.out (by omega)).mono ?_
    rintro e w3 ⟨b1, rfl, hb1, hk3⟩
    have HK3 := Lib.hid hk3
    cases b1
    · clear hb1 hk3
      go_wp2_with (go_at_call 8; refine (KN.out _).mono ?_; rintro e w' ⟨rfl, hk⟩; (first | obtain ⟨p, rfl⟩ := Zone.gro_of_gro _ _ hk | obtain ⟨p, rfl⟩ := Zone.gro_of_below _ hk); clear hk)
      go_ret
      exact ⟨rfl, HKW.out.trans (HK3.out.trans (by repeat (first | exact Keep.refl _ | apply Keep.alloc | apply Keep.gro | apply Keep.drew | apply Keep.drewN)))⟩
    · obtain ⟨hs600, hwf⟩ := hb1 rfl
      have HWF := Lib.hid hwf
      have hzf : f.sz ≤ 1000000 := by have := sz_le_size f; omega
      clear hb1 hk3 hwf
      go_upto_region 5 with fail
      have HKB := Lib.hid (show Keep w3 ((w3.alloc (.cells #[.string ⟨#[97]⟩, .string ⟨#[98]⟩, .string ⟨#[99]⟩] 9)).alloc (.cells #[.slice (some ⟨w3.heap.size, 0, none⟩) 3 3] 34)) from (by repeat (first | exact Keep.refl _ | apply Keep.alloc | apply Keep.gro | apply Keep.drew | apply Keep.drewN)))
      have hnm : Sl ((w3.alloc (.cells #[.string ⟨#[97]⟩, .string ⟨#[98]⟩, .string ⟨#[99]⟩] 9)).alloc (.cells #[.slice (some ⟨w3.heap.size, 0, none⟩) 3 3] 34)) 1 nmV (some ⟨w3.heap.size, 0, none⟩) 3 names3 := sl_blk (xs := names3) (fun _ => rfl) ((at_alloc w3 [.string ⟨#[97]⟩, .string ⟨#[98]⟩, .string ⟨#[99]⟩] 9).keep' (by repeat (first | exact Keep.refl _ | apply Keep.alloc | apply Keep.gro | apply Keep.drew | apply Keep.drewN))) (by decide)
      have hnc : ((w3.alloc (.cells #[.string ⟨#[97]⟩, .string ⟨#[98]⟩, .string ⟨#[99]⟩] 9)).alloc (.cells #[.slice (some ⟨w3.heap.size, 0, none⟩) 3 3] 34)).cell? ⟨w3.heap.size + 1, 0, none⟩ = some (.slice (some ⟨w3.heap.size, 0, none⟩) 3 3) := by simp [go_sem]
      have hz4 : w3.heap.size + 1 < ((w3.alloc (.cells #[.string ⟨#[97]⟩, .string ⟨#[98]⟩, .string ⟨#[99]⟩] 9)).alloc (.cells #[.slice (some ⟨w3.heap.size, 0, none⟩) 3 3] 34)).heap.size := by simp
      generalize hw4 : World.alloc (World.alloc w3 _) _ = w4 at HKB hnm hnc hz4 ⊢
      clear hw4
      have hz3 := HK3.out.size
      generalize w3.heap.size = nb at hnm hnc hz4 hz3 ⊢
      have HK4 := Lib.hid (HK3.out.trans HKB.out)
      have HNM := Lib.hid hnm
      have HNC := Lib.hid hnc
      have HX1c := Lib.hid (HX1b.out.keep' HK4.out)
      clear hnm hnc HKB HK3
      have x10 := HX1c.out 0 _ rfl
      have x11 := HX1c.out 1 _ rfl
      have x12 := HX1c.out 2 _ rfl
      have x13 := HX1c.out 3 _ rfl
      have x14 := HX1c.out 4 _ rfl
      have hz24 := HK4.out.size
      have ha14 : a1 < w4.heap.size := by omega
      go_wp2_with (go_at_call 9; refine Zone.hold ?_)
      refine Zone.unhold ?_
      clear x10 x11 x12 x13 x14 HX1c
      refine (copy_any w2 w2.heap.size f HFB.out w4 HK4.out (by omega)).mono ?_
      rintro e w5 ⟨g, rfl, ⟨hge, hgin⟩, hk5⟩
      have hg5 := hgin w5.heap.size (.inr (Nat.le_refl _))
      have HG := Lib.hid hg5
      have HGE := Lib.hid hge
      have hgkl := hg5.kids_.len
      have hgvl := hg5.vals_.len
      have eg : g.v = .agg #[.int .u8 g.op, .slice g.A g.kids.length g.c, .string g.col, .int .u8 g.cmp, .slice g.B g.vals.length g.d] := rfl
      rw [eg]
      clear eg hgin hg5 hge
      go_upto_region 7 with fail
      have HKC := Lib.hid (show Keep w5 (w5.alloc (.cells #[.int .u8 g.op, .slice g.A g.kids.length g.c, .string g.col, .int .u8 g.cmp, .slice g.B g.vals.length g.d] 27)) from (by repeat (first | exact Keep.refl _ | apply Keep.alloc | apply Keep.gro | apply Keep.drew | apply Keep.drewN)))
      have hxg := at_alloc w5 [.int .u8 g.op, .slice g.A g.kids.length g.c, .string g.col, .int .u8 g.cmp, .slice g.B g.vals.length g.d] 27
      have hz6 : w5.heap.size < (w5.alloc (.cells #[.int .u8 g.op, .slice g.A g.kids.length g.c, .string g.col, .int .u8 g.cmp, .slice g.B g.vals.length g.d] 27)).heap.size := by simp
      generalize hw6 : World.alloc w5 _ = w6 at HKC hz6 ⊢
      rw [show w5.alloc (.cells #[.int .u8 g.op, .slice g.A g.kids.length g.c, .string g.col, .int .u8 g.cmp, .slice g.B g.vals.length g.d] 27) = w6 from hw6] at hxg
      clear hw6
      have hz5 := hk5.size
      generalize w5.heap.size = xb at hxg hz6 hz5 ⊢
      have HK6 := Lib.hid (HK4.out.trans (hk5.trans HKC.out))
      have HNM6 := Lib.hid (HNM.out.keep (hk5.trans HKC.out))
      have HNC6 := Lib.hid (((hk5.trans HKC.out).cell (World.block_lt_of_cell? _ _ HNC.out)).trans HNC.out)
      have HG6 := Lib.hid (HG.out.keep HKC.out)
      have HXG := Lib.hid hxg
      have HM6 := Lib.hid (HMB.out.keep HK6.out)
      have HCG := Lib.hid (cols_like HGE.out)
      have HOF := Lib.hid (of_restrict HNC6.out HNM6.out ((HK6.out.cell (World.block_lt_of_cell? _ _ HCL.out)).trans HCL.out) HM6.out (colsOf g) (by rw [HCG.out]; exact wf_cols HWF.out))
      have hzg : g.sz ≤ 1000000 := by rw [sz_like HGE.out]; exact hzf
      clear hxg hk5 HKC HG HNM HNC
      have y0 := HXG.out 0 _ rfl
      have y1 := HXG.out 1 _ rfl
      have y2 := HXG.out 2 _ rfl
      have y3 := HXG.out 3 _ rfl
      have y4 := HXG.out 4 _ rfl
      go_wp2_with (go_at_call 11; refine Zone.hold ?_)
      refine Zone.unhold ?_
      clear y0 y1 y2 y3 y4
      refine (restrict_f w6 _ g HG6.out w6 (Keep.refl _) hzg HOF.out).mono ?_
      rintro e w7 ⟨va, na, oka, rfl, hra, hk7⟩
      have HK7 := Lib.hid (HK6.out.trans hk7)
      have HX17 := Lib.hid (HX1b.out.keep' HK7.out)
      have HRA := Lib.hid hra
      have hz7 := hk7.size
      have h67 := Lib.hid hk7
      have hnc7 := (hk7.cell (World.block_lt_of_cell? _ _ HNC6.out)).trans HNC6.out
      have HNM7 := Lib.hid (HNM6.out.keep hk7)
      have HM7 := Lib.hid (HM6.out.keep hk7)
      clear hra hk7 HOF
      have x10 := HX17.out 0 _ rfl
      have x11 := HX17.out 1 _ rfl
      have x12 := HX17.out 2 _ rfl
      have x13 := HX17.out 3 _ rfl
      have x14 := HX17.out 4 _ rfl
      have ha17 : a1 < w7.heap.size := by omega
      have hn17 : nb + 1 < w7.heap.size := by omega
      go_wp2_with (go_at_call 12; refine Zone.hold ?_)
      refine Zone.unhold ?_
      clear x10 x11 x12 x13 x14 HX17
      obtain ⟨RA', Rc', er, hrs7⟩ := HM7.out.rows
      injection er with er1 _ er2
      subst er1; subst er2
      refine (rrestrict_any w2 _ f HFB.out w7 HK7.out hzf 1 HWF.out (some ⟨nb, 0, none⟩) RA 3 Rc m0 m1 m2 HNM7.out hrs7 (fun s _ => row_ok HM7.out HWS.out.1 HWS.out.2.1 HWS.out.2.2 s)).mono ?_
      rintro e w8 ⟨vb, nb', okb, rfl, hrb, hk8⟩
      obtain ⟨rfl, rfl, rs, rs2, hR1, hR2, hmap, hlen, hml⟩ := rest_like HGE.out HRA.out hrb
      have hll : rs2.length = rs.length := by have h := congrArg List.length hmap; rw [List.length_map, List.length_map] at h; exact h.symm
      have HMAP := Lib.hid hmap
      have HMLL := Lib.hid (show ∀ r ∈ rs, r.may.length ≤ 1000000 from fun r hr => by rw [hml r hr]; have := (pick_xs HM7.out r.col).2; omega)
      have hlen6 : rs.length ≤ 1000000 := Nat.le_trans hlen hzf
      obtain ⟨A7, c7, rfl, _⟩ := hR1.own.sl rs_len (by omega)
      obtain ⟨A8, c8, rfl, _⟩ := hR2.own.sl rs_len (by omega)
      have HR1 := Lib.hid (hR1.keep hk8)
      have HR2 := Lib.hid hR2
      have HK8 := Lib.hid (HK7.out.trans hk8)
      have h78 := hk8.size
      have HK68 := Lib.hid (h67.out.trans hk8)
      rw [hll] at HR2 ⊢
      obtain ⟨n, hn⟩ : ∃ n, rs.length = n := ⟨_, rfl⟩
      have HSAME := Lib.hid (fun W (hW : Keep w8 W) => rsame_any A7 A8 c7 c8 _ _ rs rs2 W (HR1.out.keep hW) (HR2.out.keep hW) HMAP.out hlen6 HMLL.out)
      rw [hn] at HSAME hlen6 ⊢
      clear hR1 hR2 hmap hlen hml hrb HRA hk8 hrs7 hn hll HMAP HR1 HR2 HMLL h67
      go_upto_region 9 with fail
      go_cut [67] from 54 to 67 (fun s67 wx => s67 = .bool false ∧ Hid (Keep w8 wx))
      case first =>
        cases oka <;> cases na
        all_goals
          go_wp2_with (go_at_call 13; refine (HSAME.out _ (by repeat (first | exact Keep.refl _ | apply Keep.alloc | apply Keep.gro | apply Keep.drew | apply Keep.drewN))).mono ?_; rintro e w' ⟨rfl, hkc⟩; obtain ⟨p, rfl⟩ := gro_of_below _ hkc; clear hkc)
          go_meet
          exact ⟨rfl, (by repeat (first | exact Keep.refl _ | apply Keep.alloc | apply Keep.gro | apply Keep.drew | apply Keep.drewN))⟩
      case rest =>
        obtain ⟨rfl, HK9⟩ := hcut
        rename World => w9
        have HK29 := Lib.hid (HK8.out.trans HK9.out)
        have HK69 := Lib.hid (HK68.out.trans HK9.out)
        clear HSAME HK8 HK9 HK68 h78 hz7 HNM7 HM7 hnc7 ha17 hn17
        have HX19 := Lib.hid (HX1b.out.keep' HK29.out)
        have x10 := HX19.out 0 _ rfl
        have x11 := HX19.out 1 _ rfl
        have x12 := HX19.out 2 _ rfl
        have x13 := HX19.out 3 _ rfl
        have x14 := HX19.out 4 _ rfl
        have hz9 := HK29.out.size
        have hz69 := HK69.out.size
        have ha19 : a1 < w9.heap.size := by omega
        go_wp2_with (go_at_call 14; refine Zone.hold ?_)
        refine Zone.unhold ?_
        clear x10 x11 x12 x13 x14 HX19
        refine (rcolumns_any w2 _ f HFB.out w9 HK29.out hzf).mono ?_
        rintro e w10 ⟨CA, Cc, rfl, hcs, hk10⟩
        have HK210 := Lib.hid (HK29.out.trans hk10)
        have HK610 := Lib.hid (HK69.out.trans hk10)
        have hz10 := hk10.size
        have HCS := Lib.hid hcs
        clear hcs hk10 HK29 HK69
        have hcl0 : (colsOf f).length ≤ 1000000 := Nat.le_trans (cols_len f) hzf
        obtain ⟨n2, hn2⟩ : ∃ n2, (colsOf f).length = n2 := ⟨_, rfl⟩
        rw [hn2] at hcl0 ⊢
        have HN2 := Lib.hid hn2
        clear hn2
        go_upto_if 72 with fail
        go_cut [18] from 70 to 127 (fun _ wx => Hid (Keep w10 wx))
        case first =>
          --DEVCUT
          by_cases h1 : n2 = 1
          · subst h1
            obtain ⟨s, hs⟩ : ∃ s, colsOf f = [s] := List.length_eq_one_iff.1 HN2.out
            have hws : s = nA ∨ s = nB ∨ s = nC := wf_cols HWF.out s (by rw [hs]; simp)
            have HWS2 := Lib.hid hws
            have HCS1 := Lib.hid (show Sl w10 1 nmV CA Cc [s] by have := HCS.out; rw [hs] at this; exact this)
            obtain ⟨ix, hil, e1, e2, e3⟩ : ∃ ix, ∃ h : ix < 3, names3[ix]'h = s ∧ (∀ j, (hj : j < 3) → names3[j]'hj = s → j = ix) ∧ [m0, m1, m2][ix]'h = pickM m0 m1 m2 s := ⟨ixN s, ix_lt s, ix_at s hws, ix_inj s hws, pick_ix m0 m1 m2 s⟩
            have HKI := Lib.hid (kindS_12 s)
            obtain ⟨m, hm⟩ : ∃ m, pickM m0 m1 m2 s = m := ⟨_, rfl⟩
            have hpk := pick_xs HM6.out s
            have hrow := row_ok HM6.out HWS.out.1 HWS.out.2.1 HWS.out.2.2 s
            rw [hm] at e3 hpk hrow
            have hn60 : m.xs.length ≤ 60 := hpk.2
            have HD := Lib.hid (hpk.1.d.keep HK610.out)
            have HRW := Lib.hid hrow
            have HXA := Lib.hid e1
            have HIX := Lib.hid e2
            have HXP := Lib.hid e3
            have HS := Lib.hid hs
            have HPS := Lib.hid (HM6.out.ptrs)
            have HRS := Lib.hid (HM6.out.rows)
            obtain ⟨o, ho⟩ : ∃ o, oneF (kindS s) m.xs f = o := ⟨_, rfl⟩
            obtain ⟨n, hn⟩ : ∃ n, m.xs.length = n := ⟨_, rfl⟩
            have HON := Lib.hid (fun W (hW : Keep w10 W) => one_f m.b (kindS s) m.A m.c m.xs w6 _ g HG6.out HKI.out (by omega) W (HK610.out.trans hW) (HD.out.keep hW) hzg)
            have HLE := Lib.hid (fun W (hW : Keep w10 W) => leaf_f m.b (kindS s) m.A m.c m.xs w6 _ g HG6.out W (HK610.out.trans hW) (HD.out.keep hW) HKI.out (by omega))
            have HRO := Lib.hid (fun (cb : ByteArray) (hcb : cb.data.toList = s) W (hW : Keep w10 W) => rone_any w10 _ cb s hcb m.RA m.Rc m.xs (hrow.sl.keep HK610.out) hrow.kind hrow.big hrow.len f (HFB.out.keep HK210.out) 1 HWF.out (by rw [HS.out]; simp) W hW)
            have HOL := Lib.hid (show o.length = n by rw [← ho, oneF_len, hn])
            have HLK := Lib.hid (show g.op = 4 → leafF (kindS s) m.xs g = o from fun h => by rw [leaf_is_one h, one_like HGE.out, ho])
            rw [one_like HGE.out, ho, hn] at HON
            rw [ho, hn] at HRO
            rw [hn] at hn60
            have HNN := Lib.hid hn
            have HGO := Lib.hid (op_like HGE.out)
            clear hs e1 e2 e3 hm hpk hrow ho hn HCS hws
            have nc10 := (HK610.out.cell (World.block_lt_of_cell? _ _ HNC6.out)).trans HNC6.out
            go_wp2
            clear nc10
            go_loopw [75] (fun i wr => ∃ q : Nat, q ≤ 3 ∧ i = .int .i64 q ∧ Hid (Keep w10 wr)) (fun i _ => 3 - (intOf i).toNat)
            case atStart => exact ⟨0, Nat.zero_le _, rfl, Keep.refl _⟩
            case round =>
              obtain ⟨q, hq, rfl, HKQ⟩ := hrel
              by_cases hq3 : q < 3
              · have HKQ2 := Lib.hid (HK210.out.trans HKQ.out)
                have HKQ6 := Lib.hid (HK610.out.trans HKQ.out)
                have nc := (HKQ6.out.cell (World.block_lt_of_cell? _ _ HNC6.out)).trans HNC6.out
                have nl := World.block_lt_of_cell? _ _ nc
                obtain ⟨nb', no, hNA, hnb, n0⟩ := sl_nm (HNM6.out.keep HKQ6.out) q hq3
                cases hNA
                obtain ⟨cb, co, hCA, hcb, c0⟩ := sl_nm (HCS1.out.keep HKQ.out) 0 (by simp)
                subst hCA
                obtain ⟨x, hxe, hxl⟩ := enc_out (names3[q]'hq3)
                obtain ⟨y, hye, hyl⟩ := enc_out s
                rw [hxe] at n0
                replace c0 := c0.trans (congrArg some hye)
                have HXL := Lib.hid hxl
                have HYL := Lib.hid hyl
                have HYC := Lib.hid (show y.data.toList = s by rw [← Lib.toList_data]; exact hyl)
                clear hxe hye hxl hyl
                simp only [Nat.add_zero] at c0
                simp only [Nat.zero_add] at n0
                by_cases hqx : q = ix
                · subst hqx
                  have he : (x.toList == y.toList) = true := by rw [HXL.out, HYL.out, HXA.out]; simp
                  obtain ⟨PA, Pc, hPe, hPS⟩ := HPS.out
                  cases hPe
                  obtain ⟨RA1, Rc1, hRe, hRS⟩ := HRS.out
                  cases hRe
                  obtain ⟨pb, po, hPA, hpb, p0⟩ := sl_ptr (hPS.keep HKQ6.out) q hq3
                  subst hPA
                  obtain ⟨rb, ro, hRA, hrb, r0⟩ := sl_row (hRS.keep HKQ6.out) q hq3
                  subst hRA
                  rw [HXP.out] at p0 r0
                  rw [HNN.out] at r0
                  have l0 := (HKQ2.out.cell (World.block_lt_of_cell? _ _ HCL.out)).trans HCL.out
                  have ll := World.block_lt_of_cell? _ _ l0
                  have HXgq := Lib.hid (HXG.out.keep' HKQ6.out)
                  have HXfq := Lib.hid (HX1b.out.keep' HKQ2.out)
                  have zg : xb < wr.heap.size := by have := HKQ6.out.size; omega
                  have zf : a1 < wr.heap.size := by have := HKQ2.out.size; omega
                  have hoq : xb < wr.heap.size := zg
                  clear hPS hRS HXL HYL
                  go_wp2
                  first | refine Zone.wp_region_all_gro (by kernel_rfl) (by kernel_rfl) ?_ | refine Zone.wp_region_all (by kernel_rfl) (by kernel_rfl) ?_
                  repeat
                    refine Zone.wpZ_step (fun K hK => ?_)
                    go_simp
                    first
                    | (refine hK _ _ ?_; clear hK K)
                    | (apply Exists.intro
                       refine ⟨fun p => ?_, hK _ _ ?_⟩
                       (fail)
                       clear hK K)
                  refine Zone.wpZ_nil ?_
                  intro p
                  simp only [Zone.fill]
                  clear n0 he nc nl hnb
                  go_wp2
                  first | refine Zone.wp_region_all_gro (by kernel_rfl) (by kernel_rfl) ?_ | refine Zone.wp_region_all (by kernel_rfl) (by kernel_rfl) ?_
                  iterate 4
                    refine Zone.wpZ_step (fun K hK => ?_)
                    go_simp
                    (refine hK _ _ ?_; clear hK K)
                  have y0 := HXgq.out 0 _ rfl
                  have y1 := HXgq.out 1 _ rfl
                  have y2 := HXgq.out 2 _ rfl
                  have y3 := HXgq.out 3 _ rfl
                  have y4 := HXgq.out 4 _ rfl
                  refine Zone.wpZ_step (fun K hK => ?_)
                  go_simp
                  (refine hK _ _ ?_; clear hK K)
                  clear y0 y1 y2 y3 y4
                  refine Zone.wpZ_free 91 (OneR wr.heap.size n o) rfl OneR.mono ?_ ?_
                  · intro p2
                    simp only [Zone.fill, Zone.lookFs, List.filter_nil]
                    go_simp
                    go_at_call 16
                    refine (HON.out _ (HKQ.out.trans (by repeat (first | exact Keep.refl _ | apply Keep.alloc | apply Keep.gro | apply Keep.drew | apply Keep.drewN)))).mono ?_
                    rintro e w5 ⟨v5, rfl, hr5, hk5⟩
                    exact ⟨v5, rfl, hr5.base (by first | (simp [size_gro]; done) | (simp [size_gro]; omega)), hk5⟩
                  iterate 7
                    refine Zone.wpZ_step (fun K hK => ?_)
                    unfold Zone.zone Zone.stepZ
                    rw [Zone.lookFs_nil (by rfl)]
                    go_simp
                    (refine hK _ _ ?_; clear hK K)
                  have x0 := HXfq.out 0 _ rfl
                  have x1 := HXfq.out 1 _ rfl
                  have x2 := HXfq.out 2 _ rfl
                  have x3 := HXfq.out 3 _ rfl
                  have x4 := HXfq.out 4 _ rfl
                  refine Zone.wpZ_step (fun K hK => ?_)
                  unfold Zone.zone Zone.stepZ
                  rw [Zone.lookFs_nil (by rfl)]
                  go_simp
                  (refine hK _ _ ?_; clear hK K)
                  clear x0 x1 x2 x3 x4
                  refine Zone.wpZ_free 100 (OneR wr.heap.size n o) rfl OneR.mono ?_ ?_
                  · intro p2
                    rw [Zone.lookFs_nil (by rfl)]
                    simp only [Zone.fill]
                    go_simp
                    go_at_call 17
                    refine (HRO.out y HYC.out _ (HKQ.out.trans (by repeat (first | exact Keep.refl _ | apply Keep.alloc | apply Keep.gro | apply Keep.drew | apply Keep.drewN)))).mono ?_
                    rintro e w5 ⟨v5, rfl, hr5, hk5⟩
                    exact ⟨v5, rfl, oneR_of (hr5.base_mono (by first | (simp [size_gro]; done) | (simp [size_gro]; omega))) HOL.out (by omega), hk5⟩
                  refine Zone.wpZ_step (fun K hK => ?_)
                  refine zone_free2 (.bool true) (d1 := 100) (d2 := 91) (by rfl) (fun p v1 v2 h1 h2 => ?_) (hK _ _ ?_)
                  · have h9 := flags_same h2 h1 HOL.out hn60
                    obtain ⟨A8, c8, rfl, hs8⟩ := h1
                    obtain ⟨A9, c9, rfl, hs9⟩ := h2
                    clear hs8 hs9
                    go_simp
                    go_at_call 15
                    exact Zone.zc h9
                  clear hK K
                  iterate 3
                    refine Zone.wpZ_step (fun K hK => ?_)
                    unfold Zone.zone Zone.stepZ
                    rw [Zone.lookFs_nil (by rfl)]
                    go_simp
                    (refine hK _ _ ?_; clear hK K)
                  by_cases h4 : f.op = 4
                  · have x0 := HXfq.out 0 _ rfl
                    rw [h4] at x0
                    have HL4 := Lib.hid (HLK.out (HGO.out.trans h4))
                    clear h4
                    refine Zone.wpZ_step (fun K hK => ?_)
                    unfold Zone.zone Zone.stepZ
                    rw [Zone.lookFs_nil (by rfl)]
                    go_simp
                    (refine hK _ _ ?_; clear hK K)
                    clear x0
                    iterate 6
                      refine Zone.wpZ_step (fun K hK => ?_)
                      unfold Zone.zone Zone.stepZ
                      rw [Zone.lookFs_nil (by rfl)]
                      go_simp
                      (refine hK _ _ ?_; clear hK K)
                    have y0 := HXgq.out 0 _ rfl
                    have y1 := HXgq.out 1 _ rfl
                    have y2 := HXgq.out 2 _ rfl
                    have y3 := HXgq.out 3 _ rfl
                    have y4 := HXgq.out 4 _ rfl
                    refine Zone.wpZ_step (fun K hK => ?_)
                    unfold Zone.zone Zone.stepZ
                    rw [Zone.lookFs_nil (by rfl)]
                    go_simp
                    (refine hK _ _ ?_; clear hK K)
                    clear y0 y1 y2 y3 y4
                    refine Zone.wpZ_free 113 (OneR wr.heap.size n o) rfl OneR.mono ?_ ?_
                    · intro p2
                      rw [Zone.lookFs_nil (by rfl)]
                      simp only [Zone.fill]
                      go_simp
                      go_at_call 18
                      refine (HLE.out _ (HKQ.out.trans (by repeat (first | exact Keep.refl _ | apply Keep.alloc | apply Keep.gro | apply Keep.drew | apply Keep.drewN)))).mono ?_
                      rintro e w5 ⟨v5, rfl, hr5, hk5⟩
                      rw [HL4.out] at hr5
                      exact ⟨v5, rfl, oneR_of (hr5.base_mono (by first | (simp [size_gro]; done) | (simp [size_gro]; omega))) HOL.out (by omega), hk5⟩
                    iterate 7
                      refine Zone.wpZ_step (fun K hK => ?_)
                      unfold Zone.zone Zone.stepZ
                      rw [Zone.lookFs_nil (by rfl)]
                      go_simp
                      (refine hK _ _ ?_; clear hK K)
                    have x0 := HXfq.out 0 _ rfl
                    have x1 := HXfq.out 1 _ rfl
                    have x2 := HXfq.out 2 _ rfl
                    have x3 := HXfq.out 3 _ rfl
                    have x4 := HXfq.out 4 _ rfl
                    refine Zone.wpZ_step (fun K hK => ?_)
                    unfold Zone.zone Zone.stepZ
                    rw [Zone.lookFs_nil (by rfl)]
                    go_simp
                    (refine hK _ _ ?_; clear hK K)
                    clear x0 x1 x2 x3 x4
                    refine Zone.wpZ_free 122 (OneR wr.heap.size n o) rfl OneR.mono ?_ ?_
                    · intro p2
                      rw [Zone.lookFs_nil (by rfl)]
                      simp only [Zone.fill]
                      go_simp
                      go_at_call 17
                      refine (HRO.out y HYC.out _ (HKQ.out.trans (by repeat (first | exact Keep.refl _ | apply Keep.alloc | apply Keep.gro | apply Keep.drew | apply Keep.drewN)))).mono ?_
                      rintro e w5 ⟨v5, rfl, hr5, hk5⟩
                      exact ⟨v5, rfl, oneR_of (hr5.base_mono (by first | (simp [size_gro]; done) | (simp [size_gro]; omega))) HOL.out (by omega), hk5⟩
                    refine Zone.wpZ_step (fun K hK => ?_)
                    refine zone_free2 (.bool true) (d1 := 122) (d2 := 113) (by rfl) (fun p v1 v2 h1 h2 => ?_) (hK _ _ ?_)
                    · have h9 := flags_same h2 h1 HOL.out hn60
                      obtain ⟨A8, c8, rfl, hs8⟩ := h1
                      obtain ⟨A9, c9, rfl, hs9⟩ := h2
                      clear hs8 hs9
                      go_simp
                      go_at_call 15
                      exact Zone.zc h9
                    clear hK K
                    iterate 3
                      refine Zone.wpZ_step (fun K hK => ?_)
                      unfold Zone.zone Zone.stepZ
                      rw [Zone.lookFs_nil (by rfl)]
                      go_simp
                      (refine hK _ _ ?_; clear hK K)
                    refine Zone.wpZ_nil ?_
                    intro p2
                    simp only [Zone.fill]
                    rintro v1 _ v2 _ v3 _ v4 _
                    go_simp
                    go_wp2
                    go_roundw
                    case rel =>
                      iterate 55 apply Exists.intro
                      refine And.intro ?_ rfl
                      exact ⟨q + 1, by omega, by go_num, HKQ.out.trans (by repeat (first | exact Keep.refl _ | apply Keep.alloc | apply Keep.gro | apply Keep.drew | apply Keep.drewN))⟩
                      all_goals exact undef
                    case measure => simp [intOf]; omega
                  · have x0 := HXfq.out 0 _ rfl
                    have hf4 : ((f.op : Int) == 4) = false := by simpa using h4
                    clear h4
                    refine Zone.wpZ_step (fun K hK => ?_)
                    unfold Zone.zone Zone.stepZ
                    rw [Zone.lookFs_nil (by rfl)]
                    go_simp
                    (refine hK _ _ ?_; clear hK K)
                    clear x0
                    iterate 21
                      refine Zone.wpZ_step (fun K hK => ?_)
                      unfold Zone.zone Zone.stepZ
                      rw [Zone.lookFs_nil (by rfl)]
                      go_simp
                      (refine hK _ _ ?_; clear hK K)
                    refine Zone.wpZ_nil ?_
                    intro p2
                    simp only [Zone.fill]
                    rintro v1 _ v2 _
                    go_simp
                    go_wp2
                    go_roundw
                    case rel =>
                      iterate 55 apply Exists.intro
                      refine And.intro ?_ rfl
                      exact ⟨q + 1, by omega, by go_num, HKQ.out.trans (by repeat (first | exact Keep.refl _ | apply Keep.alloc | apply Keep.gro | apply Keep.drew | apply Keep.drewN))⟩
                      all_goals exact undef
                    case measure => simp [intOf]; omega
                · have he : (x.toList == y.toList) = false := by rw [HXL.out, HYL.out]; exact beq_eq_false_iff_ne.2 fun e => hqx (HIX.out q hq3 e)
                  clear hqx
                  go_wp2
                  first | refine Zone.wp_region_all_gro (by kernel_rfl) (by kernel_rfl) ?_ | refine Zone.wp_region_all (by kernel_rfl) (by kernel_rfl) ?_
                  repeat
                    refine Zone.wpZ_step (fun K hK => ?_)
                    go_simp
                    first
                    | (refine hK _ _ ?_; clear hK K)
                    | (apply Exists.intro
                       refine ⟨fun p => ?_, hK _ _ ?_⟩
                       (fail)
                       clear hK K)
                  refine Zone.wpZ_nil ?_
                  intro p
                  simp only [Zone.fill]
                  go_wp2
                  go_roundw
                  case rel =>
                    iterate 55 apply Exists.intro
                    refine And.intro ?_ rfl
                    exact ⟨q + 1, by omega, by go_num, HKQ.out.trans (by repeat (first | exact Keep.refl _ | apply Keep.alloc | apply Keep.gro | apply Keep.drew | apply Keep.drewN))⟩
                    all_goals exact undef
                  case measure => simp [intOf]; omega
              · have : q = 3 := by omega
                subst this
                go_wp2
                go_meet
                exact HKQ.out.trans (by repeat (first | exact Keep.refl _ | apply Keep.alloc | apply Keep.gro | apply Keep.drew | apply Keep.drewN))
          · have hb1 : ((n2 : Int) == 1) = false := by simp; omega
            go_wp2
            go_meet
            exact (by repeat (first | exact Keep.refl _ | apply Keep.alloc | apply Keep.gro | apply Keep.drew | apply Keep.drewN))
          --DEVEND
        case rest =>
          rename World => w11
          have HK11 := hcut
          have HK211 := Lib.hid (HK210.out.trans HK11.out)
          have HK611 := Lib.hid (HK610.out.trans HK11.out)
          clear HK210 HK610 HK11 hcut HCS
          have HXf := Lib.hid (HX1b.out.keep' HK211.out)
          have HXg := Lib.hid (HXG.out.keep' HK611.out)
          go_upto_region 20 with fail
          refine Zone.wp_two (d0 := 128) (d1 := 129) (d2 := 130) (d3 := 131) (d4 := 19) (d5 := 20) (V0 := g.v) (V1 := .agg (qzC g).toArray) (V2 := f.v) (V3 := .agg (qzC f).toArray) (cz := qzZ.toArray) (c1 := (qzC g).toArray) (c2 := (qzC f).toArray) (ty := 56) (by kernel_rfl) (by kernel_rfl) (by decide) ?lt
            ⟨rfl, Zone.free_of (by kernel_rfl), rfl, Zone.edge_of (by kernel_rfl), Zone.edge_of (by kernel_rfl), Zone.edge_two (by kernel_rfl) (by kernel_rfl), Zone.edge_two (by kernel_rfl) (by kernel_rfl), ?r0, ?r1, ?r2, ?r3, ?r4, ?r5, ?r6, ?r7⟩ ?go
          case lt =>
            intro d hd
            simp only [List.mem_cons, List.not_mem_nil, or_false] at hd
            rcases hd with rfl | rfl | rfl | rfl | rfl | rfl
            · exact (by decide : 128 < 138)
            · exact (by decide : 129 < 138)
            · exact (by decide : 130 < 138)
            · exact (by decide : 131 < 138)
            · exact (by decide : 19 < 138)
            · exact (by decide : 20 < 138)
          case r0 =>
            intro o ho b W hf hk
            obtain rfl := Option.some.inj (show some _ = some o from ho)
            exact op_load _ _ _ g xb (.tmp 9) rfl ((hf 9 (by decide)).trans rfl) (HXg.out.keep' hk)
          case r2 =>
            intro o ho b W hf hk
            obtain rfl := Option.some.inj (show some _ = some o from ho)
            exact op_load _ _ _ f a1 (.tmp 3) rfl ((hf 3 (by decide)).trans rfl) (HXf.out.keep' hk)
          case r1 =>
            intro o ho b W hf
            obtain rfl := Option.some.inj (show some _ = some o from ho)
            exact op_build _ _ _ g (.tmp 128) rfl hf
          case r3 =>
            intro o ho b W hf
            obtain rfl := Option.some.inj (show some _ = some o from ho)
            exact op_build _ _ _ f (.tmp 130) rfl hf
          case r4 =>
            intro o ho b W
            obtain rfl := Option.some.inj (show some _ = some o from ho)
            exact op_alloc _ _ _ rfl
          case r5 =>
            intro o ho b W
            obtain rfl := Option.some.inj (show some _ = some o from ho)
            exact op_alloc _ _ _ rfl
          case r6 =>
            intro o ho b W q k1 k2 k3
            obtain rfl := Option.some.inj (show some _ = some o from ho)
            exact op_store _ _ _ q g (.tmp 19) (.tmp 129) rfl k1 k2 k3
          case r7 =>
            intro o ho b W q k1 k2 k3
            obtain rfl := Option.some.inj (show some _ = some o from ho)
            exact op_store _ _ _ q f (.tmp 20) (.tmp 131) rfl k1 k2 k3
          case go =>
            intro wz q1 q2 hkz _ _ _ hq1 hq2 hr1 hr2
            have HKZ := Lib.hid hkz
            have HQ1 := Lib.hid (at_of_row hr1)
            have HQ2 := Lib.hid (at_of_row hr2)
            clear hkz hr1 hr2
            have HZ := Lib.hid (HK211.out.trans HKZ.out)
            have HZ6 := Lib.hid (HK611.out.trans HKZ.out)
            have HSQ := Lib.hid (fun W (hW : Keep wz W) => sameq_any wz _ _ g f (HG6.out.keep HZ6.out) (HFB.out.keep HZ.out) HGE.out W hW)
            rw [qzC_v] at HQ1 HQ2
            have x0 := HQ1.out 0 _ rfl
            have x1 := HQ1.out 1 _ rfl
            have x2 := HQ1.out 2 _ rfl
            have x3 := HQ1.out 3 _ rfl
            have x4 := HQ1.out 4 _ rfl
            have x5 := HQ1.out 5 _ rfl
            have x6 := HQ1.out 6 _ rfl
            have x7 := HQ1.out 7 _ rfl
            have x8 := HQ1.out 8 _ rfl
            have x9 := HQ1.out 9 _ rfl
            have x10 := HQ1.out 10 _ rfl
            have x11 := HQ1.out 11 _ rfl
            have x12 := HQ1.out 12 _ rfl
            have x13 := HQ1.out 13 _ rfl
            have x14 := HQ1.out 14 _ rfl
            have x15 := HQ1.out 15 _ rfl
            have y0 := HQ2.out 0 _ rfl
            have y1 := HQ2.out 1 _ rfl
            have y2 := HQ2.out 2 _ rfl
            have y3 := HQ2.out 3 _ rfl
            have y4 := HQ2.out 4 _ rfl
            have y5 := HQ2.out 5 _ rfl
            have y6 := HQ2.out 6 _ rfl
            have y7 := HQ2.out 7 _ rfl
            have y8 := HQ2.out 8 _ rfl
            have y9 := HQ2.out 9 _ rfl
            have y10 := HQ2.out 10 _ rfl
            have y11 := HQ2.out 11 _ rfl
            have y12 := HQ2.out 12 _ rfl
            have y13 := HQ2.out 13 _ rfl
            have y14 := HQ2.out 14 _ rfl
            have y15 := HQ2.out 15 _ rfl
            clear HQ1 HQ2 HXf HXg
            simp only [qzC_v]
            go_simp
            go_wp2_with (go_at_call 19; refine Zone.hold ?_)
            refine Zone.unhold ?_
            clear x0 x1 x2 x3 x4 x5 x6 x7 x8 x9 x10 x11 x12 x13 x14 x15 y0 y1 y2 y3 y4 y5 y6 y7 y8 y9 y10 y11 y12 y13 y14 y15
            refine (HSQ.out _ (by repeat (first | exact Keep.refl _ | apply Keep.alloc | apply Keep.gro | apply Keep.drew | apply Keep.drewN))).mono ?_
            rintro e w5 ⟨rfl, hk5⟩
            obtain ⟨p5, rfl⟩ := gro_of_below _ hk5
            clear hk5
            go_wp2_with (go_at_call 8; refine (KN.out _).mono ?_; rintro e w' ⟨rfl, hk⟩; (first | obtain ⟨p, rfl⟩ := Zone.gro_of_gro _ _ hk | obtain ⟨p, rfl⟩ := Zone.gro_of_below _ hk); clear hk)
            go_ret
            exact ⟨rfl, HKW.out.trans (HZ.out.trans (by repeat (first | exact Keep.refl _ | apply Keep.alloc | apply Keep.gro | apply Keep.drew | apply Keep.drewN)))⟩
end Go.Proofs.YthigflnfccajoaaGreat
/- IdsRestrict: where what it reads is of the given bulk the law answers true, and what it is handed reads as before. -/
namespace Go.Proofs.YthigflnfccajoaaGreat
open Go.ChangeShapes Go.WideShapes Go.ChangeAt Go.RowKit Go.Zone Go.ChangeMaps
theorem pars_res : Tryz.f3.params = #[24, 27] := by kernel_rfl
set_option maxRecDepth 100000 in
theorem res_lifted (os : Os) (started : os.Started) (H : Type) (enc : TypeId × Value → H) (F : Stop.Interp) :
    ReturnsInHanded {} Tryz.checked os 3 .any ((Rows.OpenSpec.upto Rows.idsRestrictSpec).pre6 enc Tryz.prog Tryz.f3 Rows.idsRestrictUptoRow.domain false) (((Rows.OpenSpec.upto Rows.idsRestrictSpec).at F).post enc Tryz.prog Tryz.f3 false true false false) := by
  refine returnsInHanded_of_cond_sized (C := Tryz.checked) (s := Rows.OpenSpec.upto Rows.idsRestrictSpec) (k := Rows.uptoSmall) rfl own_ started (by kernel_rfl) Tryz.func3
    (OpenSpec.witness (enc := enc) (C := Tryz.checked) (s := Rows.OpenSpec.upto Rows.idsRestrictSpec) (k := Rows.uptoSmall) rfl false ⟨#[], #[.agg #[.slice none 0 0, .slice none 0 0, .slice none 0 0], .agg #[.int .u8 0, .slice none 0 0, .string ⟨#[]⟩, .int .u8 0, .slice none 0 0]], []⟩ 8 (by kernel_rfl) (by kernel_rfl) (by kernel_rfl)
      (x := ([.agg [.nil, .nil, .nil], .agg [.lit (.int .u8 0), .nil, .lit (.string []), .lit (.int .u8 0), .nil]], [], [])) (by kernel_rfl) rfl (by kernel_rfl)) ?_
  intro W base args ds gs before hval0 hW hcnd hk hz _
  have hval : ∀ (j : Nat) t v, Tryz.f3.params[j]? = some t → args[j]? = some v → Value.okWide Tryz.prog W .any base t v := hval0
  have hW' := hW
  obtain ⟨p, q, hA0, hV, rfl, hfz, hnd⟩ := hW
  have hA : DataW.TrodAll enc Tryz.prog W 0 (fun _ => true) true Tryz.f3.params.toList args.toList ds p := hA0
  rw [pars_res] at hA hval
  obtain ⟨v0, v1, d0, d1, p0, p1, rfl, rfl, rfl, h0, h1⟩ := trodAll_two hA
  obtain ⟨rfl, rfl⟩ := trodVars_none hV
  have hb : ∀ x ∈ p0 ++ p1 ++ [], x.block < W.heap.size := fun x hx => by simpa using hW'.lt x hx
  have hk3 : Rows.uptoBulkAll ([d0, d1] ++ []) ≤ 1048576 := of_decide_eq_true hk
  simp only [List.cons_append, List.nil_append, Rows.uptoBulkAll] at hk3
  obtain ⟨A0, c0, xs0, A1, c1, xs1, A2, c2, xs2, rfl, s0, s1, s2, w0, w1, w2⟩ := open_dicts (hval 0 _ v0 rfl rfl) h0 (by omega)
  obtain ⟨f, rfl, hf, hfz2⟩ := open_filter (hval 1 _ v1 rfl rfl) h1 (by omega)
  clear hA0 hval0 hk hk3
  simp only [List.append_nil] at hW'
  refine (restrict_law A0 c0 xs0 A1 c1 xs1 A2 c2 xs2 f W s0 s1 s2 (fun x hx => (w0 x hx).s) (fun x hx => (w1 x hx).s) (fun x hx => (w2 x hx).s) hf (by omega)).mono fun e W' ⟨he, hgr⟩ => ?_
  subst he
  exact ⟨_, rfl, post_of_below (pa := p0 ++ p1) (pv := []) hW' (fun _ _ _ => trodAll_mk1 (shut_bool u_bool _))
    (fun sp hsp => trodAll_mk2 (stays laid_ (by kernel_rfl) (of_decide_eq_true (by kernel_rfl)) h0 hgr (fun y hy => hb y (by simp [hy])) (fun y hy => hsp y (by simp [hy])))
      (stays laid_ (by kernel_rfl) (of_decide_eq_true (by kernel_rfl)) h1 hgr (fun y hy => hb y (by simp [hy])) (fun y hy => hsp y (by simp [hy])))) (fun _ _ => rfl) (by simp)
    hgr (ok_one (by kernel_rfl) rfl (okWide_bool_mk u_bool _))⟩
theorem restrict_holds : Rows.IdsRestrictUptoSaid :=
  OpenClaim.holds_of_cond 3 Tryz.f3 rfl rfl rfl rfl rfl rfl rfl ⟨rfl, rfl, rfl, rfl, rfl⟩ rfl rfl rfl rfl rfl (by kernel_rfl) Tryz.func3 (by kernel_rfl)
    (of_decide_eq_true (by kernel_rfl)) (by unfold Func.isWrapper; first | (rw [if_pos (by decide +kernel)]; kernel_rfl) | (rw [if_neg (by decide +kernel)]; exact ⟨rfl, rfl⟩))
    (fun os started H enc _ F => res_lifted os started H enc F)
#print axioms restrict_holds
end Go.Proofs.YthigflnfccajoaaGreat
