
/- Arguments opened: a list of values; a value. -/
import Derived.Deep.Slices
import Derived.Deep.Fields
import Derived.ChangeSame
import Derived.Lib.SmallJoins
import Derived.Carry
import Derived.SizedLaws
import Derived.Below
import Derived.ShutString
import Derived.Test.YtmcaednlilhnoaaGreatDoorChecked
import Derived.Test.YtmcaednlilhnoaaGreatDoorJc
import Derived.Test.YtmcaednlilhnoaaGreatDoorJa
namespace Go.Proofs.YtmcaednlilhnoaaGreatDoor
open Go.RowKit Go.Zone Go.ChangeShapes Go.WideShapes Go.Deep Go.Joins Go.ChangeMaps
section
variable {H : Type} {enc : TypeId × Value → H} {P : Program} {w : World} {base : Nat} {spare : Nat → Bool} {held : Bool}
theorem open_slice_fields {t e : TypeId} {fs : Array Field} {fuel : Nat} {cs : List Value} {x : DataW H × List MemPlace} (ht : P.underlying t = some (.slice e)) (he : P.underlying e = some (.struct fs))
    (hone : oneCellFields P fs = true) (hC : P.cellsOf e = fs.size) (h : DataW.trod enc P w base spare held fuel t cs = some x) :
    (cs = [.slice none 0 0] ∧ x = (.nil, [])) ∨
    ∃ (a : Addr) (len cap m : Nat) (D : Nat → DataW H) (Pl : Nat → List MemPlace), cs = [.slice (some a) len cap] ∧ base ≤ a.block ∧ len ≤ cap ∧ cap ≤ maxLen ∧ m = (if spare a.block then cap else len) ∧
      x = (.slice ((List.range len).map D) ((List.range (m - len)).map fun j => D (len + j)), MemPlace.row a (m * fs.size) ++ (List.range m).flatMap Pl) ∧
      ∀ i, i < m → ∃ (ys : List (DataW H × List MemPlace)) (n : Nat), D i = .agg (ys.map (·.1)) ∧ Pl i = ys.flatMap (·.2) ∧ ys.length = fs.size ∧
        ∀ (j : Nat) (f : Field), fs[j]? = some f → ∃ (v : Value) (y : DataW H × List MemPlace), w.cell? (a.add (i * fs.size + j)) = some v ∧ ys[j]? = some y ∧ DataW.trod enc P w base spare held n f.type [v] = some y := by
  rcases open_slice ht h with h0 | ⟨a, len, cap, m, n, D, Pl, hcs, hb, hl, hm, hmm, hx, hi⟩
  · exact .inl h0
  · refine .inr ⟨a, len, cap, m, D, Pl, hcs, hb, hl, hm, hmm, by rw [hC] at hx; exact hx, fun i him => ?_⟩
    obtain ⟨cs', hc, ht'⟩ := hi i him
    rw [hC] at hc
    obtain ⟨ys, n', hn', hy, hlen, hyl, hf⟩ := DataW.trod_struct he ht'
    obtain ⟨_, hcl, hat⟩ := World.cells?_some hc
    simp only [Prod.mk.injEq] at hy
    refine ⟨ys, n', hy.1, hy.2, hyl, fun j f hj => ?_⟩
    obtain ⟨ho, hk⟩ := hone_of hone j f hj
    have hjl : j < fs.size := (Array.getElem?_eq_some_iff.1 hj).1
    have hcell := hat j hjl
    have hv : cs'[j]? = some (cs'[j]'(by omega)) := List.getElem?_eq_getElem (by omega)
    have h1 := hf j f hj
    rw [ho, hk] at h1
    have hone' : (cs'.drop j).take 1 = [cs'[j]'(by omega)] := by
      rw [List.drop_eq_getElem_cons (by omega)]
      rfl
    rw [hone'] at h1
    have hys : ys[j]? = some (ys[j]'(by omega)) := List.getElem?_eq_getElem (by omega)
    refine ⟨_, _, ?_, hys, h1.trans hys⟩
    rw [← Go.Deep.add_add, hcell, hv]
/-- a function on numbers below n, as a list -/
theorem choose_list {α : Type} {Q : Nat → α → Prop} (n : Nat) (h : ∀ i, i < n → ∃ a, Q i a) : ∃ l : List α, l.length = n ∧ ∀ i, (hi : i < l.length) → Q i l[i] := by
  induction n with
  | zero => exact ⟨[], rfl, fun i hi => absurd hi (Nat.not_lt_zero _)⟩
  | succ n ih =>
    obtain ⟨l, hl, hq⟩ := ih fun i hi => h i (by omega)
    obtain ⟨a, ha⟩ := h n (by omega)
    refine ⟨l ++ [a], by simp [hl], fun i hi => ?_⟩
    rcases Nat.lt_or_ge i l.length with h1 | h1
    · rw [List.getElem_append_left h1]; exact hq i h1
    · have : i = n := by simp at hi; omega
      subst this
      have h2 : (l ++ [a])[i]'hi = a := by rw [List.getElem_append_right (by omega)]; simp [hl]
      rw [h2]; exact ha
end
/-- a value as the program may have it -/
structure WfV (x : Val) : Prop where
  k : (Lit.int .u8 x.k).wf = true
  n : (Lit.int .i64 x.n).wf = true
  s : x.s.size ≤ maxLen
theorem u_vals : Tryz.prog.underlying 33 = some (.slice 61) := by kernel_rfl
def valTest (P : Program) (t : TypeId) : Bool := match P.underlying t with
  | some (.struct ⟨[f0, f1, f2]⟩) => oneCellFields P #[f0, f1, f2] && (match P.underlying f0.type, P.underlying f1.type, P.underlying f2.type with | some (.int .u8), some (.int .i64), some .string => true | _, _, _ => false)
  | _ => false
theorem u_val : ∃ f0 f1 f2, Tryz.prog.underlying 61 = some (.struct #[f0, f1, f2]) ∧ oneCellFields Tryz.prog #[f0, f1, f2] = true ∧ Tryz.prog.underlying f0.type = some (.int .u8) ∧ Tryz.prog.underlying f1.type = some (.int .i64) ∧ Tryz.prog.underlying f2.type = some .string := by
  have h : valTest Tryz.prog 61 = true := by kernel_rfl
  unfold valTest at h
  split at h
  · rename_i f0 f1 f2 hs
    rw [Bool.and_eq_true] at h
    obtain ⟨h1, h2⟩ := h
    split at h2
    · rename_i a b c
      exact ⟨f0, f1, f2, hs, h1, a, b, c⟩
    · cases h2
  · cases h
theorem c_val : Tryz.prog.cellsOf 61 = 3 := by kernel_rfl
theorem own_ : ownKnob Tryz.prog.godebug = none := by kernel_rfl
theorem laid_ : laidOutB Tryz.prog = true := by kernel_rfl
section
variable {H : Type} {enc : TypeId × Value → H} {w : World} {held : Bool}
set_option maxRecDepth 100000 in
theorem open_vals {b0 : Nat} {r : Reach} {v : Value} {d : DataW H} {ps : List MemPlace} (hv : Value.okWide Tryz.prog w r b0 33 v) (h : DataW.Trod enc Tryz.prog w 0 (fun _ => true) held 33 v d ps)
    (hz : ∀ el sp, d = .slice el sp → (el.length + sp.length) * Tryz.prog.bytesOf 61 ≤ reachBytes) :
    ∃ A c xs, v = .slice A xs.length c ∧ Sl w 3 Val.cells A c xs ∧ ∀ x ∈ xs, WfV x := by
  obtain ⟨f0, f1, f2, hs, hone, t0, t1, t2⟩ := u_val
  obtain ⟨fuel, hf⟩ := h
  have hcs : v.cells.toList = [v] := by
    simp only [Value.okWide, u_vals] at hv
    cases v <;> simp_all [Cell.okWide, Cell.ok, u_vals, Value.cells]
  rcases open_slice_fields u_vals hs hone c_val hf with ⟨h0, _⟩ | ⟨a, len, cap, m, D, Pl, h0, hb, hl, hm, hmm, hx, hi⟩
  · simp only [hcs, List.cons.injEq, and_true] at h0
    exact ⟨none, 0, [], h0, Sl.nil_ _ (by omega), fun _ h => by cases h⟩
  · simp only [hcs, List.cons.injEq, and_true] at h0
    obtain ⟨xs, hxl, hxs⟩ := choose_list (Q := fun i (x : Val) => WfV x ∧ w.cell? (a.add (i * 3)) = some (.int .u8 x.k) ∧ w.cell? (a.add (i * 3 + 1)) = some (.int .i64 x.n) ∧ w.cell? (a.add (i * 3 + 2)) = some (.string x.s)) len fun i hil => by
      obtain ⟨ys, n, _, _, _, hff⟩ := hi i (by rw [hmm]; split <;> omega)
      obtain ⟨v0, y0, c0, _, r0⟩ := hff 0 f0 rfl
      obtain ⟨v1, y1, c1, _, r1⟩ := hff 1 f1 rfl
      obtain ⟨v2, y2, c2, _, r2⟩ := hff 2 f2 rfl
      obtain ⟨k, e0, _, wk⟩ := DataW.trod_int t0 r0
      obtain ⟨n', e1, _, wn⟩ := DataW.trod_int t1 r1
      obtain ⟨s, e2, _, ws⟩ := DataW.trod_string t2 r2
      cases e0; cases e1; cases e2
      exact ⟨⟨k, n', s⟩, ⟨wk, wn, ws⟩, c0, c1, c2⟩
    subst hxl
    simp only [Prod.mk.injEq] at hx
    have hz' := hz _ _ hx.1
    rw [show Tryz.prog.bytesOf 61 = 32 by kernel_rfl, List.length_map, List.length_range] at hz'
    have hrb := reachBytes_lt
    refine ⟨some a, cap, xs, h0, ⟨hl, by unfold maxLen at hm; omega, by omega, fun i hil => ?_⟩, fun x hx => ?_⟩
    · obtain ⟨_, c0, c1, c2⟩ := hxs i hil
      have hsp : a.spot = none := by
        obtain ⟨_, d0, _, _⟩ := hxs 0 (by omega)
        simp only [Nat.zero_mul, Addr.add, if_true] at d0
        unfold World.cell? at d0
        split at d0
        · split at d0
          · cases d0
          · rename_i h; simpa using h
        · cases d0
      have hadd : ∀ n, a.add n = ⟨a.block, a.off + n, none⟩ := fun n => by
        obtain ⟨ab, ao, asp⟩ := a
        simp only at hsp
        subst hsp
        unfold Addr.add
        split
        · rename_i h; subst h; rfl
        · rfl
      rw [hadd] at c0 c1 c2
      refine ⟨a.block, a.off, by obtain ⟨ab, ao, asp⟩ := a; simp only at hsp; subst hsp; rfl, fun j u hu => ?_⟩
      match j, hu with
      | 0, hu => cases hu; exact c0
      | 1, hu => cases hu; exact c1
      | 2, hu => cases hu; exact c2
    · obtain ⟨i, hil, rfl⟩ := List.getElem_of_mem hx
      exact (hxs i hil).1
set_option maxRecDepth 100000 in
theorem open_val {b0 : Nat} {r : Reach} {v : Value} {d : DataW H} {ps : List MemPlace} (hv : Value.okWide Tryz.prog w r b0 61 v) (h : DataW.Trod enc Tryz.prog w 0 (fun _ => true) held 61 v d ps) :
    ∃ x : Val, v = x.v ∧ WfV x := by
  obtain ⟨f0, f1, f2, hs, hone, t0, t1, t2⟩ := u_val
  obtain ⟨v0, v1, v2, y0, y1, y2, n, rfl, _, _, r0, r1, r2⟩ := open_agg3 hs hone c_val hv h
  obtain ⟨k, e0, _, wk⟩ := DataW.trod_int t0 r0
  obtain ⟨n', e1, _, wn⟩ := DataW.trod_int t1 r1
  obtain ⟨s, e2, _, ws⟩ := DataW.trod_string t2 r2
  cases e0; cases e1; cases e2
  exact ⟨⟨k, n', s⟩, rfl, ⟨wk, wn, ws⟩⟩
end
section
variable {H : Type} {enc : TypeId × Value → H} {P : Program}
theorem post_of_below {f : Func} {s : ChangeSpec} {apart fresh handsOn again : Bool} {W W' : World} {args : Array Value} {v : Value} {ds gs : List (DataW H)} {before pa pv : List MemPlace}
    (hW : DataW.Whole enc P f.params.toList s.vars apart W args.toList ds gs before)
    (hres : ∀ (b : Nat) (sp : Nat → Bool) (hd : Bool), DataW.TrodAll enc P W' b sp hd f.resultTypes.toList (v.resultList f.resultTypes.size) (s.fn H (ds ++ gs)).results [])
    (hargs : ∀ sp : Nat → Bool, (∀ p ∈ before, sp p.block = true) → DataW.TrodAll enc P W' 0 sp true f.params.toList args.toList (s.fn H (ds ++ gs)).args pa)
    (hvars : ∀ sp : Nat → Bool, (∀ p ∈ before, sp p.block = true) → DataW.TrodVars enc P W' sp s.vars (s.fn H (ds ++ gs)).vars pv)
    (hps : before = pa ++ pv) (hb : Below W.heap.size W W')
    (hok : ∀ (j : Nat) (t : TypeId) (r : Value), f.resultTypes[j]? = some t → (v.resultList f.resultTypes.size)[j]? = some r → Value.okWide P W' .any 0 t r) :
    s.post enc P f apart fresh handsOn again W args v W' := by
  have hlt : ∀ p ∈ before, p.block < W.heap.size := fun p hp => hW.lt p hp
  have hold : ∀ p ∈ before, (fun b => decide (b < W.heap.size)) p.block = true := fun p hp => by simpa using hlt p hp
  refine ⟨ds, gs, before, [], pa, pv, hW, hres _ _ _, hargs _ hold, hvars _ hold, World.keptBut_mono (fun p hp => ⟨hp, ?_⟩) (hb.frame (· ∈ before)), fun _ => ?_⟩
  · rw [hps, List.mem_append] at hp
    exact Or.inr hp
  · obtain ⟨_, _, _, _, _, hz, hn⟩ := hW
    refine ⟨hok, _, _, ([] ++ pa) ++ pv, ⟨[] ++ pa, pv, trodAll_append (hargs _ (fun _ _ => rfl)) (hres _ _ _), hvars _ (fun _ _ => rfl), rfl, ?_, ?_⟩, ?_⟩
    · intro b off hp
      have hin : MemPlace.cell b off ∈ before := by rw [hps]; simpa using hp
      rw [hb.frozen (hlt _ hin)]
      exact hz b off hin
    · intro ha
      have := hn ha
      rw [hps] at this
      simpa using this
    · intro p hp _
      rw [hps]
      simpa using hp
end
/-- An argument reads behind the call as before. -/
theorem stays {H : Type} {enc : TypeId × Value → H} {P : Program} {t : TypeId} (hl : laidOutB P = true) (hr : P.readableRec t = true) (hrow : t < P.types.size) {W W' : World} {v : Value} {d : DataW H} {ps : List MemPlace}
    (h : DataW.Trod enc P W 0 (fun _ => true) true t v d ps) (hb : Below W.heap.size W W') (hlt : ∀ x ∈ ps, x.block < W.heap.size) {sp : Nat → Bool} (hsp : ∀ x ∈ ps, sp x.block = true) :
    DataW.Trod enc P W' 0 sp true t v d ps :=
  WideElems.Trod_stays hl hr hrow h (fun x hx => hb.same (hlt x hx)) hsp
end Go.Proofs.YtmcaednlilhnoaaGreatDoor
namespace Go.Proofs.YtmcaednlilhnoaaGreatDoor
theorem u_u8 : Tryz.prog.underlying 5 = some (.int .u8) := by kernel_rfl
theorem u_bool : Tryz.prog.underlying 4 = some .bool := by kernel_rfl
theorem u_int : Tryz.prog.underlying 3 = some (.int .i64) := by kernel_rfl
end Go.Proofs.YtmcaednlilhnoaaGreatDoor
