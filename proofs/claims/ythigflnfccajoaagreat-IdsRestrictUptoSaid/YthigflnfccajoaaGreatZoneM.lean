/- A region that draws its order: its first m operations, idle ones, may come late: they are done first; then n - m walked once, in the order of the text; behind them the rest. -/
import Derived.Test.YthigflnfccajoaaGreatZone
namespace Go.Zone
open Go.RowKit
section
variable {P : Program} {ops : Array Oper} {md : Region.Mode}
def sinkM (md : Region.Mode) (ops : Array Oper) (m n : Nat) : Bool :=
  (List.range n).all fun i => decide (i < m) || (List.range (n + 1)).any fun j => decide (i < j) && Region.waitsFor md ops j i
def zoneM (ops : Array Oper) (m n : Nat) : Bool :=
  decide (n < ops.size) && decide (m ≤ n) && sinkM .any ops m n && Region.chainB .any ops n && Region.lexHead .any ops (ops.size - n) n 0 (Array.replicate ops.size false)
theorem tail_waits_m {m n : Nat} {listed : Array Bool} (hs : sinkM md ops m n = true) (hc : Region.chainB md ops n = true) (hn : n < ops.size) (inv : HeadInv md ops n listed) :
    ∀ (d i : Nat), n - i = d → m ≤ i → i < n → listed.getD i true = false → ∀ t, n ≤ t → t ∉ Region.ready md ops listed := by
  intro d
  induction d using Nat.strongRecOn with
  | _ d ih =>
    intro i hd hmi hi hun t ht hr
    obtain ⟨_, ot, hot, hall⟩ := mem_ready.1 hr
    have htlt : t < ops.size := (Array.getElem?_eq_some_iff.1 hot).1
    by_cases htn : t = n
    · subst htn
      have h1 := List.all_eq_true.1 hs i (List.mem_range.2 hi)
      rw [Bool.or_eq_true] at h1
      rcases h1 with h1 | h1
      · simp at h1; omega
      obtain ⟨j, hj, hj2⟩ := List.any_eq_true.1 h1
      simp only [Bool.and_eq_true, decide_eq_true_eq] at hj2
      obtain ⟨oj, hoj, e, he, hb, hon⟩ := Region.waitsFor_spec hj2.2
      have hjle : j ≤ t := by have := List.mem_range.1 hj; omega
      by_cases hjt : j = t
      · subst hjt
        have : oj = ot := Option.some.inj (hoj.symm.trans hot)
        subst this
        have h2 := hall e he hb
        rw [hon, getD_both hun] at h2
        cases h2
      · cases hl : listed.getD j false with
        | true =>
          have h2 := inv.closed j oj hoj hl e he hb
          rw [hon, getD_both hun] at h2
          cases h2
        | false =>
          have hjs : j < listed.size := by rw [inv.size]; omega
          exact ih (t - j) (by omega) j rfl (by omega) (by omega) (getD_in hjs hl) t (Nat.le_refl _) hr
    · have h1 := List.all_eq_true.1 hc t (List.mem_range.2 htlt)
      simp only [Bool.or_eq_true, decide_eq_true_eq] at h1
      rcases h1 with h1 | h1
      · omega
      · obtain ⟨o', ho', e, he, hb, hon⟩ := Region.waitsFor_spec h1
        have : o' = ot := Option.some.inj (ho'.symm.trans hot)
        subst this
        have h2 := hall e he hb
        rw [hon, getD_both (inv.tail (t - 1) (by omega) (by omega))] at h2
        cases h2
/-- All below m are listed. -/
structure InvM (md : Region.Mode) (ops : Array Oper) (m n : Nat) (listed : Array Bool) : Prop where
  head : HeadInv md ops n listed
  low : ∀ i, i < m → listed.getD i true = true
theorem InvM.set {m n i : Nat} {listed : Array Bool} (inv : InvM md ops m n listed) (hi : i ∈ Region.ready md ops listed) (hin : i < n) : InvM md ops m n (listed.setIfInBounds i true) :=
  ⟨inv.head.set hi hin, fun j hj => by
    by_cases h : i = j
    · subst h
      have := (mem_ready.1 hi).1
      rw [inv.low i hj] at this
      cases this
    · rw [getD_set_ne true h]; exact inv.low j hj⟩
theorem wpAnyA_firstM {w0 : World} {m' : Nat} {df : List Deferred} {m n i : Nat} {oi : Oper} {Ψi : Pred} {L : Array Bool → Slots → Prop} (hi : ops[i]? = some oi)
    (hhead : ∀ listed, InvM md ops m n listed → (∃ i, i < n ∧ listed.getD i true = false) → ∀ j ∈ Region.ready md ops listed, j < n) (hin : i < n)
    (hdone : ∀ listed A, L listed A → ∀ j ∈ Region.ready md ops listed, n ≤ j) :
    ∀ (f : Nat) (listed : Array Bool) (A : Slots), InvM md ops m n listed →
      (∀ j oj, ops[j]? = some oj → j ≠ i → listed.getD j true = false → (∀ e ∈ oj.after, Region.binds md e = true → e.on ≠ i) → oi.apart ops oj = true) →
      i ∈ Region.ready md ops listed → stepA P ops w0 m' df A oi Ψi →
      wpAnyA P md ops w0 m' df n L f (listed.setIfInBounds i true) (upd A oi.dst Ψi) → wpAnyA P md ops w0 m' df n L (f + 1) listed A := by
  intro f
  induction f with
  | zero =>
    intro listed A inv _ hr hy H
    have hun := (mem_ready.1 hr).1
    refine ⟨fun h => (by rw [h] at hr; cases hr), fun j hj => ?_⟩
    have hjn : j < n := hhead listed inv ⟨i, hin, hun⟩ j hj
    refine ⟨hjn, ?_⟩
    by_cases hji : j = i
    · subst hji; exact ⟨oi, Ψi, hi, hy, H⟩
    · have := hdone _ _ H j (ready_mono hj hji)
      omega
  | succ f ih =>
    intro listed A inv hfree hr hy H
    have hun := (mem_ready.1 hr).1
    refine ⟨fun h => (by rw [h] at hr; cases hr), fun j hj => ?_⟩
    have hjn : j < n := hhead listed inv ⟨i, hin, hun⟩ j hj
    refine ⟨hjn, ?_⟩
    by_cases hji : j = i
    · subst hji; exact ⟨oi, Ψi, hi, hy, H⟩
    · obtain ⟨_, oj, Ψj, hoj, hsj, hrest⟩ := H.2 j (ready_mono hj hji)
      obtain ⟨hjun, oj', hoj', hall⟩ := mem_ready.1 hj
      have : oj' = oj := Option.some.inj (hoj'.symm.trans hoj)
      subst this
      have hnot : ∀ e ∈ oj'.after, Region.binds md e = true → e.on ≠ i := fun e he hb heq => by
        have h1 := hall e he hb
        rw [heq, getD_both hun] at h1
        cases h1
      obtain ⟨h1, h2, h3⟩ := Oper.apart_spec (hfree j oj' hoj hji hjun hnot)
      have hfree' : ∀ k ok, ops[k]? = some ok → k ≠ i → (listed.setIfInBounds j true).getD k true = false →
          (∀ e ∈ ok.after, Region.binds md e = true → e.on ≠ i) → oi.apart ops ok = true := fun k ok hk hki hun hno => by
        refine hfree k ok hk hki ?_ hno
        by_cases hjk : j = k
        · subst hjk; exact hjun
        · rw [getD_set_ne true hjk] at hun; exact hun
      refine ⟨oj', Ψj, hoj, stepA_congr hsj (fun t ht => (upd_other A Ψi h1 t ht).symm), ?_⟩
      refine ih (listed.setIfInBounds j true) _ (inv.set hj hjn) hfree' (ready_mono hr (Ne.symm hji)) (stepA_congr hy (upd_other A Ψj h3)) ?_
      rw [Array.setIfInBounds_comm _ _ hji, ← upd_comm A Ψi Ψj h2]
      exact hrest
theorem wpAnyA_lexM {w0 : World} {m' : Nat} {df : List Deferred} {m n g : Nat} {Lq : Slots → Prop} (hhead : ∀ listed, InvM md ops m n listed → (∃ i, i < n ∧ listed.getD i true = false) → ∀ j ∈ Region.ready md ops listed, j < n) :
    ∀ (l : List Oper) (k : Nat) (listed : Array Bool) (A : Slots), (∀ j, j < l.length → l[j]? = ops[k + j]?) → k + l.length = n → InvM md ops m n listed →
    Region.lexHead md ops g l.length k listed = true → wpA P ops w0 m' df Lq l A →
    wpAnyA P md ops w0 m' df n (fun listed' A' => Region.seqB md ops g n listed' = true ∧ Lq A') l.length listed A
  | [], k, listed, A, _, hk, _, hB, h => by
    have : k = n := by simpa using hk
    subst this
    exact ⟨by simpa [Region.lexHead] using hB, h⟩
  | o :: l, k, listed, A, hl, hk, inv, hB, h => by
    have h0 : ops[k]? = some o := by simpa using (hl 0 (by simp)).symm
    simp only [List.length_cons, Region.lexHead, Bool.and_eq_true] at hB
    obtain ⟨⟨hr, hf⟩, hB'⟩ := hB
    have hkn : k < n := by simp only [List.length_cons] at hk; omega
    have hr' : k ∈ Region.ready md ops listed := by simpa using hr
    obtain ⟨Ψ, hy, hK⟩ := h
    exact wpAnyA_firstM h0 hhead hkn (fun listed' A' hL => seqB_ready hL.1) l.length listed A inv (Region.free_spec h0 hf) hr' hy
      (wpAnyA_lexM hhead l (k + 1) _ _ (fun j hj => by have := hl (j + 1) (by simp; omega); simpa [Nat.add_assoc, Nat.add_comm 1 j] using this) (by simp only [List.length_cons] at hk; omega) (inv.set hr' hkn) hB' hK)
/-- idle operations, one after the other -/
def wpI (P : Program) (ops : Array Oper) (Q : Act → Prop) : List Oper → Act → Prop
  | [], a => Q a
  | o :: rest, a => ∃ v, Yields P ops o v a ∧ wpI P ops Q rest (a.put o.dst v)
theorem lexHead_drop {g : Nat} : ∀ (c f k : Nat) (listed : Array Bool), Region.lexHead md ops g (c + f) k listed = true → ∃ listed', Region.lexHead md ops g f (k + c) listed' = true ∧ listed' = (List.range c).foldl (fun l i => l.setIfInBounds (k + i) true) listed
  | 0, f, k, listed, h => ⟨listed, by simpa using h, rfl⟩
  | c + 1, f, k, listed, h => by
    rw [show c + 1 + f = (c + f) + 1 by omega] at h
    simp only [Region.lexHead, Bool.and_eq_true] at h
    obtain ⟨l', h1, h2⟩ := lexHead_drop c f (k + 1) _ h.2
    refine ⟨l', by rw [show k + (c + 1) = k + 1 + c by omega]; exact h1, ?_⟩
    rw [h2, List.range_succ_eq_map, List.foldl_cons, List.foldl_map]
    simp only [Nat.add_zero]
    congr 1
    funext l i
    rw [show k + (i + 1) = k + 1 + i by omega]
theorem wpAny_idle {Q : Exit → Act → World → Prop} {n g : Nat} {w : World} (hs : Region.noSelect ops = true) (hQ : ∀ c a a' w, Q (.panic c) a w → Q (.panic c) a' w) {R : Act → Prop} (df : List Deferred) (sz : Nat) :
    ∀ (l : List Oper) (k f : Nat) (listed : Array Bool) (a : Act), (∀ j, j < l.length → l[j]? = ops[k + j]?) → k + l.length ≤ n → HeadInv md ops n listed → (∀ i, i < k → listed.getD i true = true) →
    Region.lexHead md ops g (l.length + f) k listed = true → a.defers = df → a.tmps.size = sz → wpI P ops R l a →
    (∀ listed' a', HeadInv md ops n listed' → (∀ i, i < k + l.length → listed'.getD i true = true) → Region.lexHead md ops g f (k + l.length) listed' = true → a'.defers = df → a'.tmps.size = sz → R a' → wpAny P md ops Q (f + g) listed' a' w) →
    wpAny P md ops Q (l.length + (f + g)) listed a w
  | [], k, f, listed, a, _, _, inv, hlow, hB, hd, hsz, h, H => by
    simp only [List.length_nil, Nat.zero_add, Nat.add_zero] at hB H ⊢
    exact H listed a inv hlow hB hd hsz h
  | o :: l, k, f, listed, a, hl, hk, inv, hlow, hB, hd, hsz, h, H => by
    have h0 : ops[k]? = some o := by simpa using (hl 0 (by simp)).symm
    simp only [List.length_cons] at hk hB H ⊢
    rw [show l.length + 1 + f = (l.length + f) + 1 by omega] at hB
    simp only [Region.lexHead, Bool.and_eq_true] at hB
    obtain ⟨⟨hr, hf⟩, hB'⟩ := hB
    obtain ⟨v, hy, hK⟩ := h
    rw [show l.length + 1 + (f + g) = (l.length + (f + g)) + 1 by omega]
    refine wpAny_take h0 hs hf hr (fun c a w h => hQ c _ _ w h) hy ?_
    have hr' : k ∈ Region.ready md ops listed := by simpa using hr
    refine wpAny_idle hs hQ df sz l (k + 1) f _ _ (fun j hj => by have := hl (j + 1) (by simp; omega); simpa [Nat.add_assoc, Nat.add_comm 1 j] using this) (by omega) (inv.set hr' (by omega)) (fun i hi => ?_) hB' (by rw [put_defers', hd]) (by rw [put_size, hsz]) hK
      (fun listed' a' i1 i2 i3 i4 i5 i6 => H listed' a' i1 (by rw [show k + (l.length + 1) = k + 1 + l.length by omega]; exact i2) (by rw [show k + (l.length + 1) = k + 1 + l.length by omega]; exact i3) i4 i5 i6)
    by_cases hik : k = i
    · subst hik
      have hks : k < listed.size := by rw [inv.size]; exact (Array.getElem?_eq_some_iff.1 h0).1
      simp [hks]
    · rw [getD_set_ne true hik]; exact hlow i (by omega)
end
/-- Only the way that goes on. -/
def Calm (Q : Exit → Act → World → Prop) : Exit → Act → World → Prop
  | .normal, a, w => Q .normal a w
  | _, _, _ => False
theorem calm_normal (Q : Exit → Act → World → Prop) (a : Act) (w : World) : Calm Q .normal a w = Q .normal a w := rfl
/-- **A region that draws its order**: its first m operations, idle, first; up to n once, in the order of the text; then the rest. -/
theorem wp_region_m_from {P : Program} {id : Nat} {Q : Exit → Act → World → Prop} {a : Act} {w w1 : World} (hk1 : Keep w w1) {l : List Oper} (m n : Nat) (hm : P.follows .mixedOrders = true)
    (hB : (zoneM l.toArray m n && decide (n ≤ l.length) && Region.noSelect l.toArray && dstsB a.tmps.size l) = true)
    (h : wpI P l.toArray (fun a0 => wpZ P l.toArray w (fun a' fs => ∀ p : GB, fill (w.gro p) fs a' fun b => wpList P l.toArray (Calm Q) (l.drop n) b (w.gro p)) ((l.take n).drop m) a0 []) (l.take m) a) : (Code.region id l.toArray true).wp P Q a w1 := by
  simp only [zoneM, Bool.and_eq_true, decide_eq_true_eq] at hB
  obtain ⟨⟨⟨⟨⟨⟨⟨hns, hmn⟩, hsink⟩, hchain⟩, hlex⟩, hn⟩, hsel⟩, hds⟩ := hB
  have htl : ((l.take n).drop m).length = n - m := by simp; omega
  have hml : (l.take m).length = m := by simp; omega
  have hdl : (l.drop n).length = l.toArray.size - n := by simp
  have inv0 : HeadInv .any l.toArray n (Array.replicate l.toArray.size false) :=
    ⟨by simp, fun j oj _ hl => (by rw [getD_replicate_false] at hl; cases hl), fun t _ ht => getD_in (by simpa using ht) (getD_replicate_false _ _)⟩
  refine wp_mono (Q := Calm Q) ?_ (fun e a w h => by cases e <;> first | exact h | exact h.elim)
  refine wp_region_any hm ?_
  have hk2 : Below w.heap.size w { w1 with drawn := w1.drawn + 1 } := ⟨hk1.os, hk1.tape, hk1.output, hk1.size, hk1.block⟩
  have key := wpAny_idle (P := P) (md := .any) (ops := l.toArray) (Q := Calm Q) (n := n) (g := l.toArray.size - n) (w := { w1 with drawn := w1.drawn + 1 }) hsel (fun _ _ _ _ h => h.elim) a.defers a.tmps.size (l.take m) 0 (n - m) _ a
    (fun j hj => by have hj' : j < m := by rw [hml] at hj; exact hj
                    simp [hj']) (by rw [hml]; omega) inv0 (fun i hi => by omega) (by rw [hml, show m + (n - m) = n by omega]; exact hlex) rfl rfl h
    (fun listed a0 i1 i2 i3 i4 i5 i6 => by
      rw [hml, Nat.zero_add] at i2 i3
      have hhead : ∀ listed, InvM .any l.toArray m n listed → (∃ i, i < n ∧ listed.getD i true = false) → ∀ j ∈ Region.ready .any l.toArray listed, j < n := fun listed inv hx j hj => by
        obtain ⟨i, hi, hun⟩ := hx
        rcases Nat.lt_or_ge j n with h | h
        · exact h
        · have hmi : m ≤ i := by
            rcases Nat.lt_or_ge i m with h' | h'
            · rw [inv.low i h'] at hun; cases hun
            · exact h'
          exact absurd hj (tail_waits_m hsink hchain hns inv.head _ i rfl hmi hi hun j h)
      have hmem : ∀ o ∈ (l.take n).drop m, o ∈ l := fun o ho => List.mem_of_mem_take (List.mem_of_mem_drop ho)
      have hA0 : MonoA (slot a0 []) := fun t v W W' _ hv => ⟨fun Φ hx => absurd hx (by simp), fun hx => hv.2 hx⟩
      have hwp : wpA P l.toArray w a0.tmps.size a0.defers (fun A => ∀ b W, b.defers = a0.defers → b.tmps.size = a0.tmps.size → Below w.heap.size w W → sees A a0.tmps.size b W → wpList P l.toArray (Calm Q) (l.drop n) b W) ((l.take n).drop m) (slot a0 []) := by
        refine wpA_of_Z a0.tmps.size a0.defers (fun a' fs A hQ' hm' hd' hfs hA b W hbd hbm hW hs => ?_) _ (fun o ho cs b => ?_) (fun o ho d hd => ?_) a0 [] (slot a0 []) rfl rfl (fun t Φ hx => absurd hx (by simp)) (fun _ _ _ _ hv => hv) i6
        · obtain ⟨p, rfl⟩ := gro_of_below w hW
          have h1 := fill_elim (b := b) (hQ' p) (fun t Φ hx => (hA t (hfs t Φ hx) _ _ (hs t (by have := hfs t Φ hx; omega))).1 Φ hx)
          have : b = putAll fs a' b := act_eq (by rw [putAll_defers, hbd, hd']) (by rw [putAll_size, hm', hbm]) fun t ht => by
            have hg := putAll_getD b t fs a' (by omega)
            by_cases hx : ∃ Φ, (t, Φ) ∈ fs
            · exact (hg.1 hx).symm
            · have hx' : ∀ Φ, (t, Φ) ∉ fs := fun Φ hmm => hx ⟨Φ, hmm⟩
              rw [hg.2 hx']
              exact (hA t (by omega) _ _ (hs t (by omega))).2 hx'
          rw [this]
          exact h1
        · obtain ⟨i, hi⟩ := List.getElem?_of_mem (hmem o ho)
          exact Region.noSelect_spec hsel i o cs b (by simpa using hi)
        · have := List.all_eq_true.1 hds o (hmem o ho)
          rw [hd] at this
          rw [i5]
          simpa using this
      have H := wpAnyA_lexM (md := .any) (g := l.toArray.size - n) hhead ((l.take n).drop m) m listed (slot a0 []) (fun j hj => by
        rw [htl] at hj
        simp [List.getElem?_drop, List.getElem?_take]; omega) (by rw [htl]; omega) ⟨i1, i2⟩ (by rw [htl]; exact i3) hwp
      have := wpAny_of_A (Q' := Calm Q) (g := l.toArray.size - n) (fun listed A' b W hL hd hm hW hs => by
        have := wpAny_of_seq (md := .any) (Q' := Calm Q) (l.drop n) n listed b W (fun j => by simp [List.getElem?_drop]) (by rw [hdl]; exact hL.1) (hL.2 b W hd hm hW hs)
        rwa [hdl] at this) _ _ _ hA0 H a0 { w1 with drawn := w1.drawn + 1 } rfl rfl hk2 (fun t _ => ⟨fun Φ hx => absurd hx (by simp), fun _ => rfl⟩)
      rw [htl] at this
      exact this)
  have hsz : l.toArray.size = l.length := by simp
  rw [hml, show m + (n - m + (l.toArray.size - n)) = l.toArray.size by omega] at key
  exact key
theorem wp_region_m {P : Program} {id : Nat} {Q : Exit → Act → World → Prop} {a : Act} {w : World} {l : List Oper} (m n : Nat) (hm : P.follows .mixedOrders = true)
    (hB : (zoneM l.toArray m n && decide (n ≤ l.length) && Region.noSelect l.toArray && dstsB a.tmps.size l) = true)
    (h : wpI P l.toArray (fun a0 => wpZ P l.toArray w (fun a' fs => ∀ p : GB, fill (w.gro p) fs a' fun b => wpList P l.toArray (Calm Q) (l.drop n) b (w.gro p)) ((l.take n).drop m) a0 []) (l.take m) a) : (Code.region id l.toArray true).wp P Q a w := wp_region_m_from (Keep.refl w) m n hm hB h
theorem wp_region_m_gro {P : Program} {id : Nat} {Q : Exit → Act → World → Prop} {a : Act} {w : World} {q : GB} {l : List Oper} (m n : Nat) (hm : P.follows .mixedOrders = true)
    (hB : (zoneM l.toArray m n && decide (n ≤ l.length) && Region.noSelect l.toArray && dstsB a.tmps.size l) = true)
    (h : wpI P l.toArray (fun a0 => wpZ P l.toArray w (fun a' fs => ∀ p : GB, fill (w.gro p) fs a' fun b => wpList P l.toArray (Calm Q) (l.drop n) b (w.gro p)) ((l.take n).drop m) a0 []) (l.take m) a) : (Code.region id l.toArray true).wp P Q a (w.gro q) := wp_region_m_from (below_gro w q) m n hm hB h
theorem wpI_step {P : Program} {ops : Array Oper} {Q : Act → Prop} {o : Oper} {rest : List Oper} {a : Act} (v : Value) (h : Region.wanted o (yielded ops a.tmps) = true) (h1 : ∀ w, (execOp a.eval o).run P w = .ok (.value v) w) (h2 : wpI P ops Q rest (a.put o.dst v)) : wpI P ops Q (o :: rest) a :=
  ⟨v, .inl ⟨h, h1⟩, h2⟩
theorem wpI_nil {P : Program} {ops : Array Oper} {Q : Act → Prop} {a : Act} (h : Q a) : wpI P ops Q [] a := h
end Go.Zone
