/- A region that draws its order: its first m operations, idle ones, may come late: they are done first; then n - m walked once, in the order of the text; behind them the rest. -/
import Derived.Test.YtmcaednlilhnoaaGreatDoorJa
import Derived.RangeFuncNested
import Derived.OrdersIn
import Derived.OwnWalkIn
import Derived.Lib.Hide
namespace Go.Zone
open Go.RowKit
section
variable {P : Program} {ops : Array Oper} {md : Region.Mode}
def sinkM (md : Region.Mode) (ops : Array Oper) (m n : Nat) : Bool :=
  (List.range n).all fun i => decide (i < m) || (List.range (n + 1)).any fun j => decide (i < j) && Region.waitsFor md ops j i
def zoneM (ops : Array Oper) (m n : Nat) : Bool :=
  decide (n < ops.size) && decide (m ≤ n) && sinkM .any ops m n && Region.chainB .any ops n && Region.lexHead .any ops (ops.size - n) n 0 (Array.replicate ops.size false)
theorem tail_waits_m {m n : Nat} {listed : Array Bool} (hs : sinkM md ops m n = true) (hc : Region.chainB md ops n = true) (hn : n < ops.size) (inv : HeadInv md ops n listed) :
    ∀ (d i : Nat), n - i = d → m ≤ i → i < n → listed.getD i true = false → ∀ t, n ≤ t → t ∉ Region.ready md ops listed := by
  intro d
  induction d using Nat.strongRecOn with
  | _ d ih =>
    intro i hd hmi hi hun t ht hr
    obtain ⟨_, ot, hot, hall⟩ := mem_ready.1 hr
    have htlt : t < ops.size := (Array.getElem?_eq_some_iff.1 hot).1
    by_cases htn : t = n
    · subst htn
      have h1 := List.all_eq_true.1 hs i (List.mem_range.2 hi)
      rw [Bool.or_eq_true] at h1
      rcases h1 with h1 | h1
      · simp at h1; omega
      obtain ⟨j, hj, hj2⟩ := List.any_eq_true.1 h1
      simp only [Bool.and_eq_true, decide_eq_true_eq] at hj2
      obtain ⟨oj, hoj, e, he, hb, hon⟩ := Region.waitsFor_spec hj2.2
      have hjle : j ≤ t := by have := List.mem_range.1 hj; omega
      by_cases hjt : j = t
      · subst hjt
        have : oj = ot := Option.some.inj (hoj.symm.trans hot)
        subst this
        have h2 := hall e he hb
        rw [hon, getD_both hun] at h2
        cases h2
      · cases hl : listed.getD j false with
        | true =>
          have h2 := inv.closed j oj hoj hl e he hb
          rw [hon, getD_both hun] at h2
          cases h2
        | false =>
          have hjs : j < listed.size := by rw [inv.size]; omega
          exact ih (t - j) (by omega) j rfl (by omega) (by omega) (getD_in hjs hl) t (Nat.le_refl _) hr
    · have h1 := List.all_eq_true.1 hc t (List.mem_range.2 htlt)
      simp only [Bool.or_eq_true, decide_eq_true_eq] at h1
      rcases h1 with h1 | h1
      · omega
      · obtain ⟨o', ho', e, he, hb, hon⟩ := Region.waitsFor_spec h1
        have : o' = ot := Option.some.inj (ho'.symm.trans hot)
        subst this
        have h2 := hall e he hb
        rw [hon, getD_both (inv.tail (t - 1) (by omega) (by omega))] at h2
        cases h2
/-- All below m are listed. -/
structure InvM (md : Region.Mode) (ops : Array Oper) (m n : Nat) (listed : Array Bool) : Prop where
  head : HeadInv md ops n listed
  low : ∀ i, i < m → listed.getD i true = true
theorem InvM.set {m n i : Nat} {listed : Array Bool} (inv : InvM md ops m n listed) (hi : i ∈ Region.ready md ops listed) (hin : i < n) : InvM md ops m n (listed.setIfInBounds i true) :=
  ⟨inv.head.set hi hin, fun j hj => by
    by_cases h : i = j
    · subst h
      have := (mem_ready.1 hi).1
      rw [inv.low i hj] at this
      cases this
    · rw [getD_set_ne true h]; exact inv.low j hj⟩
theorem wpAnyA_firstM {w0 : World} {m' : Nat} {df : List Deferred} {m n i : Nat} {oi : Oper} {Ψi : Pred} {L : Array Bool → Slots → Prop} (hi : ops[i]? = some oi)
    (hhead : ∀ listed, InvM md ops m n listed → (∃ i, i < n ∧ listed.getD i true = false) → ∀ j ∈ Region.ready md ops listed, j < n) (hin : i < n)
    (hdone : ∀ listed A, L listed A → ∀ j ∈ Region.ready md ops listed, n ≤ j) :
    ∀ (f : Nat) (listed : Array Bool) (A : Slots), InvM md ops m n listed →
      (∀ j oj, ops[j]? = some oj → j ≠ i → listed.getD j true = false → (∀ e ∈ oj.after, Region.binds md e = true → e.on ≠ i) → oi.apart ops oj = true) →
      i ∈ Region.ready md ops listed → stepA P ops w0 m' df A oi Ψi →
      wpAnyA P md ops w0 m' df n L f (listed.setIfInBounds i true) (upd A oi.dst Ψi) → wpAnyA P md ops w0 m' df n L (f + 1) listed A := by
  intro f
  induction f with
  | zero =>
    intro listed A inv _ hr hy H
    have hun := (mem_ready.1 hr).1
    refine ⟨fun h => (by rw [h] at hr; cases hr), fun j hj => ?_⟩
    have hjn : j < n := hhead listed inv ⟨i, hin, hun⟩ j hj
    refine ⟨hjn, ?_⟩
    by_cases hji : j = i
    · subst hji; exact ⟨oi, Ψi, hi, hy, H⟩
    · have := hdone _ _ H j (ready_mono hj hji)
      omega
  | succ f ih =>
    intro listed A inv hfree hr hy H
    have hun := (mem_ready.1 hr).1
    refine ⟨fun h => (by rw [h] at hr; cases hr), fun j hj => ?_⟩
    have hjn : j < n := hhead listed inv ⟨i, hin, hun⟩ j hj
    refine ⟨hjn, ?_⟩
    by_cases hji : j = i
    · subst hji; exact ⟨oi, Ψi, hi, hy, H⟩
    · obtain ⟨_, oj, Ψj, hoj, hsj, hrest⟩ := H.2 j (ready_mono hj hji)
      obtain ⟨hjun, oj', hoj', hall⟩ := mem_ready.1 hj
      have : oj' = oj := Option.some.inj (hoj'.symm.trans hoj)
      subst this
      have hnot : ∀ e ∈ oj'.after, Region.binds md e = true → e.on ≠ i := fun e he hb heq => by
        have h1 := hall e he hb
        rw [heq, getD_both hun] at h1
        cases h1
      obtain ⟨h1, h2, h3⟩ := Oper.apart_spec (hfree j oj' hoj hji hjun hnot)
      have hfree' : ∀ k ok, ops[k]? = some ok → k ≠ i → (listed.setIfInBounds j true).getD k true = false →
          (∀ e ∈ ok.after, Region.binds md e = true → e.on ≠ i) → oi.apart ops ok = true := fun k ok hk hki hun hno => by
        refine hfree k ok hk hki ?_ hno
        by_cases hjk : j = k
        · subst hjk; exact hjun
        · rw [getD_set_ne true hjk] at hun; exact hun
      refine ⟨oj', Ψj, hoj, stepA_congr hsj (fun t ht => (upd_other A Ψi h1 t ht).symm), ?_⟩
      refine ih (listed.setIfInBounds j true) _ (inv.set hj hjn) hfree' (ready_mono hr (Ne.symm hji)) (stepA_congr hy (upd_other A Ψj h3)) ?_
      rw [Array.setIfInBounds_comm _ _ hji, ← upd_comm A Ψi Ψj h2]
      exact hrest
theorem wpAnyA_lexM {w0 : World} {m' : Nat} {df : List Deferred} {m n g : Nat} {Lq : Slots → Prop} (hhead : ∀ listed, InvM md ops m n listed → (∃ i, i < n ∧ listed.getD i true = false) → ∀ j ∈ Region.ready md ops listed, j < n) :
    ∀ (l : List Oper) (k : Nat) (listed : Array Bool) (A : Slots), (∀ j, j < l.length → l[j]? = ops[k + j]?) → k + l.length = n → InvM md ops m n listed →
    Region.lexHead md ops g l.length k listed = true → wpA P ops w0 m' df Lq l A →
    wpAnyA P md ops w0 m' df n (fun listed' A' => Region.seqB md ops g n listed' = true ∧ Lq A') l.length listed A
  | [], k, listed, A, _, hk, _, hB, h => by
    have : k = n := by simpa using hk
    subst this
    exact ⟨by simpa [Region.lexHead] using hB, h⟩
  | o :: l, k, listed, A, hl, hk, inv, hB, h => by
    have h0 : ops[k]? = some o := by simpa using (hl 0 (by simp)).symm
    simp only [List.length_cons, Region.lexHead, Bool.and_eq_true] at hB
    obtain ⟨⟨hr, hf⟩, hB'⟩ := hB
    have hkn : k < n := by simp only [List.length_cons] at hk; omega
    have hr' : k ∈ Region.ready md ops listed := by simpa using hr
    obtain ⟨Ψ, hy, hK⟩ := h
    exact wpAnyA_firstM h0 hhead hkn (fun listed' A' hL => seqB_ready hL.1) l.length listed A inv (Region.free_spec h0 hf) hr' hy
      (wpAnyA_lexM hhead l (k + 1) _ _ (fun j hj => by have := hl (j + 1) (by simp; omega); simpa [Nat.add_assoc, Nat.add_comm 1 j] using this) (by simp only [List.length_cons] at hk; omega) (inv.set hr' hkn) hB' hK)
/-- idle operations, one after the other -/
def wpI (P : Program) (ops : Array Oper) (Q : Act → Prop) : List Oper → Act → Prop
  | [], a => Q a
  | o :: rest, a => ∃ v, Yields P ops o v a ∧ wpI P ops Q rest (a.put o.dst v)
theorem lexHead_drop {g : Nat} : ∀ (c f k : Nat) (listed : Array Bool), Region.lexHead md ops g (c + f) k listed = true → ∃ listed', Region.lexHead md ops g f (k + c) listed' = true ∧ listed' = (List.range c).foldl (fun l i => l.setIfInBounds (k + i) true) listed
  | 0, f, k, listed, h => ⟨listed, by simpa using h, rfl⟩
  | c + 1, f, k, listed, h => by
    rw [show c + 1 + f = (c + f) + 1 by omega] at h
    simp only [Region.lexHead, Bool.and_eq_true] at h
    obtain ⟨l', h1, h2⟩ := lexHead_drop c f (k + 1) _ h.2
    refine ⟨l', by rw [show k + (c + 1) = k + 1 + c by omega]; exact h1, ?_⟩
    rw [h2, List.range_succ_eq_map, List.foldl_cons, List.foldl_map]
    simp only [Nat.add_zero]
    congr 1
    funext l i
    rw [show k + (i + 1) = k + 1 + i by omega]
theorem wpAny_idle {Q : Exit → Act → World → Prop} {n g : Nat} {w : World} (hs : Region.noSelect ops = true) (hQ : ∀ c a a' w, Q (.panic c) a w → Q (.panic c) a' w) {R : Act → Prop} (df : List Deferred) (sz : Nat) :
    ∀ (l : List Oper) (k f : Nat) (listed : Array Bool) (a : Act), (∀ j, j < l.length → l[j]? = ops[k + j]?) → k + l.length ≤ n → HeadInv md ops n listed → (∀ i, i < k → listed.getD i true = true) →
    Region.lexHead md ops g (l.length + f) k listed = true → a.defers = df → a.tmps.size = sz → wpI P ops R l a →
    (∀ listed' a', HeadInv md ops n listed' → (∀ i, i < k + l.length → listed'.getD i true = true) → Region.lexHead md ops g f (k + l.length) listed' = true → a'.defers = df → a'.tmps.size = sz → R a' → wpAny P md ops Q (f + g) listed' a' w) →
    wpAny P md ops Q (l.length + (f + g)) listed a w
  | [], k, f, listed, a, _, _, inv, hlow, hB, hd, hsz, h, H => by
    simp only [List.length_nil, Nat.zero_add, Nat.add_zero] at hB H ⊢
    exact H listed a inv hlow hB hd hsz h
  | o :: l, k, f, listed, a, hl, hk, inv, hlow, hB, hd, hsz, h, H => by
    have h0 : ops[k]? = some o := by simpa using (hl 0 (by simp)).symm
    simp only [List.length_cons] at hk hB H ⊢
    rw [show l.length + 1 + f = (l.length + f) + 1 by omega] at hB
    simp only [Region.lexHead, Bool.and_eq_true] at hB
    obtain ⟨⟨hr, hf⟩, hB'⟩ := hB
    obtain ⟨v, hy, hK⟩ := h
    rw [show l.length + 1 + (f + g) = (l.length + (f + g)) + 1 by omega]
    refine wpAny_take h0 hs hf hr (fun c a w h => hQ c _ _ w h) hy ?_
    have hr' : k ∈ Region.ready md ops listed := by simpa using hr
    refine wpAny_idle hs hQ df sz l (k + 1) f _ _ (fun j hj => by have := hl (j + 1) (by simp; omega); simpa [Nat.add_assoc, Nat.add_comm 1 j] using this) (by omega) (inv.set hr' (by omega)) (fun i hi => ?_) hB' (by rw [put_defers', hd]) (by rw [put_size, hsz]) hK
      (fun listed' a' i1 i2 i3 i4 i5 i6 => H listed' a' i1 (by rw [show k + (l.length + 1) = k + 1 + l.length by omega]; exact i2) (by rw [show k + (l.length + 1) = k + 1 + l.length by omega]; exact i3) i4 i5 i6)
    by_cases hik : k = i
    · subst hik
      have hks : k < listed.size := by rw [inv.size]; exact (Array.getElem?_eq_some_iff.1 h0).1
      simp [hks]
    · rw [getD_set_ne true hik]; exact hlow i (by omega)
end
/-- Only the way that goes on. -/
def Calm (Q : Exit → Act → World → Prop) : Exit → Act → World → Prop
  | .normal, a, w => Q .normal a w
  | _, _, _ => False
theorem calm_normal (Q : Exit → Act → World → Prop) (a : Act) (w : World) : Calm Q .normal a w = Q .normal a w := rfl
/-- **A region that draws its order**: its first m operations, idle, first; up to n once, in the order of the text; then the rest. -/
theorem wp_region_m_from {P : Program} {id : Nat} {Q : Exit → Act → World → Prop} {a : Act} {w w1 : World} (hk1 : Keep w w1) {l : List Oper} (m n : Nat) (hm : P.follows .mixedOrders = true)
    (hB : (zoneM l.toArray m n && decide (n ≤ l.length) && Region.noSelect l.toArray && dstsB a.tmps.size l) = true)
    (h : wpI P l.toArray (fun a0 => wpZ P l.toArray w (fun a' fs => ∀ p : GB, fill (w.gro p) fs a' fun b => wpList P l.toArray (Calm Q) (l.drop n) b (w.gro p)) ((l.take n).drop m) a0 []) (l.take m) a) : (Code.region id l.toArray true).wp P Q a w1 := by
  simp only [zoneM, Bool.and_eq_true, decide_eq_true_eq] at hB
  obtain ⟨⟨⟨⟨⟨⟨⟨hns, hmn⟩, hsink⟩, hchain⟩, hlex⟩, hn⟩, hsel⟩, hds⟩ := hB
  have htl : ((l.take n).drop m).length = n - m := by simp; omega
  have hml : (l.take m).length = m := by simp; omega
  have hdl : (l.drop n).length = l.toArray.size - n := by simp
  have inv0 : HeadInv .any l.toArray n (Array.replicate l.toArray.size false) :=
    ⟨by simp, fun j oj _ hl => (by rw [getD_replicate_false] at hl; cases hl), fun t _ ht => getD_in (by simpa using ht) (getD_replicate_false _ _)⟩
  refine wp_mono (Q := Calm Q) ?_ (fun e a w h => by cases e <;> first | exact h | exact h.elim)
  refine wp_region_any hm ?_
  have hk2 : Below w.heap.size w { w1 with drawn := w1.drawn + 1 } := ⟨hk1.os, hk1.tape, hk1.output, hk1.size, hk1.block⟩
  have key := wpAny_idle (P := P) (md := .any) (ops := l.toArray) (Q := Calm Q) (n := n) (g := l.toArray.size - n) (w := { w1 with drawn := w1.drawn + 1 }) hsel (fun _ _ _ _ h => h.elim) a.defers a.tmps.size (l.take m) 0 (n - m) _ a
    (fun j hj => by have hj' : j < m := by rw [hml] at hj; exact hj
                    simp [hj']) (by rw [hml]; omega) inv0 (fun i hi => by omega) (by rw [hml, show m + (n - m) = n by omega]; exact hlex) rfl rfl h
    (fun listed a0 i1 i2 i3 i4 i5 i6 => by
      rw [hml, Nat.zero_add] at i2 i3
      have hhead : ∀ listed, InvM .any l.toArray m n listed → (∃ i, i < n ∧ listed.getD i true = false) → ∀ j ∈ Region.ready .any l.toArray listed, j < n := fun listed inv hx j hj => by
        obtain ⟨i, hi, hun⟩ := hx
        rcases Nat.lt_or_ge j n with h | h
        · exact h
        · have hmi : m ≤ i := by
            rcases Nat.lt_or_ge i m with h' | h'
            · rw [inv.low i h'] at hun; cases hun
            · exact h'
          exact absurd hj (tail_waits_m hsink hchain hns inv.head _ i rfl hmi hi hun j h)
      have hmem : ∀ o ∈ (l.take n).drop m, o ∈ l := fun o ho => List.mem_of_mem_take (List.mem_of_mem_drop ho)
      have hA0 : MonoA (slot a0 []) := fun t v W W' _ hv => ⟨fun Φ hx => absurd hx (by simp), fun hx => hv.2 hx⟩
      have hwp : wpA P l.toArray w a0.tmps.size a0.defers (fun A => ∀ b W, b.defers = a0.defers → b.tmps.size = a0.tmps.size → Below w.heap.size w W → sees A a0.tmps.size b W → wpList P l.toArray (Calm Q) (l.drop n) b W) ((l.take n).drop m) (slot a0 []) := by
        refine wpA_of_Z a0.tmps.size a0.defers (fun a' fs A hQ' hm' hd' hfs hA b W hbd hbm hW hs => ?_) _ (fun o ho cs b => ?_) (fun o ho d hd => ?_) a0 [] (slot a0 []) rfl rfl (fun t Φ hx => absurd hx (by simp)) (fun _ _ _ _ hv => hv) i6
        · obtain ⟨p, rfl⟩ := gro_of_below w hW
          have h1 := fill_elim (b := b) (hQ' p) (fun t Φ hx => (hA t (hfs t Φ hx) _ _ (hs t (by have := hfs t Φ hx; omega))).1 Φ hx)
          have : b = putAll fs a' b := act_eq (by rw [putAll_defers, hbd, hd']) (by rw [putAll_size, hm', hbm]) fun t ht => by
            have hg := putAll_getD b t fs a' (by omega)
            by_cases hx : ∃ Φ, (t, Φ) ∈ fs
            · exact (hg.1 hx).symm
            · have hx' : ∀ Φ, (t, Φ) ∉ fs := fun Φ hmm => hx ⟨Φ, hmm⟩
              rw [hg.2 hx']
              exact (hA t (by omega) _ _ (hs t (by omega))).2 hx'
          rw [this]
          exact h1
        · obtain ⟨i, hi⟩ := List.getElem?_of_mem (hmem o ho)
          exact Region.noSelect_spec hsel i o cs b (by simpa using hi)
        · have := List.all_eq_true.1 hds o (hmem o ho)
          rw [hd] at this
          rw [i5]
          simpa using this
      have H := wpAnyA_lexM (md := .any) (g := l.toArray.size - n) hhead ((l.take n).drop m) m listed (slot a0 []) (fun j hj => by
        rw [htl] at hj
        simp [List.getElem?_drop, List.getElem?_take]; omega) (by rw [htl]; omega) ⟨i1, i2⟩ (by rw [htl]; exact i3) hwp
      have := wpAny_of_A (Q' := Calm Q) (g := l.toArray.size - n) (fun listed A' b W hL hd hm hW hs => by
        have := wpAny_of_seq (md := .any) (Q' := Calm Q) (l.drop n) n listed b W (fun j => by simp [List.getElem?_drop]) (by rw [hdl]; exact hL.1) (hL.2 b W hd hm hW hs)
        rwa [hdl] at this) _ _ _ hA0 H a0 { w1 with drawn := w1.drawn + 1 } rfl rfl hk2 (fun t _ => ⟨fun Φ hx => absurd hx (by simp), fun _ => rfl⟩)
      rw [htl] at this
      exact this)
  have hsz : l.toArray.size = l.length := by simp
  rw [hml, show m + (n - m + (l.toArray.size - n)) = l.toArray.size by omega] at key
  exact key
theorem wp_region_m {P : Program} {id : Nat} {Q : Exit → Act → World → Prop} {a : Act} {w : World} {l : List Oper} (m n : Nat) (hm : P.follows .mixedOrders = true)
    (hB : (zoneM l.toArray m n && decide (n ≤ l.length) && Region.noSelect l.toArray && dstsB a.tmps.size l) = true)
    (h : wpI P l.toArray (fun a0 => wpZ P l.toArray w (fun a' fs => ∀ p : GB, fill (w.gro p) fs a' fun b => wpList P l.toArray (Calm Q) (l.drop n) b (w.gro p)) ((l.take n).drop m) a0 []) (l.take m) a) : (Code.region id l.toArray true).wp P Q a w := wp_region_m_from (Keep.refl w) m n hm hB h
theorem wp_region_m_gro {P : Program} {id : Nat} {Q : Exit → Act → World → Prop} {a : Act} {w : World} {q : GB} {l : List Oper} (m n : Nat) (hm : P.follows .mixedOrders = true)
    (hB : (zoneM l.toArray m n && decide (n ≤ l.length) && Region.noSelect l.toArray && dstsB a.tmps.size l) = true)
    (h : wpI P l.toArray (fun a0 => wpZ P l.toArray w (fun a' fs => ∀ p : GB, fill (w.gro p) fs a' fun b => wpList P l.toArray (Calm Q) (l.drop n) b (w.gro p)) ((l.take n).drop m) a0 []) (l.take m) a) : (Code.region id l.toArray true).wp P Q a (w.gro q) := wp_region_m_from (below_gro w q) m n hm hB h
theorem wpI_step {P : Program} {ops : Array Oper} {Q : Act → Prop} {o : Oper} {rest : List Oper} {a : Act} (v : Value) (h : Region.wanted o (yielded ops a.tmps) = true) (h1 : ∀ w, (execOp a.eval o).run P w = .ok (.value v) w) (h2 : wpI P ops Q rest (a.put o.dst v)) : wpI P ops Q (o :: rest) a :=
  ⟨v, .inl ⟨h, h1⟩, h2⟩
theorem wpI_nil {P : Program} {ops : Array Oper} {Q : Act → Prop} {a : Act} (h : Q a) : wpI P ops Q [] a := h
end Go.Zone
namespace Go.Zone
open Go.RowKit
section
variable {P : Program} {ops : Array Oper} {md : Region.Mode} {l : Nat} {n : Nat}
def noDefer (ops : Array Oper) : Bool := ops.all fun o => match o.op with | .defer _ => false | _ => true
theorem noDefer_spec (h : noDefer ops = true) (j : Nat) (o : Oper) (ho : ops[j]? = some o) (c : Call) : o.op ≠ .defer c := by
  intro heq
  have := Array.all_eq_true_iff_forall_mem.1 h o (Array.mem_of_getElem? ho)
  simp [heq] at this
theorem calls_in {f : FuncId} {args : Array Value} {w : World} {R : Ending → World → Prop} (h : Calls P f args w R) : CallsIn (Fence.wide.inRound l) n P f args w R := CallsIn.inRound l (callsIn_wide.2 h)
theorem calls_wide {f : FuncId} {args : Array Value} {w : World} {R : Ending → World → Prop} (h : Calls P f args w R) : CallsIn Fence.wide n P f args w R := callsIn_wide.2 h
theorem rows_in {row : String} {args : Array Value} {w : World} {R : Value → World → Prop} (h : Rows P row args w R) : RowsIn (Fence.wide.inRound l) n P row args w R := fun c cs _ => by
  obtain ⟨v, w', r, s⟩ := h c cs
  exact ⟨v, w', r, stepsIn_wide.2 s⟩
theorem op_in {o : Oper} {Q : Exit → Act → World → Prop} {a : Act} {w : World} {K K' : Act → World → Prop} (hd : ∀ c, o.op ≠ .defer c) (hK : ∀ a w, K a w → K' a w) (h : o.wp P a w K (Calm Q)) :
    o.wpIn (Fence.wide.inRound l) n P a w K' (Calm Q) := by
  refine ⟨fun _ _ => trivial, ?_⟩
  rw [Oper.semAt_eq _ _ _ hd]
  unfold Oper.wp at h
  generalize (execOp a.eval o).run P w = r at *
  cases r with
  | ok nx w' =>
    cases nx <;> simp only [Oper.upon] at h <;> simp only [Oper.uponIn]
    case value u => exact hK _ _ h
    case skip => exact hK _ _ h
    case defer d => exact hK _ _ h
    case enter f args =>
      refine ⟨fun hx => (by cases hx), calls_in (h.mono fun e w'' he => ?_)⟩
      cases e with
      | returned u => exact hK _ _ he
      | panicked c => exact he
      | outgrown => exact he
    case row row args => exact ⟨fun hx => (by cases hx), rows_in (h.mono fun v w'' hv => hK _ _ hv)⟩
  | halt x w' =>
    cases x <;> simp only [Oper.upon] at h <;> simp only [Oper.uponIn]
    exact h
theorem any_in {Q : Exit → Act → World → Prop} (hd : noDefer ops = true) : ∀ (fuel : Nat) (listed : Array Bool) (a : Act) (w : World), wpAny P md ops (Calm Q) fuel listed a w → wpAnyIn (Fence.wide.inRound l) n P md ops (Calm Q) fuel listed a w
  | 0, _, _, _, h => h
  | fuel + 1, listed, a, w, h => by
    refine ⟨h.1, fun i hi => ?_⟩
    have h1 := h.2 i hi
    unfold wpOp at h1
    unfold wpOpIn
    cases ho : ops[i]? with
    | none => rw [ho] at h1; exact any_in hd fuel _ _ _ h1
    | some o =>
      rw [ho] at h1
      simp only at h1 ⊢
      split
      · rename_i hw
        rw [if_pos hw] at h1
        rcases h1 with h1 | ⟨_, a', w', hx⟩
        · exact op_in (noDefer_spec hd i o ho) (fun a w hk => any_in hd fuel _ _ _ hk) h1
        · exact hx.elim
      · rename_i hw
        rw [if_neg hw] at h1
        exact ⟨fun _ _ => trivial, any_in hd fuel _ _ _ h1⟩
theorem calm_mono {Q : Exit → Act → World → Prop} : ∀ e a w, Calm Q e a w → Q e a w := fun e a w h => by cases e <;> first | exact h | exact h.elim
theorem region_in {id : Nat} {Q : Exit → Act → World → Prop} {a : Act} {w : World} (hm : P.follows .mixedOrders = true) (hd : noDefer ops = true)
    (h : wpAny P .any ops (Calm Q) ops.size (Array.replicate ops.size false) a { w with drawn := w.drawn + 1 }) : (Code.region id ops true).wpIn (Fence.wide.inRound l) n P Q a w :=
  wpIn_mono (wpIn_region_any hm (any_in hd _ _ _ _ h)) calm_mono
end
section
variable {P : Program} {l : List Oper}
theorem any_A {Q : Exit → Act → World → Prop} {a : Act} {w w1 : World} (hk1 : Keep w w1) (n : Nat) (hB : zoneB l.toArray n = true) (hnl : n ≤ l.length)
    {A : Slots} (hA : MonoA A) (h0 : ∀ d, sees A a.tmps.size a { w1 with drawn := d })
    (h : wpA P l.toArray w a.tmps.size a.defers (fun A => ∀ b W, b.defers = a.defers → b.tmps.size = a.tmps.size → Below w.heap.size w W → sees A a.tmps.size b W → wpList P l.toArray Q (l.drop n) b W) (l.take n) A) :
    wpAny P .any l.toArray Q l.toArray.size (Array.replicate l.toArray.size false) a { w1 with drawn := w1.drawn + 1 } := by
  simp only [zoneB, Bool.and_eq_true] at hB
  obtain ⟨hn, hlex⟩ := hB
  have htl : (l.take n).length = n := by simp; omega
  have hdl : (l.drop n).length = l.toArray.size - n := by simp
  have inv0 : HeadInv .any l.toArray n (Array.replicate l.toArray.size false) :=
    ⟨by simp, fun j oj _ hl => (by rw [getD_replicate_false] at hl; cases hl), fun t _ ht => getD_in (by simpa using ht) (getD_replicate_false _ _)⟩
  have H := wpAnyA_lex (md := .any) (g := l.toArray.size - n) (head_of hn) (l.take n) 0 _ A (fun j hj => by
    have hj' : j < n := by rw [htl] at hj; exact hj
    simp [hj']) (by simpa using htl) inv0 (by rw [htl]; exact hlex) h
  have hk2 : Below w.heap.size w { w1 with drawn := w1.drawn + 1 } := ⟨hk1.os, hk1.tape, hk1.output, hk1.size, hk1.block⟩
  have := wpAny_of_A (Q' := Q) (g := l.toArray.size - n) (fun listed A' b W hL hd hm hW hs => by
    have := wpAny_of_seq (md := .any) (Q' := Q) (l.drop n) n listed b W (fun j => by simp [List.getElem?_drop]) (by rw [hdl]; exact hL.1) (hL.2 b W hd hm hW hs)
    rwa [hdl] at this) _ _ _ hA H a { w1 with drawn := w1.drawn + 1 } rfl rfl hk2 (h0 _)
  rw [htl, show n + (l.toArray.size - n) = l.toArray.size by simp; omega] at this
  exact this
theorem any_from {Q : Exit → Act → World → Prop} {a : Act} {w w1 : World} (hk1 : Keep w w1) (n : Nat)
    (hB : (zoneB l.toArray n && decide (n ≤ l.length) && Region.noSelect l.toArray && dstsB a.tmps.size l) = true)
    (h : wpZ P l.toArray w (fun a' fs => ∀ p : GB, fill (w.gro p) fs a' fun b => wpList P l.toArray Q (l.drop n) b (w.gro p)) (l.take n) a []) :
    wpAny P .any l.toArray Q l.toArray.size (Array.replicate l.toArray.size false) a { w1 with drawn := w1.drawn + 1 } := by
  simp only [Bool.and_eq_true, decide_eq_true_eq] at hB
  obtain ⟨⟨⟨hz, hn⟩, hsel⟩, hds⟩ := hB
  have hmem : ∀ o ∈ l.take n, o ∈ l := fun o ho => List.mem_of_mem_take ho
  refine any_A hk1 n hz hn (A := slot a []) (fun t v W W' _ hv => ?_) (fun d t _ => ?_) ?_
  · exact ⟨fun Φ hx => absurd hx (by simp), fun hx => hv.2 hx⟩
  · exact ⟨fun Φ hx => absurd hx (by simp), fun _ => rfl⟩
  · refine wpA_of_Z a.tmps.size a.defers (fun a' fs A hQ hm' hd' hfs hA b W hbd hbm hW hs => ?_) (l.take n) (fun o ho cs b => ?_) (fun o ho d hd => ?_) a [] (slot a []) rfl rfl (fun t Φ hx => absurd hx (by simp)) (fun _ _ _ _ hv => hv) h
    · obtain ⟨p, rfl⟩ := gro_of_below w hW
      have h1 := fill_elim (b := b) (hQ p) (fun t Φ hx => (hA t (hfs t Φ hx) _ _ (hs t (by have := hfs t Φ hx; omega))).1 Φ hx)
      have : b = putAll fs a' b := act_eq (by rw [putAll_defers, hbd, hd']) (by rw [putAll_size, hm', hbm]) fun t ht => by
        have hg := putAll_getD b t fs a' (by omega)
        by_cases hx : ∃ Φ, (t, Φ) ∈ fs
        · exact (hg.1 hx).symm
        · have hx' : ∀ Φ, (t, Φ) ∉ fs := fun Φ hmm => hx ⟨Φ, hmm⟩
          rw [hg.2 hx']
          exact (hA t (by omega) _ _ (hs t (by omega))).2 hx'
      rw [this]
      exact h1
    · obtain ⟨i, hi⟩ := List.getElem?_of_mem (hmem o ho)
      exact Region.noSelect_spec hsel i o cs b (by simpa using hi)
    · have := List.all_eq_true.1 hds o (hmem o ho)
      rw [hd] at this
      simpa using this
end
section
variable {P : Program} {id r m : Nat} {Q : Exit → Act → World → Prop} {a : Act} {w : World} {l : List Oper}
theorem wpR_region (n : Nat) (hm : P.follows .mixedOrders = true)
    (hB : (noDefer l.toArray && (zoneB l.toArray n && decide (n ≤ l.length) && Region.noSelect l.toArray && dstsB a.tmps.size l)) = true)
    (h : wpZ P l.toArray w (fun a' fs => ∀ p : GB, fill (w.gro p) fs a' fun b => wpList P l.toArray (Calm Q) (l.drop n) b (w.gro p)) (l.take n) a []) : (Code.region id l.toArray true).wpIn (Fence.wide.inRound r) m P Q a w := by
  rw [Bool.and_eq_true] at hB
  exact region_in hm hB.1 (any_from (Keep.refl w) n hB.2 h)
theorem wpR_region_gro {q : GB} (n : Nat) (hm : P.follows .mixedOrders = true)
    (hB : (noDefer l.toArray && (zoneB l.toArray n && decide (n ≤ l.length) && Region.noSelect l.toArray && dstsB a.tmps.size l)) = true)
    (h : wpZ P l.toArray w (fun a' fs => ∀ p : GB, fill (w.gro p) fs a' fun b => wpList P l.toArray (Calm Q) (l.drop n) b (w.gro p)) (l.take n) a []) : (Code.region id l.toArray true).wpIn (Fence.wide.inRound r) m P Q a (w.gro q) := by
  rw [Bool.and_eq_true] at hB
  exact region_in hm hB.1 (any_from (below_gro w q) n hB.2 h)
theorem wpR_region_all (hm : P.follows .mixedOrders = true)
    (hB : (noDefer l.toArray && (zoneB l.toArray l.length && Region.noSelect l.toArray && dstsB a.tmps.size l)) = true)
    (h : wpZ P l.toArray w (fun a' fs => ∀ p : GB, fill (w.gro p) fs a' fun b => Q .normal b (w.gro p)) l a []) : (Code.region id l.toArray true).wpIn (Fence.wide.inRound r) m P Q a w := by
  refine wpR_region l.length hm (by simp only [Bool.and_eq_true] at hB ⊢; simp [hB]) ?_
  simp only [List.take_length, List.drop_length, wpList]
  exact h
theorem wpR_region_all_gro {q : GB} (hm : P.follows .mixedOrders = true)
    (hB : (noDefer l.toArray && (zoneB l.toArray l.length && Region.noSelect l.toArray && dstsB a.tmps.size l)) = true)
    (h : wpZ P l.toArray w (fun a' fs => ∀ p : GB, fill (w.gro p) fs a' fun b => Q .normal b (w.gro p)) l a []) : (Code.region id l.toArray true).wpIn (Fence.wide.inRound r) m P Q a (w.gro q) := by
  refine wpR_region_gro l.length hm (by simp only [Bool.and_eq_true] at hB ⊢; simp [hB]) ?_
  simp only [List.take_length, List.drop_length, wpList]
  exact h
end
end Go.Zone
namespace Go.Zone
open Go.RowKit
variable {P : Program}
theorem wide_fn (f : FuncId) : Fence.wide.fn f = True := rfl
theorem wide_depth : Fence.wide.depth = none := rfl
theorem wide_round : Fence.wide.round = none := rfl
/-- What stays where all that was there stays, and where a block from B on that is no row of cells turns. -/
structure Stable (B : Nat) (I : World → Prop) : Prop where
  keep : ∀ W W', I W → Keep W W' → I W'
  put : ∀ (W : World) (l : Nat) (o o' : Obj), I W → B ≤ l → W.heap[l]? = some o → o.isCells = false → I (W.putObj l o')
theorem Stable.and {B : Nat} {I J : World → Prop} (h : Stable B I) (k : Stable B J) : Stable B fun W => I W ∧ J W :=
  ⟨fun W W' hi hk => ⟨h.keep W W' hi.1 hk, k.keep W W' hi.2 hk⟩, fun W l o o' hi hb hl ho => ⟨h.put W l o o' hi.1 hb hl ho, k.put W l o o' hi.2 hb hl ho⟩⟩
theorem Stable.pure {B : Nat} (p : Prop) : Stable B fun _ => p := ⟨fun _ _ h _ => h, fun _ _ _ _ h _ _ _ => h⟩
theorem Stable.ex {B : Nat} {α : Type} {I : α → World → Prop} (h : ∀ x, Stable B (I x)) : Stable B fun W => ∃ x, I x W :=
  ⟨fun W W' ⟨x, hi⟩ hk => ⟨x, (h x).keep W W' hi hk⟩, fun W l o o' ⟨x, hi⟩ hb hl ho => ⟨x, (h x).put W l o o' hi hb hl ho⟩⟩
theorem Stable.hid {B : Nat} {I : World → Prop} (h : Stable B I) : Stable B fun W => Hid (I W) :=
  ⟨fun W W' hi hk => Lib.hid (h.keep W W' hi.out hk), fun W l o o' hi hb hl ho => Lib.hid (h.put W l o o' hi.out hb hl ho)⟩
theorem put_row {W : World} {l : Nat} {o o' : Obj} (hl : W.heap[l]? = some o) (ho : o.isCells = false) : ∀ r, some l = some r → ∃ o : Obj, W.heap[r]? = some o ∧ o.isCells = false := fun r e => by cases e; exact ⟨o, hl, ho⟩
theorem Stable.cell {B : Nat} (a : Addr) (v : Value) : Stable B fun W => W.cell? a = some v :=
  ⟨fun W W' h hk => (hk.cell (World.block_lt_of_cell? W _ h)).trans h, fun W l o o' h _ hl ho => cell_kept h (grownBy_putObj' W l o') (put_row (o' := o') hl ho)⟩
/-- A cell that may be written. -/
def Open (W : World) (a : Addr) (v : Value) : Prop := W.cell? a = some v ∧ W.frozen? a = false
theorem Stable.open_ {B : Nat} (a : Addr) (v : Value) : Stable B fun W => Open W a v :=
  ⟨fun W W' h hk => ⟨(hk.cell (World.block_lt_of_cell? W _ h.1)).trans h.1, (hk.frozen (World.block_lt_of_cell? W _ h.1)).trans h.2⟩,
   fun W l o o' h _ hl ho => ⟨cell_kept h.1 (grownBy_putObj' W l o') (put_row (o' := o') hl ho), (frozen_kept h.1 (grownBy_putObj' W l o') (put_row (o' := o') hl ho)).trans h.2⟩⟩
theorem keep_put {w W : World} {l : Nat} (o' : Obj) (h : Keep w W) (hl : w.heap.size ≤ l) : Keep w (W.putObj l o') := h.grown (grownBy_putObj' W l o') fun k e => by cases e; exact hl
theorem Stable.below {B : Nat} (w : World) (hB : w.heap.size ≤ B) : Stable B fun W => Keep w W :=
  ⟨fun _ _ h hk => h.trans hk, fun W l o o' h hb _ _ => keep_put o' h (Nat.le_trans hB hb)⟩
theorem Stable.size {B : Nat} (n : Nat) : Stable B fun W => n ≤ W.heap.size := ⟨fun _ _ h hk => Nat.le_trans h hk.size, fun W l o o' h _ _ _ => by simpa using h⟩
theorem Stable.lt {B : Nat} (n : Nat) : Stable B fun W => n < W.heap.size := ⟨fun _ _ h hk => Nat.lt_of_lt_of_le h hk.size, fun W l o o' h _ _ _ => by simpa using h⟩

/-- An iterator yields xs, where D tells that what it reads is there. -/
def Iter (P : Program) (gf : FuncId) (lb : Array Value) {α : Type} (encs : α → Array Value) (xs : List α) (D : World → Prop) : Prop :=
  ∀ (l : Nat) (J Jx : List α → World → Prop) (W : World), (∀ s A B, J s A → Keep A B → J s B) → (∀ s A B, Jx s A → Keep A B → Jx s B) → (∀ s A, J s A → D A) →
    (∀ pre x suf W1, xs = pre ++ x :: suf → J pre W1 → YieldAt Fence.wide 0 P l (encs x) W1 fun e W' => (e = .returned (.bool true) ∧ J (pre ++ [x]) W') ∨ (e = .returned (.bool false) ∧ Jx (pre ++ [x]) W')) →
    J [] W → Calls P gf (#[.func (.yield l) #[] #[]] ++ lb) W fun e W' => (∃ v, e = .returned v) ∧ (J xs W' ∨ ∃ pre, Jx pre W' ∧ ∃ suf, xs = pre ++ suf)

/-- How the body of a round is left. -/
def RoundQ {α : Type} (B : Nat) (I : List α → World → Prop) (Ix : Code → List α → World → Prop) (xs : List α) (W : World) : Exit → Act → World → Prop
  | .normal, _, W' => KeepsFrom B W W' ∧ I xs W'
  | .ret, _, W' => KeepsFrom B W W' ∧ Ix .ret xs W'
  | .exit id, _, W' => KeepsFrom B W W' ∧ Ix (.exit id) xs W'
  | .goto t, _, W' => KeepsFrom B W W' ∧ Ix (.goto t) xs W'
  | .panic _, _, _ => False
  | .outgrown, _, _ => False

/-- The mark of a range over a function among a frame's deferred calls. -/
abbrev mark (D : Nat) : Deferred := { target := .collected D, args := #[] }
theorem KeepsFrom.keep {B : Nat} {W W' : World} (h : Keep W W') : KeepsFrom B W W' := ⟨h.size, fun k o _ hk _ => (h.block k (Array.getElem?_eq_some_iff.1 hk).1).trans hk⟩
theorem KeepsFrom.set {B : Nat} (W : World) (a : Addr) (v : Value) : KeepsFrom B W (W.setCell a v) := (KeepsOthers.setCell W a v).from B

theorem wp_range {α : Type} {g : Operand} {ps : Array Tmp} {assign body : Code} {Q : Exit → Act → World → Prop} {a : Act} {w : World} {gf : Nat} {lb : Array Value} (hg : a.eval g = .func (.func gf) #[] lb)
    (eg : ∀ args w, (callFunc gf args).run P w = .ok (.enter gf args) w) {encs : α → Array Value} {xs : List α} {D : World → Prop} (hit : Iter P gf lb encs xs D) (hps : ∀ x, (encs x).size = ps.size)
    (I : List α → World → Prop) (Ix : Code → List α → World → Prop) (Ax : α → Act → World → Prop) (hI : ∀ s, Stable w.heap.size (I s)) (hIx : ∀ c s, Stable w.heap.size (Ix c s)) (hAx : ∀ x b, Stable w.heap.size (Ax x b))
    (hID : ∀ s A, I s A → D A) (h0 : I [] w)
    (hassign : ∀ (r : Nat) (pre : List α) (x : α) (suf : List α) (W : World) (K : Act → World → Prop), xs = pre ++ x :: suf → I pre W → (∀ a₁ W₁, Ax x a₁ W₁ → Keep W W₁ → K a₁ W₁) →
      assign.wpIn (Fence.wide.inRound r) 0 P (Exit.then K (fun _ _ _ => False)) { tmps := (ps.zip (encs x)).foldl (fun t (p, v) => t.setIfInBounds p v) a.tmps, defers := [] } W)
    (hbody : ∀ (r : Nat) (pre : List α) (x : α) (suf : List α) (a₁ : Act) (W : World), xs = pre ++ x :: suf → I pre W → Ax x a₁ W → body.wpIn (Fence.wide.inRound r) 0 P (RoundQ w.heap.size I Ix (pre ++ [x]) W) a₁ W)
    (hdone : ∀ (E : Nat) (W : World), w.heap.size ≤ E → I xs W → W.heap[E]? = some (.deferred (some [])) → Q .normal { a with defers := mark E :: a.defers } W)
    (hstop : ∀ (E : Nat) (c : Code) (pre : List α) (W : World), w.heap.size ≤ E → Ix c pre W → (∃ suf, xs = pre ++ suf) → W.heap[E]? = some (.deferred (some [])) → c.wp P Q { a with defers := mark E :: a.defers } W) :
    (Code.rangeFunc g ps assign body).wp P Q a w := by
  refine (wpIn_wide (n := 0)).1 (wpIn_rangeFunc ?_)
  intro fn _
  rw [show Fence.wide.round = none from rfl]
  obtain ⟨rec, hrec⟩ : ∃ rec : LoopState → Option Code → Loop, rec = fun st pe => { state := st, pending := pe, fn, tmps := a.tmps, params := ps, assign, body, defers := w.heap.size } := ⟨_, rfl⟩
  obtain ⟨W1, hW1⟩ : ∃ W1, (w.alloc (.deferred (some []))).alloc (.loop (rec .ready none)) = W1 := ⟨_, rfl⟩
  have hL1 : W1.heap[w.heap.size + 1]? = some (.loop (rec .ready none)) := by
    rw [← hW1]; have := World.alloc_heap_new (w.alloc (.deferred (some []))) (.loop (rec .ready none)); rwa [World.size_alloc] at this
  have hK1 : W1.heap[w.heap.size]? = some (.deferred (some [])) := by
    rw [← hW1]; exact (Below.heap_alloc _ _ _ (by simp)).trans (World.alloc_heap_new w _)
  have hkw : Keep w W1 := by rw [← hW1]; exact ((Keep.refl w).alloc _).alloc _
  have hI1 : I [] W1 := (hI []).keep _ _ h0 hkw
  have hblk : ∀ {A B : World} {k : Nat} {o : Obj}, Keep A B → A.heap[k]? = some o → B.heap[k]? = some o := fun hk h => (hk.block _ (Array.getElem?_eq_some_iff.1 h).1).trans h
  refine ⟨w.heap.size + 1, [mark w.heap.size], W1, { target := .fn (.func gf) lb, args := #[.func (.yield (w.heap.size + 1)) #[] #[]] }, W1, gf,
    #[.func (.yield (w.heap.size + 1)) #[] #[]] ++ lb, W1, ?_, ?_, ?_, ?_, fun h => (by cases h), callsIn_wide.2 ?_⟩
  · rw [← hW1, hrec]; exact run_enterLoop_outer _ _ _ _ _
  · simp only [resolve, hg]
    simp [go_sem]
  · intro f' _; trivial
  · simp [invoke, go_sem, eg]
  · refine (hit (w.heap.size + 1)
      (fun pre W => I pre W ∧ W.heap[w.heap.size + 1]? = some (.loop (rec .ready none)) ∧ W.heap[w.heap.size]? = some (.deferred (some [])))
      (fun pre W => ∃ c, Ix c pre W ∧ W.heap[w.heap.size + 1]? = some (.loop (rec .done (some c))) ∧ W.heap[w.heap.size]? = some (.deferred (some [])))
      W1 (fun s A B h hk => ⟨(hI s).keep _ _ h.1 hk, hblk hk h.2.1, hblk hk h.2.2⟩) (fun s A B ⟨c, h1, h2, h3⟩ hk => ⟨c, (hIx c s).keep _ _ h1 hk, hblk hk h2, hblk hk h3⟩) (fun s A h => hID s A h.1) ?_ ⟨hI1, hL1, hK1⟩).mono ?_
    · rintro pre x suf W hxs ⟨hi, hl, hk⟩
      have hlt : w.heap.size + 1 < W.heap.size := (Array.getElem?_eq_some_iff.1 hl).1
      have hy := run_yield (P := P) (args := encs x) hl (by rw [hrec]; exact hps x)
      rw [hrec] at hy
      refine ⟨fn, _, assign, body, hy, roundIn_of_wpIn trivial (hassign _ pre x suf W _ hxs hi fun a₁ W₁ hx₁ hk₁ => ?_)⟩
      have hl₁ := hblk hk₁ hl
      have hd₁ := hblk hk₁ hk
      have hlt₁ : w.heap.size + 1 < W₁.heap.size := (Array.getElem?_eq_some_iff.1 hl₁).1
      refine ⟨_, run_beginRound hl₁ (by rw [hrec]), ?_⟩
      have hl2 : (W₁.putObj (w.heap.size + 1) (.loop { rec .ready none with state := .busy })).heap[w.heap.size + 1]? = some (.loop { rec .ready none with state := .busy }) := World.putObj_heap_same hlt₁
      have hk2 : (W₁.putObj (w.heap.size + 1) (.loop { rec .ready none with state := .busy })).heap[w.heap.size]? = some (.deferred (some [])) := (World.putObj_heap_other (by omega)).trans hd₁
      refine wpIn_mono (hbody _ pre x suf a₁ _ hxs ((hI pre).put _ _ _ _ ((hI pre).keep _ _ hi hk₁) (by omega) hl₁ rfl) ((hAx x a₁).put _ _ _ _ hx₁ (by omega) hl₁ rfl)) ?_
      have fin : ∀ (jump : Option Code) (W3 : World), KeepsFrom w.heap.size (W₁.putObj (w.heap.size + 1) (.loop { rec .ready none with state := .busy })) W3 →
          (Instr.endRound (w.heap.size + 1) jump).run P W3 = .ok (.bool jump.isNone) (W3.putObj (w.heap.size + 1) (.loop (rec (if jump.isNone then .ready else .done) jump))) ∧
          W3.heap[w.heap.size + 1]? = some (.loop { rec .ready none with state := .busy }) ∧
          (W3.putObj (w.heap.size + 1) (.loop (rec (if jump.isNone then .ready else .done) jump))).heap[w.heap.size + 1]? = some (.loop (rec (if jump.isNone then .ready else .done) jump)) ∧
          (W3.putObj (w.heap.size + 1) (.loop (rec (if jump.isNone then .ready else .done) jump))).heap[w.heap.size]? = some (.deferred (some [])) := fun jump W3 hk3 => by
        have hl3 := hk3.same _ _ (by omega) hl2 rfl
        have := run_endRound (P := P) jump hl3
        rw [hrec] at this ⊢
        exact ⟨this, by rw [hrec] at hl3; exact hl3, World.putObj_heap_same (Array.getElem?_eq_some_iff.1 hl3).1, (World.putObj_heap_other (by omega)).trans (hk3.same _ _ (Nat.le_refl _) hk2 rfl)⟩
      rintro e a3 W3 hp
      cases e with
      | normal =>
        obtain ⟨hk3, hi3⟩ := hp
        obtain ⟨hr, hl3, hl4, hk4⟩ := fin none W3 hk3
        exact ⟨_, _, hr, .inl ⟨rfl, (hI _).put _ _ _ _ hi3 (by omega) hl3 rfl, hl4, hk4⟩⟩
      | ret =>
        obtain ⟨hk3, hi3⟩ := hp
        obtain ⟨hr, hl3, hl4, hk4⟩ := fin (some .ret) W3 hk3
        exact ⟨_, _, hr, .inr ⟨rfl, .ret, (hIx _ _).put _ _ _ _ hi3 (by omega) hl3 rfl, hl4, hk4⟩⟩
      | exit id =>
        obtain ⟨hk3, hi3⟩ := hp
        obtain ⟨hr, hl3, hl4, hk4⟩ := fin (some (.exit id)) W3 hk3
        exact ⟨_, _, hr, .inr ⟨rfl, .exit id, (hIx _ _).put _ _ _ _ hi3 (by omega) hl3 rfl, hl4, hk4⟩⟩
      | goto t =>
        obtain ⟨hk3, hi3⟩ := hp
        obtain ⟨hr, hl3, hl4, hk4⟩ := fin (some (.goto t)) W3 hk3
        exact ⟨_, _, hr, .inr ⟨rfl, .goto t, (hIx _ _).put _ _ _ _ hi3 (by omega) hl3 rfl, hl4, hk4⟩⟩
      | panic ch => exact hp.elim
      | outgrown => exact hp.elim
    · rintro e W2 ⟨⟨v, rfl⟩, (⟨hi, hl, hk⟩ | ⟨pre, ⟨c, hi, hl, hk⟩, hsuf⟩)⟩
      · exact ⟨none, _, by have := run_endLoop (P := P) hl (by rw [hrec]; simp); rw [hrec] at this; exact this, hdone _ _ (Nat.le_refl _) ((hI _).put _ _ _ _ hi (by omega) hl rfl) ((World.putObj_heap_other (by omega)).trans hk)⟩
      · exact ⟨some c, _, by have := run_endLoop (P := P) hl (by rw [hrec]; simp); rw [hrec] at this; exact this,
          (wpIn_wide (n := 0)).2 (hstop _ c pre _ (Nat.le_refl _) ((hIx c _).put _ _ _ _ hi (by omega) hl rfl) hsuf ((World.putObj_heap_other (by omega)).trans hk))⟩

theorem heap_set_ne {W : World} {a : Addr} {v : Value} {E : Nat} (h : a.block ≠ E) : (W.setCell a v).heap[E]? = W.heap[E]? := by
  simp only [World.setCell, Array.getElem?_modify]
  rw [if_neg h]
theorem heap_keep {W W' : World} {E : Nat} {o : Obj} (hk : Keep W W') (h : W.heap[E]? = some o) : W'.heap[E]? = some o := (hk.block _ (Array.getElem?_eq_some_iff.1 h).1).trans h
theorem heap_lt {W : World} {E : Nat} {o : Obj} (h : W.heap[E]? = some o) : E < W.heap.size := (Array.getElem?_eq_some_iff.1 h).1
theorem cell_put {W : World} {E : Nat} {o o' : Obj} {a : Addr} {u : Value} (h : W.cell? a = some u) (hE : W.heap[E]? = some o) (ho : o.isCells = false) : (W.putObj E o').cell? a = some u :=
  cell_kept h (grownBy_putObj' W E o') (put_row (o' := o') hE ho)
theorem Stable.hpure {B : Nat} {p : Prop} {I : World → Prop} (h : Stable B I) : Stable B fun W => p ∧ I W := (Stable.pure p).and h
/-- The same: the frame behind the assignment told by a number. -/
theorem wp_range_frame {α : Type} {g : Operand} {ps : Array Tmp} {assign body : Code} {Q : Exit → Act → World → Prop} {a : Act} {w : World} {gf : Nat} {lb : Array Value} (frame : α → Nat → Act) (hg : a.eval g = .func (.func gf) #[] lb)
    (eg : ∀ args w, (callFunc gf args).run P w = .ok (.enter gf args) w) {encs : α → Array Value} {xs : List α} {D : World → Prop} (hit : Iter P gf lb encs xs D) (hps : ∀ x, (encs x).size = ps.size)
    (I : List α → World → Prop) (Ix : Code → List α → World → Prop) (C : α → Nat → World → Prop) (hI : ∀ s, Stable w.heap.size (I s)) (hIx : ∀ c s, Stable w.heap.size (Ix c s)) (hC : ∀ x b, Stable w.heap.size (C x b))
    (hID : ∀ s A, I s A → D A) (h0 : I [] w)
    (hassign : ∀ (r : Nat) (pre : List α) (x : α) (suf : List α) (W : World) (K : Act → World → Prop), xs = pre ++ x :: suf → I pre W → (∀ b W₁, C x b W₁ → Keep W W₁ → K (frame x b) W₁) →
      assign.wpIn (Fence.wide.inRound r) 0 P (Exit.then K (fun _ _ _ => False)) { tmps := (ps.zip (encs x)).foldl (fun t (p, v) => t.setIfInBounds p v) a.tmps, defers := [] } W)
    (hbody : ∀ (r : Nat) (pre : List α) (x : α) (suf : List α) (b : Nat) (W : World), xs = pre ++ x :: suf → I pre W → C x b W → body.wpIn (Fence.wide.inRound r) 0 P (RoundQ w.heap.size I Ix (pre ++ [x]) W) (frame x b) W)
    (hdone : ∀ (E : Nat) (W : World), w.heap.size ≤ E → I xs W → W.heap[E]? = some (.deferred (some [])) → Q .normal { a with defers := mark E :: a.defers } W)
    (hstop : ∀ (E : Nat) (c : Code) (pre : List α) (W : World), w.heap.size ≤ E → Ix c pre W → (∃ suf, xs = pre ++ suf) → W.heap[E]? = some (.deferred (some [])) → c.wp P Q { a with defers := mark E :: a.defers } W) :
    (Code.rangeFunc g ps assign body).wp P Q a w :=
  wp_range hg eg hit hps I Ix (fun x a₁ W => ∃ b, a₁ = frame x b ∧ C x b W) hI hIx (fun x a₁ => Stable.ex fun b => Stable.hpure (hC x b)) hID h0
    (fun r pre x suf W K hx hi hK => hassign r pre x suf W K hx hi fun b W₁ hc hk => hK _ _ ⟨b, rfl, hc⟩ hk)
    (fun r pre x suf a₁ W hx hi ⟨b, ha, hc⟩ => by subst ha; exact hbody r pre x suf b W hx hi hc) hdone hstop
/-- Over an iterator that yields nothing. -/
theorem wp_range_nil {α : Type} {g : Operand} {ps : Array Tmp} {assign body : Code} {Q : Exit → Act → World → Prop} {a : Act} {w : World} {gf : Nat} {lb : Array Value} (hg : a.eval g = .func (.func gf) #[] lb)
    (eg : ∀ args w, (callFunc gf args).run P w = .ok (.enter gf args) w) {encs : α → Array Value} {D : World → Prop} (hit : Iter P gf lb encs [] D) (hps : ∀ x, (encs x).size = ps.size) (hD : ∀ W, Keep w W → D W)
    (hdone : ∀ (E : Nat) (p : GB), w.heap.size ≤ E → Hid ((w.gro p).heap[E]? = some (.deferred (some []))) → Q .normal { a with defers := mark E :: a.defers } (w.gro p)) : (Code.rangeFunc g ps assign body).wp P Q a w := by
  refine wp_range hg eg hit hps (fun _ W => Keep w W) (fun _ _ _ => False) (fun _ _ _ => False) (fun _ => Stable.below w (Nat.le_refl _)) (fun _ _ => Stable.pure False) (fun _ _ => Stable.pure False) (fun _ A h => hD A h) (Keep.refl w) ?_ ?_ ?_ ?_
  · intro r pre x suf W K hx
    simp at hx
  · intro r pre x suf a₁ W hx
    simp at hx
  · intro E W hE hk hb
    obtain ⟨p, rfl⟩ := gro_of_below w hk
    exact hdone E p hE (Lib.hid hb)
  · intro E c pre W hE h
    exact h.elim

/-- What a function's body with such statements comes to. -/
def PostM (P : Program) (fn : Func) (R : Ending → World → Prop) : Exit → Act → World → Prop := bodyPostM Fence.wide 0 P fn R
theorem calls_of_marks {f : FuncId} {fn : Func} {c : Code} {args : Array Value} {w : World} {R : Ending → World → Prop} (hf : P.funcs[f]? = some fn) (hb : fn.body = some c)
    (h : c.wp P (PostM P fn R) { tmps := args ++ Array.replicate (fn.ntmps - args.size) undef, defers := [] } w) : Calls P f args w R :=
  (callsIn_wide (n := 0)).1 (callsIn_of_wp_marks hf hb trivial ((wpIn_wide (n := 0)).2 h))
theorem postM_of_body {fn : Func} {R : Ending → World → Prop} {a : Act} {w : World} {e : Exit} (he : e = .ret ∨ e = .normal) (hd : a.defers = []) {v : Value} (h1 : (results fn a.tmps).run P w = .ok v w) (h2 : R (.returned v) w) : PostM P fn R e a w := by
  have : LeavesInM Fence.wide 0 P fn a.tmps R a.defers .returning w := by rw [hd]; exact ⟨v, h1, h2⟩
  rcases he with rfl | rfl <;> exact this
theorem postM_mark {fn : Func} {R : Ending → World → Prop} {a : Act} {w : World} {e : Exit} (he : e = .ret ∨ e = .normal) {E : Nat} {ds : List Deferred} (hd : a.defers = mark E :: ds) (hk : w.heap[E]? = some (.deferred (some [])))
    (h : PostM P fn R e { a with defers := ds } (w.putObj E (.deferred none))) : PostM P fn R e a w := by
  have : LeavesInM Fence.wide 0 P fn a.tmps R ds .returning (w.putObj E (.deferred none)) → LeavesInM Fence.wide 0 P fn a.tmps R a.defers .returning w := fun h => by
    rw [hd]; exact ⟨by simp, .inl ⟨_, _, rfl, run_takeDeferred hk, h⟩⟩
  rcases he with rfl | rfl <;> exact this h
end Go.Zone
