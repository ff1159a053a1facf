/-
  A region that draws its order, walked once in the order of the text: reads, calls that may lay blocks of their own, and results whose place hangs on the order.
-/
import Derived.StillTail
import Derived.Below
import Derived.Deep.Draws
import Derived.Maps.AppendAt
import Derived.Tactics
namespace Go.Zone
open Go.RowKit

theorem hold {p : Prop} (h : Hid p) : p := h
theorem unhold {p : Prop} (h : p) : Hid p := h
/-- All that was there is as it was. -/
def Keep (W W' : World) : Prop := Below W.heap.size W W'
theorem keep_refl (W : World) : Keep W W ↔ True := ⟨fun _ => trivial, fun _ => Below.refl _ _⟩
theorem Keep.refl (W : World) : Keep W W := Below.refl _ _
theorem Keep.trans {a b c : World} (h : Keep a b) (k : Keep b c) : Keep a c := Below.trans h (Below.mono k h.size)
abbrev Pred := Value → World → Prop
def Mono (Ψ : Pred) : Prop := ∀ v W W', Keep W W' → Ψ v W → Ψ v W'

/-- What an operation comes to: a value of which Ψ holds, and all that was there as it was. -/
def goesUpon (P : Program) (W : World) (Ψ : Pred) : Result Next → Prop
  | .ok (.value u) W' => Ψ u W' ∧ Keep W W'
  | .ok .skip W' => Ψ undef W' ∧ Keep W W'
  | .ok (.enter f args) W' => Calls P f args W' fun e w'' => ∃ u, e = .returned u ∧ Ψ u w'' ∧ Keep W w''
  | _ => False
def goes (P : Program) (o : Oper) (b : Act) (W : World) (Ψ : Pred) : Prop := goesUpon P W Ψ ((execOp b.eval o).run P W)

abbrev Slots := Tmp → Pred
def upd (A : Slots) (d : Option Tmp) (Ψ : Pred) : Slots := fun t => if d = some t then Ψ else A t

section
variable {P : Program} {ops : Array Oper} {md : Region.Mode} {B : Nat} {w0 : World} {m : Nat} {df : List Deferred}

def sees (A : Slots) (m : Nat) (b : Act) (W : World) : Prop := ∀ t : Nat, t < m → A t (b.tmps.getD t undef) W

def stepA (P : Program) (ops : Array Oper) (w0 : World) (m : Nat) (df : List Deferred) (A : Slots) (o : Oper) (Ψ : Pred) : Prop :=
  Mono Ψ ∧ ∀ (b : Act) (W : World), b.defers = df → b.tmps.size = m → Below w0.heap.size w0 W → (∀ t ∈ o.looksAt ops, t < m → A t (b.tmps.getD t undef) W) →
    if Region.wanted o (yielded ops b.tmps) then goes P o b W Ψ else Ψ undef W

theorem stepA_congr {A A' : Slots} {o : Oper} {Ψ : Pred} (h : stepA P ops w0 m df A o Ψ) (hA : ∀ t ∈ o.looksAt ops, A' t = A t) : stepA P ops w0 m df A' o Ψ :=
  ⟨h.1, fun b W hd hm hW hs => h.2 b W hd hm hW fun t ht htm => by rw [← hA t ht]; exact hs t ht htm⟩

theorem upd_comm (A : Slots) {x y : Option Tmp} (Ψ Φ : Pred) (h : ∀ d, x = some d → y ≠ some d) : upd (upd A x Ψ) y Φ = upd (upd A y Φ) x Ψ := by
  funext t
  unfold upd
  by_cases hx : x = some t <;> by_cases hy : y = some t <;> simp [hx, hy]
  exact absurd hy (h t hx)

theorem upd_other (A : Slots) {x : Option Tmp} (Ψ : Pred) {l : List Tmp} (h : ∀ d, x = some d → d ∉ l) : ∀ t ∈ l, upd A x Ψ t = A t := fun t ht => by
  unfold upd
  rw [if_neg (fun e => h t e ht)]

/-- The walk of the text. -/
def wpA (P : Program) (ops : Array Oper) (w0 : World) (m : Nat) (df : List Deferred) (Q : Slots → Prop) : List Oper → Slots → Prop
  | [], A => Q A
  | o :: rest, A => ∃ Ψ, stepA P ops w0 m df A o Ψ ∧ wpA P ops w0 m df Q rest (upd A o.dst Ψ)

/-- Whatever order. -/
def wpAnyA (P : Program) (md : Region.Mode) (ops : Array Oper) (w0 : World) (m : Nat) (df : List Deferred) (n : Nat) (L : Array Bool → Slots → Prop) : Nat → Array Bool → Slots → Prop
  | 0, listed, A => L listed A
  | f + 1, listed, A =>
    Region.ready md ops listed ≠ [] ∧ ∀ i ∈ Region.ready md ops listed, i < n ∧ ∃ o Ψ, ops[i]? = some o ∧ stepA P ops w0 m df A o Ψ ∧ wpAnyA P md ops w0 m df n L f (listed.setIfInBounds i true) (upd A o.dst Ψ)

theorem wpAnyA_first {n i : Nat} {oi : Oper} {Ψi : Pred} {L : Array Bool → Slots → Prop} (hi : ops[i]? = some oi)
    (hhead : ∀ listed, HeadInv md ops n listed → (∃ i, i < n ∧ listed.getD i true = false) → ∀ j ∈ Region.ready md ops listed, j < n) (hin : i < n)
    (hdone : ∀ listed A, L listed A → ∀ j ∈ Region.ready md ops listed, n ≤ j) :
    ∀ (f : Nat) (listed : Array Bool) (A : Slots), HeadInv md ops n listed →
      (∀ j oj, ops[j]? = some oj → j ≠ i → listed.getD j true = false → (∀ e ∈ oj.after, Region.binds md e = true → e.on ≠ i) → oi.apart ops oj = true) →
      i ∈ Region.ready md ops listed → stepA P ops w0 m df A oi Ψi →
      wpAnyA P md ops w0 m df n L f (listed.setIfInBounds i true) (upd A oi.dst Ψi) → wpAnyA P md ops w0 m df n L (f + 1) listed A := by
  intro f
  induction f with
  | zero =>
    intro listed A inv _ hr hy H
    have hun := (mem_ready.1 hr).1
    refine ⟨fun h => (by rw [h] at hr; cases hr), fun j hj => ?_⟩
    have hjn : j < n := hhead listed inv ⟨i, hin, hun⟩ j hj
    refine ⟨hjn, ?_⟩
    by_cases hji : j = i
    · subst hji; exact ⟨oi, Ψi, hi, hy, H⟩
    · have := hdone _ _ H j (ready_mono hj hji)
      omega
  | succ f ih =>
    intro listed A inv hfree hr hy H
    have hun := (mem_ready.1 hr).1
    refine ⟨fun h => (by rw [h] at hr; cases hr), fun j hj => ?_⟩
    have hjn : j < n := hhead listed inv ⟨i, hin, hun⟩ j hj
    refine ⟨hjn, ?_⟩
    by_cases hji : j = i
    · subst hji; exact ⟨oi, Ψi, hi, hy, H⟩
    · obtain ⟨_, oj, Ψj, hoj, hsj, hrest⟩ := H.2 j (ready_mono hj hji)
      obtain ⟨hjun, oj', hoj', hall⟩ := mem_ready.1 hj
      have : oj' = oj := Option.some.inj (hoj'.symm.trans hoj)
      subst this
      have hnot : ∀ e ∈ oj'.after, Region.binds md e = true → e.on ≠ i := fun e he hb heq => by
        have h1 := hall e he hb
        rw [heq, getD_both hun] at h1
        cases h1
      obtain ⟨h1, h2, h3⟩ := Oper.apart_spec (hfree j oj' hoj hji hjun hnot)
      have hfree' : ∀ k ok, ops[k]? = some ok → k ≠ i → (listed.setIfInBounds j true).getD k true = false →
          (∀ e ∈ ok.after, Region.binds md e = true → e.on ≠ i) → oi.apart ops ok = true := fun k ok hk hki hun hno => by
        refine hfree k ok hk hki ?_ hno
        by_cases hjk : j = k
        · subst hjk; exact hjun
        · rw [getD_set_ne true hjk] at hun; exact hun
      refine ⟨oj', Ψj, hoj, stepA_congr hsj (fun t ht => (upd_other A Ψi h1 t ht).symm), ?_⟩
      refine ih (listed.setIfInBounds j true) _ (inv.set hj hjn) hfree' (ready_mono hr (Ne.symm hji)) (stepA_congr hy (upd_other A Ψj h3)) ?_
      rw [Array.setIfInBounds_comm _ _ hji, ← upd_comm A Ψi Ψj h2]
      exact hrest

theorem wpAnyA_lex {n g : Nat} {Lq : Slots → Prop} (hhead : ∀ listed, HeadInv md ops n listed → (∃ i, i < n ∧ listed.getD i true = false) → ∀ j ∈ Region.ready md ops listed, j < n) :
    ∀ (l : List Oper) (k : Nat) (listed : Array Bool) (A : Slots), (∀ j, j < l.length → l[j]? = ops[k + j]?) → k + l.length = n → HeadInv md ops n listed →
    Region.lexHead md ops g l.length k listed = true → wpA P ops w0 m df Lq l A →
    wpAnyA P md ops w0 m df n (fun listed' A' => Region.seqB md ops g n listed' = true ∧ Lq A') l.length listed A
  | [], k, listed, A, _, hk, _, hB, h => by
    have : k = n := by simpa using hk
    subst this
    exact ⟨by simpa [Region.lexHead] using hB, h⟩
  | o :: l, k, listed, A, hl, hk, inv, hB, h => by
    have h0 : ops[k]? = some o := by simpa using (hl 0 (by simp)).symm
    simp only [List.length_cons, Region.lexHead, Bool.and_eq_true] at hB
    obtain ⟨⟨hr, hf⟩, hB'⟩ := hB
    have hkn : k < n := by simp only [List.length_cons] at hk; omega
    have hr' : k ∈ Region.ready md ops listed := by simpa using hr
    obtain ⟨Ψ, hy, hK⟩ := h
    exact wpAnyA_first h0 hhead hkn (fun listed' A' hL => seqB_ready hL.1) l.length listed A inv (Region.free_spec h0 hf) hr' hy
      (wpAnyA_lex hhead l (k + 1) _ _ (fun j hj => by have := hl (j + 1) (by simp; omega); simpa [Nat.add_assoc, Nat.add_comm 1 j] using this) (by simp only [List.length_cons] at hk; omega) (inv.set hr' hkn) hB' hK)

def MonoA (A : Slots) : Prop := ∀ t, Mono (A t)

theorem getD_put (b : Act) (d : Option Tmp) (u : Value) (t : Nat) (ht : t < b.tmps.size) : (b.put d u).tmps.getD t undef = if d = some t then u else b.tmps.getD t undef := by
  cases d with
  | none => simp [Act.put]
  | some d =>
    by_cases h : d = t
    · subst h; simp [Act.put, ht]
    · have h' : ¬ (some d = some t) := fun e => h (Option.some.inj e)
      simp [Act.put, h', Array.getElem?_setIfInBounds_ne h]

theorem put_size (b : Act) (d : Option Tmp) (u : Value) : (b.put d u).tmps.size = b.tmps.size := by cases d <;> simp [Act.put]
theorem put_defers' (b : Act) (d : Option Tmp) (u : Value) : (b.put d u).defers = b.defers := by cases d <;> simp [Act.put]

theorem sees_put {A : Slots} {b : Act} {W W' : World} {d : Option Tmp} {u : Value} {Ψ : Pred} (hA : MonoA A) (hs : sees A m b W) (hm : b.tmps.size = m) (hb : Below W.heap.size W W') (hu : Ψ u W') :
    sees (upd A d Ψ) m (b.put d u) W' := fun t ht => by
  rw [getD_put b d u t (by omega)]
  unfold upd
  split
  · exact hu
  · exact hA t _ _ _ hb (hs t ht)

theorem below_chain {W W' : World} (h : Below w0.heap.size w0 W) (k : Below W.heap.size W W') : Below w0.heap.size w0 W' := h.trans (k.mono h.size)

theorem wpAny_of_A {n g : Nat} {L : Array Bool → Slots → Prop} {Q' : Exit → Act → World → Prop}
    (hL : ∀ listed A b W, L listed A → b.defers = df → b.tmps.size = m → Below w0.heap.size w0 W → sees A m b W → wpAny P md ops Q' g listed b W) :
    ∀ (f : Nat) (listed : Array Bool) (A : Slots), MonoA A → wpAnyA P md ops w0 m df n L f listed A → ∀ b W, b.defers = df → b.tmps.size = m → Below w0.heap.size w0 W → sees A m b W → wpAny P md ops Q' (f + g) listed b W
  | 0, listed, A, _, h, b, W, hd, hm, hW, hs => by rw [Nat.zero_add]; exact hL _ _ _ _ h hd hm hW hs
  | f + 1, listed, A, hA, h, b, W, hd, hm, hW, hs => by
    rw [show f + 1 + g = (f + g) + 1 by omega]
    refine ⟨fun h0 => absurd h0 h.1, fun i hi => ?_⟩
    obtain ⟨_, o, Ψ, ho, ⟨hM, hst⟩, hrest⟩ := h.2 i hi
    have hst' := hst b W hd hm hW (fun t _ htm => hs t htm)
    have hA' : MonoA (upd A o.dst Ψ) := fun t => by
      unfold upd
      split
      · exact hM
      · exact hA t
    have go : ∀ u W', Ψ u W' → Below W.heap.size W W' → wpAny P md ops Q' (f + g) (listed.setIfInBounds i true) (b.put o.dst u) W' := fun u W' hu hb =>
      wpAny_of_A hL f _ _ hA' hrest _ _ (by rw [put_defers', hd]) (by rw [put_size, hm]) (below_chain hW hb) (sees_put hA hs hm hb hu)
    unfold wpOp
    simp only [ho]
    split
    · rename_i hw
      rw [if_pos hw] at hst'
      refine .inl ?_
      unfold goes at hst'
      unfold Oper.wp
      generalize (execOp b.eval o).run P W = r at *
      cases r with
      | ok nx w' =>
        cases nx <;> simp only [goesUpon] at hst' <;> simp only [Oper.upon]
        case value u => exact go u w' hst'.1 hst'.2
        case skip => exact go undef w' hst'.1 hst'.2
        case enter f args =>
          refine hst'.mono fun e w'' ⟨u, he, hu, hb⟩ => ?_
          subst he
          exact go u w'' hu hb
      | halt x w' => simp only [goesUpon] at hst'
    · rename_i hw
      rw [if_neg hw] at hst'
      exact go undef W hst' (Below.refl _ _)

def zoneB (ops : Array Oper) (n : Nat) : Bool :=
  (decide (n = ops.size) || (decide (n < ops.size) && Region.sinkB .any ops n && Region.chainB .any ops n)) && Region.lexHead .any ops (ops.size - n) n 0 (Array.replicate ops.size false)

theorem head_of {n : Nat} (h : (decide (n = ops.size) || (decide (n < ops.size) && Region.sinkB md ops n && Region.chainB md ops n)) = true) (listed : Array Bool) (inv : HeadInv md ops n listed)
    (hx : ∃ i, i < n ∧ listed.getD i true = false) : ∀ j ∈ Region.ready md ops listed, j < n := fun j hj => by
  simp only [Bool.or_eq_true, Bool.and_eq_true, decide_eq_true_eq] at h
  rcases h with h | ⟨⟨h1, h2⟩, h3⟩
  · obtain ⟨_, o, ho, _⟩ := mem_ready.1 hj
    have := (Array.getElem?_eq_some_iff.1 ho).1
    omega
  · obtain ⟨i, hi, hun⟩ := hx
    rcases Nat.lt_or_ge j n with h | h
    · exact h
    · exact absurd hj (tail_waits h2 h3 h1 inv _ i rfl hi hun j h)

theorem below_drawn (w : World) (d : Nat) : Below w.heap.size w { w with drawn := d } := ⟨rfl, rfl, rfl, Nat.le_refl _, fun _ _ => rfl⟩

theorem wp_region_A {id : Nat} {Q : Exit → Act → World → Prop} {a : Act} {w w1 : World} (hk1 : Keep w w1) {l : List Oper} (n : Nat) (hm : P.follows .mixedOrders = true) (hB : zoneB l.toArray n = true) (hnl : n ≤ l.length)
    {A : Slots} (hA : MonoA A) (h0 : ∀ d, sees A a.tmps.size a { w1 with drawn := d })
    (h : wpA P l.toArray w a.tmps.size a.defers (fun A => ∀ b W, b.defers = a.defers → b.tmps.size = a.tmps.size → Below w.heap.size w W → sees A a.tmps.size b W → wpList P l.toArray Q (l.drop n) b W) (l.take n) A) : (Code.region id l.toArray true).wp P Q a w1 := by
  simp only [zoneB, Bool.and_eq_true] at hB
  obtain ⟨hn, hlex⟩ := hB
  have htl : (l.take n).length = n := by simp; omega
  have hdl : (l.drop n).length = l.toArray.size - n := by simp
  have inv0 : HeadInv .any l.toArray n (Array.replicate l.toArray.size false) :=
    ⟨by simp, fun j oj _ hl => (by rw [getD_replicate_false] at hl; cases hl), fun t _ ht => getD_in (by simpa using ht) (getD_replicate_false _ _)⟩
  have H := wpAnyA_lex (md := .any) (g := l.toArray.size - n) (head_of hn) (l.take n) 0 _ A (fun j hj => by
    have hj' : j < n := by rw [htl] at hj; exact hj
    simp [hj']) (by simpa using htl) inv0 (by rw [htl]; exact hlex) h
  refine wp_region_any hm ?_
  have hk2 : Below w.heap.size w { w1 with drawn := w1.drawn + 1 } := ⟨hk1.os, hk1.tape, hk1.output, hk1.size, hk1.block⟩
  have := wpAny_of_A (Q' := Q) (g := l.toArray.size - n) (fun listed A' b W hL hd hm hW hs => by
    have := wpAny_of_seq (md := .any) (Q' := Q) (l.drop n) n listed b W (fun j => by simp [List.getElem?_drop]) (by rw [hdl]; exact hL.1) (hL.2 b W hd hm hW hs)
    rwa [hdl] at this) _ _ _ hA H a { w1 with drawn := w1.drawn + 1 } rfl rfl hk2 (h0 _)
  rw [htl, show n + (l.toArray.size - n) = l.toArray.size by simp; omega] at this
  exact this
end

theorem lt_add {a b : Nat} (c : Nat) (h : a < b) : (a < b + c) = True := eq_true (Nat.lt_add_right c h)
/-- How far a world is from w: so many draws, these blocks behind. -/
structure GB where
  d : Nat
  os : Array Obj
  deriving Inhabited
def _root_.Go.World.gro (w : World) (p : GB) : World := { w with heap := w.heap ++ p.os, drawn := p.d }

section
variable (w : World) (p q : GB) (a : Addr) (k : Nat)
theorem below_gro : Below w.heap.size w (w.gro p) := ⟨rfl, rfl, rfl, by simp [World.gro], fun k hk => by simp [World.gro, Array.getElem?_append, hk]⟩
theorem gro_of_below {W : World} (h : Below w.heap.size w W) : ∃ p : GB, W = w.gro p := by
  refine ⟨⟨W.drawn, W.heap.extract w.heap.size W.heap.size⟩, ?_⟩
  obtain ⟨heap, tape, drawn, os, output⟩ := W
  have h1 := h.os; have h2 := h.tape; have h3 := h.output; have h4 := h.size; have h5 := h.block
  simp only at h1 h2 h3 h4 h5
  unfold World.gro
  simp only [World.mk.injEq]
  refine ⟨?_, h2, trivial, h1, h3⟩
  apply Array.ext_getElem?
  intro i
  rw [Array.getElem?_append]
  split
  · rename_i hi; exact h5 i hi
  · rename_i hi
    simp only [Array.getElem?_extract]
    split
    · congr 1; omega
    · rename_i h6; exact Array.getElem?_eq_none (by omega)
theorem heap_gro (h : k < w.heap.size) : (w.gro p).heap[k]? = w.heap[k]? := (below_gro w p).block k h
theorem size_gro : (w.gro p).heap.size = w.heap.size + p.os.size := by simp [World.gro]
theorem cell_gro (h : a.block < w.heap.size) : (w.gro p).cell? a = w.cell? a := (below_gro w p).cell h
theorem frozen_gro (h : a.block < w.heap.size) : (w.gro p).frozen? a = w.frozen? a := (below_gro w p).frozen h
theorem gro_of_gro {W : World} (h : Keep (w.gro p) W) : ∃ q : GB, W = w.gro q := gro_of_below w (below_chain (below_gro w p) h)
theorem gro_gro : (w.gro p).gro q = w.gro ⟨q.d, p.os ++ q.os⟩ := by simp [World.gro, Array.append_assoc]
theorem drew_gro : (w.gro p).drew = w.gro ⟨p.d + 1, p.os⟩ := rfl
theorem tape_gro : (w.gro p).tape = w.tape := rfl
theorem drawn_gro : (w.gro p).drawn = p.d := rfl
end

abbrev Frees := List (Tmp × Pred)
def slot (a : Act) (fs : Frees) : Slots := fun t v W => (∀ Φ, (t, Φ) ∈ fs → Φ v W) ∧ ((∀ Φ, (t, Φ) ∉ fs) → v = a.tmps.getD t undef)
def fill (W : World) : Frees → Act → (Act → Prop) → Prop
  | [], a, G => G a
  | (t, Φ) :: fs, a, G => ∀ v, Φ v W → fill W fs (a.put (some t) v) G
def lookFs (ops : Array Oper) (o : Oper) (fs : Frees) : Frees := fs.filter fun x => (o.looksAt ops).contains x.1
def dropFs (d : Option Tmp) (fs : Frees) : Frees := fs.filter fun x => d != some x.1
def stepZ (P : Program) (ops : Array Oper) (w : World) (o : Oper) (a : Act) (fs : Frees) (Ψ : Pred) : Prop :=
  ∀ p : GB, fill (w.gro p) (lookFs ops o fs) a fun b => if Region.wanted o (yielded ops b.tmps) then goes P o b (w.gro p) Ψ else Ψ undef (w.gro p)
def zone (P : Program) (ops : Array Oper) (w : World) (o : Oper) (a : Act) (fs : Frees) (K : Act → Frees → Prop) : Prop :=
  ∃ u, stepZ P ops w o a fs (fun v _ => v = u) ∧ K (a.put o.dst u) (dropFs o.dst fs)
/-- The walk. -/
def wpZ (P : Program) (ops : Array Oper) (w : World) (Q : Act → Frees → Prop) : List Oper → Act → Frees → Prop
  | [], a, fs => Q a fs
  | o :: rest, a, fs => zone P ops w o a fs (wpZ P ops w Q rest) ∨ ∃ d Ψ, o.dst = some d ∧ Mono Ψ ∧ stepZ P ops w o a fs Ψ ∧ wpZ P ops w Q rest (a.put (some d) undef) ((d, Ψ) :: dropFs (some d) fs)

def putAll : Frees → Act → Act → Act
  | [], a, _ => a
  | (t, _) :: fs, a, b => putAll fs (a.put (some t) (b.tmps.getD t undef)) b

theorem fill_elim {W : World} {G : Act → Prop} {b : Act} : ∀ {fs : Frees} {a : Act}, fill W fs a G → (∀ t Φ, (t, Φ) ∈ fs → Φ (b.tmps.getD t undef) W) → G (putAll fs a b)
  | [], _, h, _ => h
  | (t, Φ) :: fs, a, h, hb => fill_elim (fs := fs) (h _ (hb t Φ (by simp))) fun t' Φ' hm => hb t' Φ' (by simp [hm])

theorem putAll_size (b : Act) : ∀ (fs : Frees) (a : Act), (putAll fs a b).tmps.size = a.tmps.size
  | [], _ => rfl
  | (t, _) :: fs, a => by rw [putAll, putAll_size b fs, put_size]
theorem putAll_defers (b : Act) : ∀ (fs : Frees) (a : Act), (putAll fs a b).defers = a.defers
  | [], _ => rfl
  | (t, _) :: fs, a => by rw [putAll, putAll_defers b fs, put_defers']
theorem putAll_getD (b : Act) (t : Nat) : ∀ (fs : Frees) (a : Act), t < a.tmps.size → ((∃ Φ, (t, Φ) ∈ fs) → (putAll fs a b).tmps.getD t undef = b.tmps.getD t undef) ∧
    ((∀ Φ, (t, Φ) ∉ fs) → (putAll fs a b).tmps.getD t undef = a.tmps.getD t undef)
  | [], a, _ => ⟨fun ⟨_, h⟩ => absurd h (by simp), fun _ => rfl⟩
  | (t', Φ') :: fs, a, ht => by
    have ih := putAll_getD b t fs (a.put (some t') (b.tmps.getD t' undef)) (by rw [put_size]; exact ht)
    have hp := getD_put a (some t') (b.tmps.getD t' undef) t ht
    refine ⟨fun ⟨Φ, h⟩ => ?_, fun h => ?_⟩
    · by_cases hx : ∃ Φ, (t, Φ) ∈ fs
      · exact ih.1 hx
      · have hx' : ∀ Φ, (t, Φ) ∉ fs := fun Φ hm => hx ⟨Φ, hm⟩
        have : t = t' := by
          rcases List.mem_cons.1 h with h | h
          · exact (Prod.mk.inj h).1
          · exact absurd h (hx' Φ)
        subst this
        rw [putAll, ih.2 hx', hp, if_pos rfl]
    · have h1 : ∀ Φ, (t, Φ) ∉ fs := fun Φ hm => h Φ (List.mem_cons_of_mem _ hm)
      have hne : ¬ (some t' = some t) := fun e => h Φ' (by rw [Option.some.inj e]; exact List.mem_cons_self)
      rw [putAll, ih.2 h1, hp, if_neg hne]

theorem eval_out {b : Act} {t : Nat} (h : b.tmps.size ≤ t) {c : Act} (hc : c.tmps.size = b.tmps.size) : b.eval (.tmp t) = c.eval (.tmp t) := by
  simp [Act.eval, Array.getElem?_eq_none h, Array.getElem?_eq_none (hc ▸ h)]
theorem eval_same {b c : Act} {t : Nat} (hc : c.tmps.size = b.tmps.size) (h : t < b.tmps.size → b.tmps.getD t undef = c.tmps.getD t undef) : b.eval (.tmp t) = c.eval (.tmp t) := by
  rcases Nat.lt_or_ge t b.tmps.size with ht | ht
  · have := h ht
    simp [Act.eval, ht, hc] at this ⊢
    exact this
  · exact eval_out ht hc

theorem stepA_of_Z {P : Program} {ops : Array Oper} {w : World} {o : Oper} {a : Act} {fs : Frees} {Ψ : Pred} {A : Slots} (hsel : ∀ cs b, o.op ≠ .select cs b) (hM : Mono Ψ)
    (hA : ∀ t : Nat, t < a.tmps.size → ∀ v W, A t v W → slot a fs t v W) (hfs : ∀ (t : Nat) Φ, (t, Φ) ∈ fs → t < a.tmps.size) (h : stepZ P ops w o a fs Ψ) : stepA P ops w a.tmps.size a.defers A o Ψ := by
  refine ⟨hM, fun b W hd hm hW hs => ?_⟩
  obtain ⟨p, rfl⟩ := gro_of_below w hW
  have hb : ∀ t Φ, (t, Φ) ∈ lookFs ops o fs → Φ (b.tmps.getD t undef) (w.gro p) := fun t Φ hx => by
    simp only [lookFs, List.mem_filter, List.contains_eq_mem, decide_eq_true_eq] at hx
    exact (hA t (hfs t Φ hx.1) _ _ (hs t hx.2 (hfs t Φ hx.1))).1 Φ hx.1
  have h1 := fill_elim (h p) hb
  generalize hc : putAll (lookFs ops o fs) a b = c at h1
  have hsz : c.tmps.size = b.tmps.size := by rw [← hc, putAll_size, hm]
  have hget : ∀ t : Nat, t ∈ o.looksAt ops → t < b.tmps.size → b.tmps.getD t undef = c.tmps.getD t undef := fun t ht htm => by
    have hg := putAll_getD b t (lookFs ops o fs) a (by omega)
    rw [hc] at hg
    by_cases hx : ∃ Φ, (t, Φ) ∈ lookFs ops o fs
    · exact (hg.1 hx).symm
    · have hx' : ∀ Φ, (t, Φ) ∉ lookFs ops o fs := fun Φ hmm => hx ⟨Φ, hmm⟩
      rw [hg.2 hx']
      refine (hA t (hm ▸ htm) _ _ (hs t ht (hm ▸ htm))).2 fun Φ hmm => hx' Φ ?_
      simp only [lookFs, List.mem_filter, List.contains_eq_mem, decide_eq_true_eq]
      exact ⟨hmm, ht⟩
  have he : execOp b.eval o = execOp c.eval o := execOp_congr o hsel fun x hx => by
    cases x with
    | tmp t => exact eval_same hsz fun htm => hget t (List.mem_append_left _ (List.mem_filterMap.2 ⟨.tmp t, by simpa using hx, rfl⟩)) htm
    | _ => rfl
  have hy : Region.wanted o (yielded ops b.tmps) = Region.wanted o (yielded ops c.tmps) := by
    unfold Region.wanted
    cases hg : o.guard with
    | none => rfl
    | some gw =>
      obtain ⟨g, want⟩ := gw
      have : yielded ops b.tmps g = yielded ops c.tmps g := by
        unfold yielded
        cases ht : (ops[g]?).bind (·.dst) with
        | none => rfl
        | some t =>
          have hin : t ∈ o.looksAt ops := by simp [Oper.looksAt, hg, ht]
          rcases Nat.lt_or_ge t b.tmps.size with htm | htm
          · have := hget t hin htm
            have htc : t < c.tmps.size := hsz ▸ htm
            simp [htm, htc] at this ⊢
            rw [this]
          · simp [Array.getElem?_eq_none htm, Array.getElem?_eq_none (hsz ▸ htm)]
      simp only [this]
  unfold goes at h1 ⊢
  rw [he, hy]
  exact h1

theorem mono_eq (u : Value) : Mono fun v _ => v = u := fun _ _ _ _ h => h

theorem wpA_of_Z {P : Program} {ops : Array Oper} {w : World} {Qz : Act → Frees → Prop} {Qa : Slots → Prop} (m : Nat) (df : List Deferred)
    (hQ : ∀ a fs A, Qz a fs → a.tmps.size = m → a.defers = df → (∀ (t : Nat) Φ, (t, Φ) ∈ fs → t < a.tmps.size) → (∀ t : Nat, t < a.tmps.size → ∀ v W, A t v W → slot a fs t v W) → Qa A) :
    ∀ (l : List Oper), (∀ o ∈ l, ∀ cs b, o.op ≠ .select cs b) → (∀ o ∈ l, ∀ d, o.dst = some d → d < m) → ∀ (a : Act) (fs : Frees) (A : Slots), a.tmps.size = m → a.defers = df → (∀ (t : Nat) Φ, (t, Φ) ∈ fs → t < a.tmps.size) →
      (∀ t : Nat, t < a.tmps.size → ∀ v W, A t v W → slot a fs t v W) → wpZ P ops w Qz l a fs → wpA P ops w m df Qa l A
  | [], _, _, a, fs, A, hm, hd, hfs, hA, h => hQ a fs A h hm hd hfs hA
  | o :: l, hs, hds, a, fs, A, hm, hd, hfs, hA, h => by
    have hs' : ∀ o ∈ l, ∀ cs b, o.op ≠ .select cs b := fun o ho => hs o (List.mem_cons_of_mem _ ho)
    have hds' : ∀ o ∈ l, ∀ d, o.dst = some d → d < m := fun o ho => hds o (List.mem_cons_of_mem _ ho)
    have hdrop : ∀ t Φ, (t, Φ) ∈ dropFs o.dst fs → (t, Φ) ∈ fs ∧ o.dst ≠ some t := fun t Φ hx => by
      simp only [dropFs, List.mem_filter, bne_iff_ne, ne_eq] at hx
      exact hx
    rcases h with ⟨u, h1, h2⟩ | ⟨d, Ψ, ho, hM, h1, h2⟩
    · refine ⟨_, hm ▸ hd ▸ stepA_of_Z (hs o List.mem_cons_self) (mono_eq u) hA hfs h1, ?_⟩
      refine wpA_of_Z m df hQ l hs' hds' _ _ _ (by rw [put_size, hm]) (by rw [put_defers', hd]) (fun t Φ hx => by rw [put_size]; exact hfs t Φ (hdrop t Φ hx).1) (fun t ht v W hv => ?_) h2
      rw [put_size] at ht
      unfold slot
      rw [getD_put a o.dst u t ht]
      unfold upd at hv
      by_cases hdt : o.dst = some t
      · rw [if_pos hdt] at hv ⊢
        exact ⟨fun Φ hx => absurd hdt (hdrop t Φ hx).2, fun _ => hv⟩
      · rw [if_neg hdt] at hv ⊢
        have hv' := hA t ht v W hv
        refine ⟨fun Φ hx => hv'.1 Φ (hdrop t Φ hx).1, fun hx => hv'.2 fun Φ hmm => hx Φ ?_⟩
        simp only [dropFs, List.mem_filter, bne_iff_ne, ne_eq]
        exact ⟨hmm, hdt⟩
    · refine ⟨_, hm ▸ hd ▸ stepA_of_Z (hs o List.mem_cons_self) hM hA hfs h1, ?_⟩
      rw [← ho] at h2
      have hdm : d < a.tmps.size := by rw [hm]; exact hds o List.mem_cons_self d ho
      refine wpA_of_Z m df hQ l hs' hds' _ _ _ (by rw [put_size, hm]) (by rw [put_defers', hd]) (fun t Φ hx => ?_) (fun t ht v W hv => ?_) h2
      · rw [put_size]
        rcases List.mem_cons.1 hx with hx | hx
        · rw [(Prod.mk.inj hx).1]; exact hdm
        · exact hfs t Φ (hdrop t Φ hx).1
      · rw [put_size] at ht
        unfold slot
        rw [getD_put a o.dst undef t ht]
        unfold upd at hv
        by_cases hdt : o.dst = some t
        · rw [if_pos hdt] at hv ⊢
          have htd : t = d := Option.some.inj (hdt.symm.trans ho)
          subst htd
          refine ⟨fun Φ hx => ?_, fun hx => absurd List.mem_cons_self (hx Ψ)⟩
          rcases List.mem_cons.1 hx with hx | hx
          · rw [(Prod.mk.inj hx).2]; exact hv
          · exact absurd hdt (hdrop t Φ hx).2
        · rw [if_neg hdt] at hv ⊢
          have hv' := hA t ht v W hv
          have htd : t ≠ d := fun e => hdt (by rw [ho, e])
          refine ⟨fun Φ hx => ?_, fun hx => hv'.2 fun Φ hmm => hx Φ (List.mem_cons_of_mem _ ?_)⟩
          · rcases List.mem_cons.1 hx with hx | hx
            · exact absurd (Prod.mk.inj hx).1 htd
            · exact hv'.1 Φ (hdrop t Φ hx).1
          · simp only [dropFs, List.mem_filter, bne_iff_ne, ne_eq]
            exact ⟨hmm, hdt⟩

theorem act_eq {b c : Act} (hd : b.defers = c.defers) (hs : c.tmps.size = b.tmps.size) (h : ∀ t : Nat, t < b.tmps.size → b.tmps.getD t undef = c.tmps.getD t undef) : b = c := by
  obtain ⟨bt, bd⟩ := b
  obtain ⟨ct, cd⟩ := c
  simp only at hd hs h
  subst hd
  congr 1
  apply Array.ext hs.symm
  intro i h1 h2
  have := h i h1
  simpa [h1, h2] using this

def dstsB (m : Nat) (l : List Oper) : Bool := l.all fun o => match o.dst with | some d => decide (d < m) | none => true

/-- **A region that draws its order: its first n operations walked once, in the order of the text; behind them the rest, in its order.** -/
theorem wp_region_from {P : Program} {id : Nat} {Q : Exit → Act → World → Prop} {a : Act} {w w1 : World} (hk1 : Keep w w1) {l : List Oper} (n : Nat) (hm : P.follows .mixedOrders = true)
    (hB : (zoneB l.toArray n && decide (n ≤ l.length) && Region.noSelect l.toArray && dstsB a.tmps.size l) = true)
    (h : wpZ P l.toArray w (fun a' fs => ∀ p : GB, fill (w.gro p) fs a' fun b => wpList P l.toArray Q (l.drop n) b (w.gro p)) (l.take n) a []) : (Code.region id l.toArray true).wp P Q a w1 := by
  simp only [Bool.and_eq_true, decide_eq_true_eq] at hB
  obtain ⟨⟨⟨hz, hn⟩, hsel⟩, hds⟩ := hB
  have hmem : ∀ o ∈ l.take n, o ∈ l := fun o ho => List.mem_of_mem_take ho
  refine wp_region_A hk1 n hm hz hn (A := slot a []) (fun t v W W' _ hv => ?_) (fun d t _ => ?_) ?_
  · exact ⟨fun Φ hx => absurd hx (by simp), fun hx => hv.2 hx⟩
  · exact ⟨fun Φ hx => absurd hx (by simp), fun _ => rfl⟩
  · refine wpA_of_Z a.tmps.size a.defers (fun a' fs A hQ hm' hd' hfs hA b W hbd hbm hW hs => ?_) (l.take n) (fun o ho cs b => ?_) (fun o ho d hd => ?_) a [] (slot a []) rfl rfl (fun t Φ hx => absurd hx (by simp)) (fun _ _ _ _ hv => hv) h
    · obtain ⟨p, rfl⟩ := gro_of_below w hW
      have h1 := fill_elim (b := b) (hQ p) (fun t Φ hx => (hA t (hfs t Φ hx) _ _ (hs t (by have := hfs t Φ hx; omega))).1 Φ hx)
      have : b = putAll fs a' b := act_eq (by rw [putAll_defers, hbd, hd']) (by rw [putAll_size, hm', hbm]) fun t ht => by
        have hg := putAll_getD b t fs a' (by omega)
        by_cases hx : ∃ Φ, (t, Φ) ∈ fs
        · exact (hg.1 hx).symm
        · have hx' : ∀ Φ, (t, Φ) ∉ fs := fun Φ hmm => hx ⟨Φ, hmm⟩
          rw [hg.2 hx']
          exact (hA t (by omega) _ _ (hs t (by omega))).2 hx'
      rw [this]
      exact h1
    · obtain ⟨i, hi⟩ := List.getElem?_of_mem (hmem o ho)
      exact Region.noSelect_spec hsel i o cs b (by simpa using hi)
    · have := List.all_eq_true.1 hds o (hmem o ho)
      rw [hd] at this
      simpa using this

theorem wp_region {P : Program} {id : Nat} {Q : Exit → Act → World → Prop} {a : Act} {w : World} {l : List Oper} (n : Nat) (hm : P.follows .mixedOrders = true)
    (hB : (zoneB l.toArray n && decide (n ≤ l.length) && Region.noSelect l.toArray && dstsB a.tmps.size l) = true)
    (h : wpZ P l.toArray w (fun a' fs => ∀ p : GB, fill (w.gro p) fs a' fun b => wpList P l.toArray Q (l.drop n) b (w.gro p)) (l.take n) a []) : (Code.region id l.toArray true).wp P Q a w := wp_region_from (Keep.refl w) n hm hB h
theorem wp_region_gro {P : Program} {id : Nat} {Q : Exit → Act → World → Prop} {a : Act} {w : World} {q : GB} {l : List Oper} (n : Nat) (hm : P.follows .mixedOrders = true)
    (hB : (zoneB l.toArray n && decide (n ≤ l.length) && Region.noSelect l.toArray && dstsB a.tmps.size l) = true)
    (h : wpZ P l.toArray w (fun a' fs => ∀ p : GB, fill (w.gro p) fs a' fun b => wpList P l.toArray Q (l.drop n) b (w.gro p)) (l.take n) a []) : (Code.region id l.toArray true).wp P Q a (w.gro q) := wp_region_from (below_gro w q) n hm hB h
theorem wp_region_all {P : Program} {id : Nat} {Q : Exit → Act → World → Prop} {a : Act} {w : World} {l : List Oper} (hm : P.follows .mixedOrders = true)
    (hB : (zoneB l.toArray l.length && Region.noSelect l.toArray && dstsB a.tmps.size l) = true)
    (h : wpZ P l.toArray w (fun a' fs => ∀ p : GB, fill (w.gro p) fs a' fun b => Q .normal b (w.gro p)) l a []) : (Code.region id l.toArray true).wp P Q a w := by
  refine wp_region l.length hm (by simp only [Bool.and_eq_true] at hB ⊢; simp [hB]) ?_
  simp only [List.take_length, List.drop_length, wpList]
  exact h
theorem wp_region_all_gro {P : Program} {id : Nat} {Q : Exit → Act → World → Prop} {a : Act} {w : World} {q : GB} {l : List Oper} (hm : P.follows .mixedOrders = true)
    (hB : (zoneB l.toArray l.length && Region.noSelect l.toArray && dstsB a.tmps.size l) = true)
    (h : wpZ P l.toArray w (fun a' fs => ∀ p : GB, fill (w.gro p) fs a' fun b => Q .normal b (w.gro p)) l a []) : (Code.region id l.toArray true).wp P Q a (w.gro q) := by
  refine wp_region_gro l.length hm (by simp only [Bool.and_eq_true] at hB ⊢; simp [hB]) ?_
  simp only [List.take_length, List.drop_length, wpList]
  exact h
section
variable {P : Program} {ops : Array Oper} {w : World} {Q : Act → Frees → Prop} {a : Act} {fs : Frees} {o : Oper} {rest : List Oper}
theorem wpZ_nil (h : Q a fs) : wpZ P ops w Q [] a fs := h
theorem wpZ_step (h : ∀ K : Act → Frees → Prop, (∀ a fs, wpZ P ops w Q rest a fs → K a fs) → zone P ops w o a fs K) : wpZ P ops w Q (o :: rest) a fs :=
  .inl (h _ fun _ _ h => h)
theorem wpZ_free (d : Tmp) (Ψ : Pred) (hd : o.dst = some d) (hM : Mono Ψ) (h : stepZ P ops w o a fs Ψ) (k : wpZ P ops w Q rest (a.put (some d) undef) ((d, Ψ) :: dropFs (some d) fs)) : wpZ P ops w Q (o :: rest) a fs :=
  .inr ⟨d, Ψ, hd, hM, h, k⟩
end
section
variable {w W : World}
theorem Keep.alloc (h : Keep w W) (o : Obj) : Keep w (W.alloc o) := Below.alloc h h.size o
theorem Keep.gro (h : Keep w W) (p : GB) : Keep w (W.gro p) := h.trans (below_gro W p)
theorem Keep.drew (h : Keep w W) : Keep w W.drew := Below.drew h
theorem Keep.drewN (h : Keep w W) (n : Nat) : Keep w (W.drewN n) := ⟨h.os, h.tape, h.output, h.size, h.block⟩
theorem Keep.setCell (h : Keep w W) {a : Addr} (ha : w.heap.size ≤ a.block) (u : Value) : Keep w (W.setCell a u) := Below.setCell h ha u
theorem Keep.grown {W' : World} {row : Option Nat} (h : Keep w W) (hg : W.grownBy W' row) (hr : ∀ k, row = some k → w.heap.size ≤ k) : Keep w W' := Below.grown h hg h.size hr
end
section
variable {P : Program} {f : FuncId} {args : Array Value} {W : World} {v : Value}
theorem zc (h : Calls P f args W fun e w' => e = .returned v ∧ Keep W w') : Calls P f args W fun e w'' => ∃ u, e = .returned u ∧ u = v ∧ Keep W w'' :=
  h.mono fun _ _ ⟨h1, h2⟩ => ⟨v, h1, rfl, h2⟩
theorem zs (h : Calls P f args W fun e w' => e = .returned v ∧ W = w') : Calls P f args W fun e w'' => ∃ u, e = .returned u ∧ u = v ∧ Keep W w'' :=
  h.mono fun _ _ ⟨h1, h2⟩ => ⟨v, h1, rfl, h2 ▸ Keep.refl _⟩
theorem keep_of_same (h : Calls P f args W fun e w' => e = .returned v ∧ W = w') : Calls P f args W fun e w' => e = .returned v ∧ Keep W w' :=
  h.mono fun _ _ ⟨h1, h2⟩ => ⟨h1, h2 ▸ Keep.refl _⟩
end
end Go.Zone
namespace Go.Zone
open Go.RowKit

/-- The slice value '.slice A xs.length c' reads as xs; each thing has k cells. -/
structure Sl {α : Type} (w : World) (k : Nat) (enc : α → List Value) (A : Option Addr) (c : Nat) (xs : List α) : Prop where
  cap : xs.length ≤ c
  big : c ≤ 9223372036854775807
  len : xs.length ≤ 140737488355328
  at_ : ∀ i, (h : i < xs.length) → ∃ b off, A = some ⟨b, off, none⟩ ∧ ∀ j u, (enc xs[i])[j]? = some u → w.cell? ⟨b, off + i * k + j, none⟩ = some u

section
variable {α : Type} {w w' : World} {k c : Nat} {enc : α → List Value} {A : Option Addr} {xs : List α}
theorem Sl.nil_ (A : Option Addr) (hc : c ≤ 9223372036854775807) : Sl w k enc A c ([] : List α) := ⟨Nat.zero_le _, hc, Nat.zero_le _, fun i h => absurd h (Nat.not_lt_zero _)⟩
theorem Sl.keep (h : Sl w k enc A c xs) (hk : Keep w w') : Sl w' k enc A c xs :=
  ⟨h.cap, h.big, h.len, fun i hi => by
    obtain ⟨b, off, hA, hc⟩ := h.at_ i hi
    exact ⟨b, off, hA, fun j u hu => by
      have h1 := hc j u hu
      exact (Below.cell hk (p := ⟨b, off + i * k + j, none⟩) (World.block_lt_of_cell? w _ h1)).trans h1⟩⟩
theorem Sl.same (h : Sl w k enc A c xs) (hk : ∀ p v, w.cell? p = some v → w'.cell? p = some v) : Sl w' k enc A c xs :=
  ⟨h.cap, h.big, h.len, fun i hi => by
    obtain ⟨b, off, hA, hc⟩ := h.at_ i hi
    exact ⟨b, off, hA, fun j u hu => hk _ _ (hc j u hu)⟩⟩
/-- All at one place. -/
theorem Sl.place (h : Sl w k enc A c xs) (h0 : 0 < xs.length) : ∃ b off, A = some ⟨b, off, none⟩ ∧ ∀ i (_h : i < xs.length) j u, (enc xs[i])[j]? = some u → w.cell? ⟨b, off + i * k + j, none⟩ = some u := by
  obtain ⟨b, off, hA, _⟩ := h.at_ 0 h0
  refine ⟨b, off, hA, fun i hi j u hu => ?_⟩
  obtain ⟨b', off', hA', hc⟩ := h.at_ i hi
  rw [hA] at hA'
  injection hA' with hA'
  injection hA' with h1 h2
  subst h1; subst h2
  exact hc j u hu
theorem Sl.cut_front (h : Sl w k enc A c xs) (n : Nat) (hn : n ≤ xs.length) : Sl w k enc A c (xs.take n) :=
  ⟨by have := h.cap; simp; omega, h.big, by have := h.len; simp; omega, fun i hi => by
    simp only [List.length_take] at hi
    obtain ⟨b, off, hA, hc⟩ := h.at_ i (by omega)
    exact ⟨b, off, hA, fun j u hu => hc j u (by rw [List.getElem_take] at hu; exact hu)⟩⟩
end
end Go.Zone
namespace Go.Zone
open Go.RowKit

/-- A slice type t of elements e, of k cells and so many bytes each. -/
structure Elt (P : Program) (t e : TypeId) (k bytes : Nat) : Prop where
  ex : ∃ i z, P.underlying t = some (.slice e) ∧ P.info? e = some i ∧ i.zero = some z ∧ i.size = k ∧ i.bytes = bytes ∧ z.cells.size = k ∧ 0 < k ∧ 0 < bytes

def Own {α : Type} (w : World) (base : Nat) (e : TypeId) (k : Nat) (enc : α → List Value) (v : Value) (xs : List α) : Prop := w.ownsRow base e k v xs.length (xs.flatMap enc)

section
variable {α : Type} {w w' : World} {base k : Nat} {e : TypeId} {enc : α → List Value} {v : Value} {xs : List α}
theorem Own.nil_ (w : World) (base : Nat) (e : TypeId) (k : Nat) (enc : α → List Value) : Own w base e k enc (.slice none 0 0) ([] : List α) := World.ownsRow_nil w base e k
theorem flat_len (hk : ∀ x, (enc x).length = k) : ∀ (xs : List α), (xs.flatMap enc).length = xs.length * k
  | [] => by simp
  | x :: r => by simp [flat_len hk r, hk x, Nat.add_mul, Nat.add_comm]
theorem flat_get (hk : ∀ x, (enc x).length = k) : ∀ (xs : List α) (i j : Nat) (h : i < xs.length) (u : Value), (enc xs[i])[j]? = some u → (xs.flatMap enc)[i * k + j]? = some u
  | [], i, _, h, _, _ => absurd h (Nat.not_lt_zero _)
  | x :: r, 0, j, _, u, hu => by
    have hj : j < (enc x).length := (List.getElem?_eq_some_iff.1 hu).1
    simp only [List.flatMap_cons, Nat.zero_mul, Nat.zero_add]
    rw [List.getElem?_append_left hj]
    exact hu
  | x :: r, i + 1, j, h, u, hu => by
    simp only [List.flatMap_cons]
    rw [List.getElem?_append_right (by rw [hk x, Nat.add_mul]; omega), hk x]
    have := flat_get hk r i j (by simpa using h) u hu
    rw [show (i + 1) * k + j - k = i * k + j by rw [Nat.add_mul]; omega]
    exact this
/-- What it reads as. -/
theorem Own.sl (h : Own w base e k enc v xs) (hk : ∀ x, (enc x).length = k) (hl : xs.length ≤ 140737488355328) : ∃ A c, v = .slice A xs.length c ∧ Sl w k enc A c xs := by
  rcases h.2 with ⟨rfl, h0⟩ | ⟨g, cap, cur, rfl, hb, hg, hn, hm, hs, ht⟩
  · have : xs = [] := List.eq_nil_of_length_eq_zero h0
    subst this
    exact ⟨none, 0, rfl, Sl.nil_ _ (by omega)⟩
  · refine ⟨some ⟨g, 0, none⟩, cap, rfl, hn, by simpa [maxLen] using hm, hl, fun i hi => ⟨g, 0, rfl, fun j u hu => ?_⟩⟩
    have h1 := flat_get hk xs i j hi u hu
    rw [← ht, List.getElem?_take] at h1
    split at h1
    · simp only [World.cell?, hg]
      simp only [Nat.zero_add, Option.isSome_none, Bool.false_eq_true, if_false]
      simpa using h1
    · cases h1
theorem Own.grown {row : Option Nat} (h : Own w base e k enc v xs) (hg : w.grownBy w' row) (hr : ∀ j, row = some j → v.ownBlock ≠ some j) : Own w' base e k enc v xs := by
  refine World.ownsRow.kept h hg ?_
  cases hv : v.ownBlock with
  | none => exact .inl rfl
  | some j => exact .inr fun e => hr j e.symm hv
theorem Own.keep (h : Own w base e k enc v xs) (hk : Keep w w') : Own w' base e k enc v xs := by
  refine ⟨h.1, ?_⟩
  rcases h.2 with hn | ⟨g, cap, cur, rfl, hb, hg, rest⟩
  · exact .inl hn
  · exact .inr ⟨g, cap, cur, rfl, hb, (hk.block g (Array.getElem?_eq_some_iff.1 hg).1).trans hg, rest⟩
theorem Own.lt (h : Own w base e k enc v xs) : ∀ j, v.ownBlock = some j → base ≤ j ∧ j < w.heap.size := World.ownsRow.lt h
theorem Own.base_mono {base' : Nat} (h : Own w base e k enc v xs) (hb : base' ≤ base) : Own w base' e k enc v xs := by
  refine ⟨h.1, ?_⟩
  rcases h.2 with hn | ⟨g, cap, cur, rfl, hb', hg, rest⟩
  · exact .inl hn
  · exact .inr ⟨g, cap, cur, rfl, by omega, hg, rest⟩
end

section
variable {α : Type} {P : Program} {w : World}
theorem run_app1 {t ty e : TypeId} {k bytes : Nat} (E : Elt P t e k bytes) {enc : α → List Value} (hk : ∀ x, (enc x).length = k) (h1 : ∀ x, ∀ u ∈ enc x, u.oneCell' = true) {base : Nat} {v : Value} {xs ys : List α} (hown : Own w base e k enc v xs)
    {A : Option Addr} {c : Nat} (hy : Sl w k enc A c ys) (hlen : (xs.length + ys.length) * bytes ≤ 140737488355328) (hbase : base ≤ w.heap.size) :
    ∃ v' w', (Builtin.append_ #[t, t] ty #[v, .slice A ys.length c]).run P w = .ok v' w' ∧ Own w' base e k enc v' (xs ++ ys) ∧ w.grownBy w' v.ownBlock ∧ (v'.ownBlock = v.ownBlock ∨ v'.ownBlock = some w.heap.size) := by
  obtain ⟨i, z, ht, hi, hz, hs, hb, hzc, hk0, hb0⟩ := E.ex
  have hbig : xs.length + ys.length ≤ 9223372036854775807 := by have := Nat.le_mul_of_pos_right (xs.length + ys.length) hb0; omega
  rcases A with _ | ad
  · have h0 : ys = [] := by
      rcases ys with _ | ⟨y, r⟩
      · rfl
      · obtain ⟨_, _, hA, _⟩ := hy.at_ 0 (by simp)
        cases hA
    subst h0
    refine ⟨v, w, ?_, by simpa using hown, ⟨rfl, rfl, rfl, Nat.le_refl _, fun _ _ _ => rfl⟩, .inl rfl⟩
    rcases hown.2 with ⟨rfl, h0⟩ | ⟨g, cap, cur, rfl, _, _, hnc, _⟩
    · simp [Builtin.append_, run_underlying ht, sizeOf, typeInfo, hi, Builtin.lenOf, Builtin.firstCells]
    · simp [Builtin.append_, run_underlying ht, sizeOf, typeInfo, hi, Builtin.lenOf, Builtin.firstCells, hnc, storeCells]
  · have hcells : ∀ j u, (ys.flatMap enc)[j]? = some u → w.cell? (ad.add j) = some u := fun j u hu => by
      have hj : j < (ys.flatMap enc).length := (List.getElem?_eq_some_iff.1 hu).1
      rw [flat_len hk] at hj
      have hi' : j / k < ys.length := Nat.div_lt_of_lt_mul (by rw [Nat.mul_comm]; exact hj)
      obtain ⟨b, off, hA, hc⟩ := hy.at_ (j / k) hi'
      injection hA with hA
      subst hA
      have hm : j % k < (enc ys[j / k]).length := by rw [hk]; exact Nat.mod_lt _ hk0
      have hg := flat_get hk ys (j / k) (j % k) hi' _ (List.getElem?_eq_getElem hm)
      have hj2 : j / k * k + j % k = j := by rw [Nat.mul_comm]; exact Nat.div_add_mod j k
      rw [hj2] at hg
      rw [hg] at hu
      have := hc (j % k) _ (List.getElem?_eq_getElem hm)
      rw [Nat.add_assoc, hj2] at this
      rw [← Option.some.inj hu]
      unfold Addr.add
      split
      · rename_i h0; subst h0; exact this
      · exact this
    obtain ⟨v', w', hr, h2, h3, _, h5⟩ := run_append_own_at (P := P) w base t ty e i z k bytes ht hi hz hs hb hzc hk0 v xs.length (xs.flatMap enc) hown ad ys.length c (ys.flatMap enc) (flat_len hk ys) hcells
      (fun u hu => by obtain ⟨y, _, hy⟩ := List.mem_flatMap.1 hu; exact h1 y u hy) (by unfold maxLen; omega) hlen hbase
    refine ⟨v', w', hr, ?_, h3, h5⟩
    unfold Own
    rw [List.length_append, List.flatMap_append]
    exact h2

theorem wpList_app {t e : TypeId} {k bytes : Nat} (E : Elt P t e k bytes) {enc : α → List Value} (hk : ∀ x, (enc x).length = k) (h1 : ∀ x, ∀ u ∈ enc x, u.oneCell' = true) {ops : Array Oper} {rest : List Oper} {o : Oper} {a : Act} {Q : Exit → Act → World → Prop}
    (hgd : o.guard = none) (s x : Operand) (ho : o.op = .call { callee := .builtin .append, args := #[s, x], argTypes := #[t, t] })
    {base : Nat} {v : Value} {xs ys : List α} (hown : Own w base e k enc v xs) (hs : a.eval s = v) {A : Option Addr} {c : Nat} (hx : a.eval x = .slice A ys.length c) (hy : Sl w k enc A c ys)
    (hlen : (xs.length + ys.length) * bytes ≤ 140737488355328) (hbase : base ≤ w.heap.size)
    (h : ∀ v' w', Own w' base e k enc v' (xs ++ ys) → w.grownBy w' v.ownBlock → (v'.ownBlock = v.ownBlock ∨ v'.ownBlock = some w.heap.size) → wpList P ops Q rest (a.put o.dst v') w') : wpList P ops Q (o :: rest) a w :=
  wpList_plain hgd fun _ hK => by
    obtain ⟨v', w', hr, h2, h3, h4⟩ := run_app1 (ty := o.type) E hk h1 hown hy hlen hbase
    unfold Oper.wp execOp
    simp only [ho, resolve, invoke, builtin, Sem.run_bind, Sem.run_pure, Result.andThen_ok, List.map_toArray, List.map_cons, List.map_nil, hs, hx, hr]
    exact hK _ _ (h v' w' h2 h3 h4)
end
section
variable {α : Type} {w wr w' : World} {base k : Nat} {e : TypeId} {enc : α → List Value} {v : Value} {xs : List α}
/-- Behind an append onto a row of the call's own: what lay ahead of the base is as it was. -/
theorem Own.kept (h : Own wr base e k enc v xs) (hg : wr.grownBy w' v.ownBlock) (hK : Keep w wr) (hb : w.heap.size ≤ base) : Keep w w' := hK.grown hg fun j hj => by have := (h.lt j hj).1; omega
theorem Own.after (h : Own wr base e k enc v xs) (hg : wr.grownBy w' v.ownBlock) (hK : Keep w wr) (hb : w.heap.size ≤ base) : Keep w w' ∧ wr.heap.size ≤ w'.heap.size ∧ ∀ (a : Addr) (u : Value), a.block < base → wr.cell? a = some u → w'.cell? a = some u :=
  ⟨hK.grown hg fun j hj => by have := (h.lt j hj).1; omega, hg.size, fun a u ha hc => hg.cell hc fun hj => by have := (h.lt _ hj.symm).1; omega⟩
theorem Own.cell (h : Own wr base e k enc v xs) (hg : wr.grownBy w' v.ownBlock) {a : Addr} {u : Value} (hc : wr.cell? a = some u) (ha : a.block < base) : w'.cell? a = some u :=
  hg.cell hc fun hj => by have := (h.lt _ hj.symm).1; omega
theorem sl_one {α : Type} {w : World} {k : Nat} {enc : α → List Value} {g c : Nat} (y : α) (hc : 1 ≤ c) (hcm : c ≤ 9223372036854775807) (h : ∀ j u, (enc y)[j]? = some u → w.cell? ⟨g, j, none⟩ = some u) : Sl w k enc (some ⟨g, 0, none⟩) c [y] :=
  ⟨hc, hcm, by simp, fun i hi => ⟨g, 0, rfl, fun j u hu => by
    have : i = 0 := by simpa using hi
    subst this
    have := h j u hu
    simpa using this⟩⟩
end
end Go.Zone
namespace Go.Zone
open Go.RowKit
theorem lookFs_nil {ops : Array Oper} {o : Oper} {fs : Frees} (h : ((fs.map (·.1)).filter fun t => (o.looksAt ops).contains t) = []) : lookFs ops o fs = [] := by
  unfold lookFs
  rw [List.filter_eq_nil_iff] at h ⊢
  intro x hx
  exact h x.1 (List.mem_map_of_mem hx)
/-- A step that looks at one free result. -/
theorem zone_free1 {P : Program} {ops : Array Oper} {w : World} {o : Oper} {a : Act} {fs : Frees} {K : Act → Frees → Prop} {d : Tmp} {Φ : Pred} (u : Value) (hl : lookFs ops o fs = [(d, Φ)])
    (h : ∀ p v, Φ v (w.gro p) → if Region.wanted o (yielded ops (a.put (some d) v).tmps) then goes P o (a.put (some d) v) (w.gro p) (fun v _ => v = u) else undef = u) (k : K (a.put o.dst u) (dropFs o.dst fs)) : zone P ops w o a fs K :=
  ⟨u, fun p => by rw [hl]; exact fun v hv => h p v hv, k⟩
theorem keep_gro (w : World) (p : GB) (W : World) : Keep (w.gro p) W ↔ Below (w.gro p).heap.size (w.gro p) W := Iff.rfl
/-- A fresh slice without things. -/
theorem own_empty {α : Type} (w : World) (base : Nat) (e : TypeId) (k : Nat) (enc : α → List Value) (g : Nat) (hb : base ≤ g) (hg : w.heap[g]? = some (.cells #[] e (0, 0))) : Own w base e k enc (.slice (some ⟨g, 0, none⟩) 0 0) ([] : List α) :=
  ⟨by simp, .inr ⟨g, 0, #[], rfl, hb, hg, Nat.le_refl _, Nat.zero_le _, by simp, by simp⟩⟩
theorem lt_add0 {a b : Nat} (h : a < b) : (a < b) = True := eq_true h
theorem lt_add2 {a b : Nat} (c0 c1 : Nat) (h : a < b) : (a < b + c0 + c1) = True := eq_true (by omega)
theorem lt_add3 {a b : Nat} (c0 c1 c2 : Nat) (h : a < b) : (a < b + c0 + c1 + c2) = True := eq_true (by omega)
theorem lt_add4 {a b : Nat} (c0 c1 c2 c3 : Nat) (h : a < b) : (a < b + c0 + c1 + c2 + c3) = True := eq_true (by omega)
theorem lt_add5 {a b : Nat} (c0 c1 c2 c3 c4 : Nat) (h : a < b) : (a < b + c0 + c1 + c2 + c3 + c4) = True := eq_true (by omega)
theorem lt_add6 {a b : Nat} (c0 c1 c2 c3 c4 c5 : Nat) (h : a < b) : (a < b + c0 + c1 + c2 + c3 + c4 + c5) = True := eq_true (by omega)
theorem lt_add7 {a b : Nat} (c0 c1 c2 c3 c4 c5 c6 : Nat) (h : a < b) : (a < b + c0 + c1 + c2 + c3 + c4 + c5 + c6) = True := eq_true (by omega)
theorem lt_add8 {a b : Nat} (c0 c1 c2 c3 c4 c5 c6 c7 : Nat) (h : a < b) : (a < b + c0 + c1 + c2 + c3 + c4 + c5 + c6 + c7) = True := eq_true (by omega)
theorem lt_add9 {a b : Nat} (c0 c1 c2 c3 c4 c5 c6 c7 c8 : Nat) (h : a < b) : (a < b + c0 + c1 + c2 + c3 + c4 + c5 + c6 + c7 + c8) = True := eq_true (by omega)
theorem lt_add10 {a b : Nat} (c0 c1 c2 c3 c4 c5 c6 c7 c8 c9 : Nat) (h : a < b) : (a < b + c0 + c1 + c2 + c3 + c4 + c5 + c6 + c7 + c8 + c9) = True := eq_true (by omega)
theorem lt_add11 {a b : Nat} (c0 c1 c2 c3 c4 c5 c6 c7 c8 c9 c10 : Nat) (h : a < b) : (a < b + c0 + c1 + c2 + c3 + c4 + c5 + c6 + c7 + c8 + c9 + c10) = True := eq_true (by omega)
theorem lt_add12 {a b : Nat} (c0 c1 c2 c3 c4 c5 c6 c7 c8 c9 c10 c11 : Nat) (h : a < b) : (a < b + c0 + c1 + c2 + c3 + c4 + c5 + c6 + c7 + c8 + c9 + c10 + c11) = True := eq_true (by omega)
end Go.Zone
