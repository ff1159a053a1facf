/- A region that draws its order, within a round of a range over a function: walked as elsewhere. -/
import Derived.RangeFuncNested
import Derived.OrdersIn
import Derived.OwnWalkIn
import Derived.Test.YthigflnfccajoaaGreatZoneM
namespace Go.Zone
open Go.RowKit
section
variable {P : Program} {ops : Array Oper} {md : Region.Mode} {l : Nat} {n : Nat}
def noDefer (ops : Array Oper) : Bool := ops.all fun o => match o.op with | .defer _ => false | _ => true
theorem noDefer_spec (h : noDefer ops = true) (j : Nat) (o : Oper) (ho : ops[j]? = some o) (c : Call) : o.op ≠ .defer c := by
  intro heq
  have := Array.all_eq_true_iff_forall_mem.1 h o (Array.mem_of_getElem? ho)
  simp [heq] at this
theorem calls_in {f : FuncId} {args : Array Value} {w : World} {R : Ending → World → Prop} (h : Calls P f args w R) : CallsIn (Fence.wide.inRound l) n P f args w R := CallsIn.inRound l (callsIn_wide.2 h)
theorem calls_wide {f : FuncId} {args : Array Value} {w : World} {R : Ending → World → Prop} (h : Calls P f args w R) : CallsIn Fence.wide n P f args w R := callsIn_wide.2 h
theorem rows_in {row : String} {args : Array Value} {w : World} {R : Value → World → Prop} (h : Rows P row args w R) : RowsIn (Fence.wide.inRound l) n P row args w R := fun c cs _ => by
  obtain ⟨v, w', r, s⟩ := h c cs
  exact ⟨v, w', r, stepsIn_wide.2 s⟩
theorem op_in {o : Oper} {Q : Exit → Act → World → Prop} {a : Act} {w : World} {K K' : Act → World → Prop} (hd : ∀ c, o.op ≠ .defer c) (hK : ∀ a w, K a w → K' a w) (h : o.wp P a w K (Calm Q)) :
    o.wpIn (Fence.wide.inRound l) n P a w K' (Calm Q) := by
  refine ⟨fun _ _ => trivial, ?_⟩
  rw [Oper.semAt_eq _ _ _ hd]
  unfold Oper.wp at h
  generalize (execOp a.eval o).run P w = r at *
  cases r with
  | ok nx w' =>
    cases nx <;> simp only [Oper.upon] at h <;> simp only [Oper.uponIn]
    case value u => exact hK _ _ h
    case skip => exact hK _ _ h
    case defer d => exact hK _ _ h
    case enter f args =>
      refine ⟨fun hx => (by cases hx), calls_in (h.mono fun e w'' he => ?_)⟩
      cases e with
      | returned u => exact hK _ _ he
      | panicked c => exact he
      | outgrown => exact he
    case row row args => exact ⟨fun hx => (by cases hx), rows_in (h.mono fun v w'' hv => hK _ _ hv)⟩
  | halt x w' =>
    cases x <;> simp only [Oper.upon] at h <;> simp only [Oper.uponIn]
    exact h
theorem any_in {Q : Exit → Act → World → Prop} (hd : noDefer ops = true) : ∀ (fuel : Nat) (listed : Array Bool) (a : Act) (w : World), wpAny P md ops (Calm Q) fuel listed a w → wpAnyIn (Fence.wide.inRound l) n P md ops (Calm Q) fuel listed a w
  | 0, _, _, _, h => h
  | fuel + 1, listed, a, w, h => by
    refine ⟨h.1, fun i hi => ?_⟩
    have h1 := h.2 i hi
    unfold wpOp at h1
    unfold wpOpIn
    cases ho : ops[i]? with
    | none => rw [ho] at h1; exact any_in hd fuel _ _ _ h1
    | some o =>
      rw [ho] at h1
      simp only at h1 ⊢
      split
      · rename_i hw
        rw [if_pos hw] at h1
        rcases h1 with h1 | ⟨_, a', w', hx⟩
        · exact op_in (noDefer_spec hd i o ho) (fun a w hk => any_in hd fuel _ _ _ hk) h1
        · exact hx.elim
      · rename_i hw
        rw [if_neg hw] at h1
        exact ⟨fun _ _ => trivial, any_in hd fuel _ _ _ h1⟩
theorem calm_mono {Q : Exit → Act → World → Prop} : ∀ e a w, Calm Q e a w → Q e a w := fun e a w h => by cases e <;> first | exact h | exact h.elim
theorem region_in {id : Nat} {Q : Exit → Act → World → Prop} {a : Act} {w : World} (hm : P.follows .mixedOrders = true) (hd : noDefer ops = true)
    (h : wpAny P .any ops (Calm Q) ops.size (Array.replicate ops.size false) a { w with drawn := w.drawn + 1 }) : (Code.region id ops true).wpIn (Fence.wide.inRound l) n P Q a w :=
  wpIn_mono (wpIn_region_any hm (any_in hd _ _ _ _ h)) calm_mono
end
section
variable {P : Program} {l : List Oper}
theorem any_A {Q : Exit → Act → World → Prop} {a : Act} {w w1 : World} (hk1 : Keep w w1) (n : Nat) (hB : zoneB l.toArray n = true) (hnl : n ≤ l.length)
    {A : Slots} (hA : MonoA A) (h0 : ∀ d, sees A a.tmps.size a { w1 with drawn := d })
    (h : wpA P l.toArray w a.tmps.size a.defers (fun A => ∀ b W, b.defers = a.defers → b.tmps.size = a.tmps.size → Below w.heap.size w W → sees A a.tmps.size b W → wpList P l.toArray Q (l.drop n) b W) (l.take n) A) :
    wpAny P .any l.toArray Q l.toArray.size (Array.replicate l.toArray.size false) a { w1 with drawn := w1.drawn + 1 } := by
  simp only [zoneB, Bool.and_eq_true] at hB
  obtain ⟨hn, hlex⟩ := hB
  have htl : (l.take n).length = n := by simp; omega
  have hdl : (l.drop n).length = l.toArray.size - n := by simp
  have inv0 : HeadInv .any l.toArray n (Array.replicate l.toArray.size false) :=
    ⟨by simp, fun j oj _ hl => (by rw [getD_replicate_false] at hl; cases hl), fun t _ ht => getD_in (by simpa using ht) (getD_replicate_false _ _)⟩
  have H := wpAnyA_lex (md := .any) (g := l.toArray.size - n) (head_of hn) (l.take n) 0 _ A (fun j hj => by
    have hj' : j < n := by rw [htl] at hj; exact hj
    simp [hj']) (by simpa using htl) inv0 (by rw [htl]; exact hlex) h
  have hk2 : Below w.heap.size w { w1 with drawn := w1.drawn + 1 } := ⟨hk1.os, hk1.tape, hk1.output, hk1.size, hk1.block⟩
  have := wpAny_of_A (Q' := Q) (g := l.toArray.size - n) (fun listed A' b W hL hd hm hW hs => by
    have := wpAny_of_seq (md := .any) (Q' := Q) (l.drop n) n listed b W (fun j => by simp [List.getElem?_drop]) (by rw [hdl]; exact hL.1) (hL.2 b W hd hm hW hs)
    rwa [hdl] at this) _ _ _ hA H a { w1 with drawn := w1.drawn + 1 } rfl rfl hk2 (h0 _)
  rw [htl, show n + (l.toArray.size - n) = l.toArray.size by simp; omega] at this
  exact this
theorem any_from {Q : Exit → Act → World → Prop} {a : Act} {w w1 : World} (hk1 : Keep w w1) (n : Nat)
    (hB : (zoneB l.toArray n && decide (n ≤ l.length) && Region.noSelect l.toArray && dstsB a.tmps.size l) = true)
    (h : wpZ P l.toArray w (fun a' fs => ∀ p : GB, fill (w.gro p) fs a' fun b => wpList P l.toArray Q (l.drop n) b (w.gro p)) (l.take n) a []) :
    wpAny P .any l.toArray Q l.toArray.size (Array.replicate l.toArray.size false) a { w1 with drawn := w1.drawn + 1 } := by
  simp only [Bool.and_eq_true, decide_eq_true_eq] at hB
  obtain ⟨⟨⟨hz, hn⟩, hsel⟩, hds⟩ := hB
  have hmem : ∀ o ∈ l.take n, o ∈ l := fun o ho => List.mem_of_mem_take ho
  refine any_A hk1 n hz hn (A := slot a []) (fun t v W W' _ hv => ?_) (fun d t _ => ?_) ?_
  · exact ⟨fun Φ hx => absurd hx (by simp), fun hx => hv.2 hx⟩
  · exact ⟨fun Φ hx => absurd hx (by simp), fun _ => rfl⟩
  · refine wpA_of_Z a.tmps.size a.defers (fun a' fs A hQ hm' hd' hfs hA b W hbd hbm hW hs => ?_) (l.take n) (fun o ho cs b => ?_) (fun o ho d hd => ?_) a [] (slot a []) rfl rfl (fun t Φ hx => absurd hx (by simp)) (fun _ _ _ _ hv => hv) h
    · obtain ⟨p, rfl⟩ := gro_of_below w hW
      have h1 := fill_elim (b := b) (hQ p) (fun t Φ hx => (hA t (hfs t Φ hx) _ _ (hs t (by have := hfs t Φ hx; omega))).1 Φ hx)
      have : b = putAll fs a' b := act_eq (by rw [putAll_defers, hbd, hd']) (by rw [putAll_size, hm', hbm]) fun t ht => by
        have hg := putAll_getD b t fs a' (by omega)
        by_cases hx : ∃ Φ, (t, Φ) ∈ fs
        · exact (hg.1 hx).symm
        · have hx' : ∀ Φ, (t, Φ) ∉ fs := fun Φ hmm => hx ⟨Φ, hmm⟩
          rw [hg.2 hx']
          exact (hA t (by omega) _ _ (hs t (by omega))).2 hx'
      rw [this]
      exact h1
    · obtain ⟨i, hi⟩ := List.getElem?_of_mem (hmem o ho)
      exact Region.noSelect_spec hsel i o cs b (by simpa using hi)
    · have := List.all_eq_true.1 hds o (hmem o ho)
      rw [hd] at this
      simpa using this
end
section
variable {P : Program} {id r m : Nat} {Q : Exit → Act → World → Prop} {a : Act} {w : World} {l : List Oper}
theorem wpR_region (n : Nat) (hm : P.follows .mixedOrders = true)
    (hB : (noDefer l.toArray && (zoneB l.toArray n && decide (n ≤ l.length) && Region.noSelect l.toArray && dstsB a.tmps.size l)) = true)
    (h : wpZ P l.toArray w (fun a' fs => ∀ p : GB, fill (w.gro p) fs a' fun b => wpList P l.toArray (Calm Q) (l.drop n) b (w.gro p)) (l.take n) a []) : (Code.region id l.toArray true).wpIn (Fence.wide.inRound r) m P Q a w := by
  rw [Bool.and_eq_true] at hB
  exact region_in hm hB.1 (any_from (Keep.refl w) n hB.2 h)
theorem wpR_region_gro {q : GB} (n : Nat) (hm : P.follows .mixedOrders = true)
    (hB : (noDefer l.toArray && (zoneB l.toArray n && decide (n ≤ l.length) && Region.noSelect l.toArray && dstsB a.tmps.size l)) = true)
    (h : wpZ P l.toArray w (fun a' fs => ∀ p : GB, fill (w.gro p) fs a' fun b => wpList P l.toArray (Calm Q) (l.drop n) b (w.gro p)) (l.take n) a []) : (Code.region id l.toArray true).wpIn (Fence.wide.inRound r) m P Q a (w.gro q) := by
  rw [Bool.and_eq_true] at hB
  exact region_in hm hB.1 (any_from (below_gro w q) n hB.2 h)
theorem wpR_region_all (hm : P.follows .mixedOrders = true)
    (hB : (noDefer l.toArray && (zoneB l.toArray l.length && Region.noSelect l.toArray && dstsB a.tmps.size l)) = true)
    (h : wpZ P l.toArray w (fun a' fs => ∀ p : GB, fill (w.gro p) fs a' fun b => Q .normal b (w.gro p)) l a []) : (Code.region id l.toArray true).wpIn (Fence.wide.inRound r) m P Q a w := by
  refine wpR_region l.length hm (by simp only [Bool.and_eq_true] at hB ⊢; simp [hB]) ?_
  simp only [List.take_length, List.drop_length, wpList]
  exact h
theorem wpR_region_all_gro {q : GB} (hm : P.follows .mixedOrders = true)
    (hB : (noDefer l.toArray && (zoneB l.toArray l.length && Region.noSelect l.toArray && dstsB a.tmps.size l)) = true)
    (h : wpZ P l.toArray w (fun a' fs => ∀ p : GB, fill (w.gro p) fs a' fun b => Q .normal b (w.gro p)) l a []) : (Code.region id l.toArray true).wpIn (Fence.wide.inRound r) m P Q a (w.gro q) := by
  refine wpR_region_gro l.length hm (by simp only [Bool.and_eq_true] at hB ⊢; simp [hB]) ?_
  simp only [List.take_length, List.drop_length, wpList]
  exact h
end
end Go.Zone
