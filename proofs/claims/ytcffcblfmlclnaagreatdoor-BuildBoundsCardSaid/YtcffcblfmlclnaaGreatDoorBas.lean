
/- What a block of memory holds, and what other blocks may turn: words for worlds. -/
import Derived.WalkKit
import Derived.Lib.Hide
import Derived.WalkSpells
import Derived.WalkLawsBesides
import Derived.BigQuiet
import Derived.Shelf.Abstract
import Derived.Test.YtcffcblfmlclnaaGreatDoorSl
import Derived.Test.YtcffcblfmlclnaaGreatDoorOwn
import Derived.Test.YtcffcblfmlclnaaGreatDoorZoneF
namespace Go.Zone
open Go.RowKit
/-- Block g holds these cells of type T, no string shares them. -/
def Row (w : World) (g : Nat) (T : TypeId) (vs : List Value) : Prop := w.heap[g]? = some (.cells vs.toArray T (0, 0))
section
variable {w w' : World} {g : Nat} {T : TypeId} {vs : List Value}
theorem Row.lt (h : Row w g T vs) : g < w.heap.size := (Array.getElem?_eq_some_iff.1 h).1
theorem Row.cell (h : Row w g T vs) (j : Nat) (u : Value) (hu : vs[j]? = some u) : w.cell? ⟨g, j, none⟩ = some u := by
  unfold Row at h
  simp [World.cell?, h, hu]
theorem Row.soft (h : Row w g T vs) (j : Nat) : w.frozen? ⟨g, j, none⟩ = false := by
  unfold Row at h
  simp [World.frozen?, h]
theorem Row.set (h : Row w g T vs) (j : Nat) (u : Value) : Row (w.setCell ⟨g, j, none⟩ u) g T (vs.set j u) := by
  unfold Row at h ⊢
  simp only [World.setCell, Array.getElem?_modify, h, if_true, Option.map_some, Option.isSome_none, Bool.false_eq_true, if_false]
  simp
theorem Row.other (h : Row w g T vs) {b : Nat} (j : Nat) (u : Value) (hb : b ≠ g) : Row (w.setCell ⟨b, j, none⟩ u) g T vs := by
  unfold Row at h ⊢
  simp only [World.setCell, Array.getElem?_modify, if_neg hb, h]
theorem row_alloc (w : World) (T : TypeId) (vs : List Value) : Row (w.alloc (.cells vs.toArray T)) w.heap.size T vs := by
  unfold Row World.alloc
  simp
theorem Row.keep (h : Row w g T vs) (hk : Keep w w') : Row w' g T vs := (hk.block g h.lt).trans h
end
theorem row_ne {w : World} {a b : Nat} {T T' : TypeId} {vs us : List Value} (h : Row w a T vs) (k : Row w b T' us) (ht : T ≠ T') : a ≠ b := fun e => by
  subst e
  unfold Row at h k
  rw [h] at k
  simp at k
  exact ht k.2
/-- Blocks laid one behind the other. -/
def allocs (w : World) : List Obj → World
  | [] => w
  | o :: r => allocs (w.alloc o) r
theorem allocs_keep : ∀ (l : List Obj) (w : World), Keep w (allocs w l)
  | [], w => Keep.refl w
  | o :: r, w => ((Keep.refl w).alloc o).trans (allocs_keep r (w.alloc o))
theorem allocs_at : ∀ (l : List Obj) (w : World) (i : Nat) (o : Obj), l[i]? = some o → (allocs w l).heap[w.heap.size + i]? = some o
  | [], _, _, _, h => by cases h
  | x :: r, w, 0, o, h => by
    simp only [List.getElem?_cons_zero, Option.some.injEq] at h
    subst h
    have h1 : (w.alloc x).heap[w.heap.size]? = some x := by unfold World.alloc; simp
    exact ((allocs_keep r (w.alloc x)).block w.heap.size (by simp)).trans h1
  | x :: r, w, i + 1, o, h => by
    have := allocs_at r (w.alloc x) i o (by simpa using h)
    rw [World.size_alloc] at this
    rw [show w.heap.size + (i + 1) = w.heap.size + 1 + i by omega]
    exact this
/-- All that was there but for some blocks is as it was. -/
structure Turn (w w' : World) (S : List Nat) : Prop where
  os : w'.os = w.os
  tape : w'.tape = w.tape
  output : w'.output = w.output
  size : w.heap.size ≤ w'.heap.size
  block : ∀ i, i < w.heap.size → i ∉ S → w'.heap[i]? = w.heap[i]?
section
variable {w w1 w2 w3 : World} {S S' : List Nat} {g : Nat} {T : TypeId} {vs : List Value}
theorem Turn.refl (w : World) (S : List Nat) : Turn w w S := ⟨rfl, rfl, rfl, Nat.le_refl _, fun _ _ _ => rfl⟩
theorem Turn.keep (h : Keep w1 w2) (S : List Nat) : Turn w1 w2 S := ⟨h.os, h.tape, h.output, h.size, fun i hi _ => h.block i hi⟩
theorem Turn.trans (h : Turn w1 w2 S) (k : Turn w2 w3 S) : Turn w1 w3 S :=
  ⟨k.os.trans h.os, k.tape.trans h.tape, k.output.trans h.output, Nat.le_trans h.size k.size, fun i hi hs => (k.block i (Nat.lt_of_lt_of_le hi h.size) hs).trans (h.block i hi hs)⟩
theorem Turn.mono (h : Turn w1 w2 S) (hs : ∀ i, i ∈ S → i ∈ S' ∨ w1.heap.size ≤ i) : Turn w1 w2 S' :=
  ⟨h.os, h.tape, h.output, h.size, fun i hi hn => h.block i hi fun hm => by rcases hs i hm with h1 | h1; exact hn h1; omega⟩
theorem Turn.trans_up (h : Turn w1 w2 S) (k : Turn w2 w3 S') (hs : ∀ i ∈ S', w1.heap.size ≤ i) : Turn w1 w3 S :=
  ⟨k.os.trans h.os, k.tape.trans h.tape, k.output.trans h.output, Nat.le_trans h.size k.size, fun i hi hn => (k.block i (Nat.lt_of_lt_of_le hi h.size) (fun hm => by have := hs i hm; omega)).trans (h.block i hi hn)⟩
theorem Turn.row (h : Turn w1 w2 S) (r : Row w1 g T vs) (hg : g ∉ S) : Row w2 g T vs := (h.block g r.lt hg).trans r
theorem Turn.set (w : World) (a : Addr) (u : Value) : Turn w (w.setCell a u) [a.block] :=
  ⟨rfl, rfl, rfl, by simp, fun i _ hi => by simp only [World.setCell, Array.getElem?_modify]; rw [if_neg (fun e => hi (by simp [e]))]⟩
theorem Turn.after (h : Keep w w1) (k : Turn w1 w2 S) (hs : ∀ i ∈ S, w.heap.size ≤ i) : Keep w w2 :=
  ⟨k.os.trans h.os, k.tape.trans h.tape, k.output.trans h.output, Nat.le_trans h.size k.size, fun i hi => (k.block i (Nat.lt_of_lt_of_le hi h.size) (fun hm => by have := hs i hm; omega)).trans (h.block i hi)⟩
end
theorem Own.turn {α : Type} {w w' : World} {base k : Nat} {e : TypeId} {enc : α → List Value} {v : Value} {xs : List α} {S : List Nat} (h : Own w base e k enc v xs) (ht : Turn w w' S) (hs : ∀ i ∈ S, v.ownBlock ≠ some i) : Own w' base e k enc v xs := by
  refine ⟨h.1, ?_⟩
  rcases h.2 with hn | ⟨g, cap, cur, rfl, hb, hg, rest⟩
  · exact .inl hn
  · exact .inr ⟨g, cap, cur, rfl, hb, (ht.block g (Array.getElem?_eq_some_iff.1 hg).1 (fun hm => hs g hm rfl)).trans hg, rest⟩
theorem own_row_ne {α : Type} {w : World} {base k b : Nat} {e T : TypeId} {enc : α → List Value} {v : Value} {xs : List α} {vs : List Value} (h : Own w base e k enc v xs) (hr : Row w b T vs) (ht : T ≠ e) : v.ownBlock ≠ some b := by
  intro hb
  rcases h.2 with ⟨rfl, _⟩ | ⟨g, cap, cur, rfl, _, hg, _⟩
  · cases hb
  · have hq : g = b := by simpa [Value.ownBlock] using hb
    subst hq
    unfold Row at hr
    rw [hr] at hg
    simp at hg
    exact ht hg.2
/-- Stops a walk at the operation that fills slot d. -/
theorem hold_at (d : Nat) {P : Program} {ops : Array Oper} {Q : Exit → Act → World → Prop} {rest : List Oper} {a : Act} {w : World} {op : Op} {ty : TypeId} {pos : String} {af : Array Edge} {gd : Option (Nat × Bool)} (h : Hid (wpList P ops Q (⟨some d, op, ty, pos, af, gd⟩ :: rest) a w)) : wpList P ops Q (⟨some d, op, ty, pos, af, gd⟩ :: rest) a w := h
/-- whole cells of a block -/
theorem Row.sl_blk {α : Type} {w : World} {g k : Nat} {T : TypeId} {enc : α → List Value} {xs : List α} (hk : ∀ x, (enc x).length = k) (h : Row w g T (xs.flatMap enc)) (hl : xs.length ≤ 140737488355328) {c : Nat} (hc : xs.length ≤ c) (hc2 : c ≤ 9223372036854775807) : Sl w k enc (some ⟨g, 0, none⟩) c xs :=
  ⟨hc, hc2, hl, fun i hi => ⟨g, 0, rfl, fun j u hu => by
    have := flat_get hk xs i j hi u hu
    simpa using h.cell _ u this⟩⟩
end Go.Zone
