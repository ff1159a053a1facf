/- A slice of the call's own that things are appended to. -/
import Derived.Maps.AppendAt
import Derived.Tactics
import Derived.Test.YtcffcblfmlclnaaGreatDoorSl
namespace Go.Zone
open Go.RowKit

/-- A slice type t of elements e, of k cells and so many bytes each. -/
structure Elt (P : Program) (t e : TypeId) (k bytes : Nat) : Prop where
  ex : ∃ i z, P.underlying t = some (.slice e) ∧ P.info? e = some i ∧ i.zero = some z ∧ i.size = k ∧ i.bytes = bytes ∧ z.cells.size = k ∧ 0 < k ∧ 0 < bytes

def Own {α : Type} (w : World) (base : Nat) (e : TypeId) (k : Nat) (enc : α → List Value) (v : Value) (xs : List α) : Prop := w.ownsRow base e k v xs.length (xs.flatMap enc)

section
variable {α : Type} {w w' : World} {base k : Nat} {e : TypeId} {enc : α → List Value} {v : Value} {xs : List α}
theorem Own.nil_ (w : World) (base : Nat) (e : TypeId) (k : Nat) (enc : α → List Value) : Own w base e k enc (.slice none 0 0) ([] : List α) := World.ownsRow_nil w base e k
theorem flat_len (hk : ∀ x, (enc x).length = k) : ∀ (xs : List α), (xs.flatMap enc).length = xs.length * k
  | [] => by simp
  | x :: r => by simp [flat_len hk r, hk x, Nat.add_mul, Nat.add_comm]
theorem flat_get (hk : ∀ x, (enc x).length = k) : ∀ (xs : List α) (i j : Nat) (h : i < xs.length) (u : Value), (enc xs[i])[j]? = some u → (xs.flatMap enc)[i * k + j]? = some u
  | [], i, _, h, _, _ => absurd h (Nat.not_lt_zero _)
  | x :: r, 0, j, _, u, hu => by
    have hj : j < (enc x).length := (List.getElem?_eq_some_iff.1 hu).1
    simp only [List.flatMap_cons, Nat.zero_mul, Nat.zero_add]
    rw [List.getElem?_append_left hj]
    exact hu
  | x :: r, i + 1, j, h, u, hu => by
    simp only [List.flatMap_cons]
    rw [List.getElem?_append_right (by rw [hk x, Nat.add_mul]; omega), hk x]
    have := flat_get hk r i j (by simpa using h) u hu
    rw [show (i + 1) * k + j - k = i * k + j by rw [Nat.add_mul]; omega]
    exact this
/-- What it reads as. -/
theorem Own.sl (h : Own w base e k enc v xs) (hk : ∀ x, (enc x).length = k) (hl : xs.length ≤ 140737488355328) : ∃ A c, v = .slice A xs.length c ∧ Sl w k enc A c xs := by
  rcases h.2 with ⟨rfl, h0⟩ | ⟨g, cap, cur, rfl, hb, hg, hn, hm, hs, ht⟩
  · have : xs = [] := List.eq_nil_of_length_eq_zero h0
    subst this
    exact ⟨none, 0, rfl, Sl.nil_ _ (by omega)⟩
  · refine ⟨some ⟨g, 0, none⟩, cap, rfl, hn, by simpa [maxLen] using hm, hl, fun i hi => ⟨g, 0, rfl, fun j u hu => ?_⟩⟩
    have h1 := flat_get hk xs i j hi u hu
    rw [← ht, List.getElem?_take] at h1
    split at h1
    · simp only [World.cell?, hg]
      simp only [Nat.zero_add, Option.isSome_none, Bool.false_eq_true, if_false]
      simpa using h1
    · cases h1
theorem Own.grown {row : Option Nat} (h : Own w base e k enc v xs) (hg : w.grownBy w' row) (hr : ∀ j, row = some j → v.ownBlock ≠ some j) : Own w' base e k enc v xs := by
  refine World.ownsRow.kept h hg ?_
  cases hv : v.ownBlock with
  | none => exact .inl rfl
  | some j => exact .inr fun e => hr j e.symm hv
theorem Own.keep (h : Own w base e k enc v xs) (hk : Keep w w') : Own w' base e k enc v xs := by
  refine ⟨h.1, ?_⟩
  rcases h.2 with hn | ⟨g, cap, cur, rfl, hb, hg, rest⟩
  · exact .inl hn
  · exact .inr ⟨g, cap, cur, rfl, hb, (hk.block g (Array.getElem?_eq_some_iff.1 hg).1).trans hg, rest⟩
theorem Own.lt (h : Own w base e k enc v xs) : ∀ j, v.ownBlock = some j → base ≤ j ∧ j < w.heap.size := World.ownsRow.lt h
theorem Own.base_mono {base' : Nat} (h : Own w base e k enc v xs) (hb : base' ≤ base) : Own w base' e k enc v xs := by
  refine ⟨h.1, ?_⟩
  rcases h.2 with hn | ⟨g, cap, cur, rfl, hb', hg, rest⟩
  · exact .inl hn
  · exact .inr ⟨g, cap, cur, rfl, by omega, hg, rest⟩
end

section
variable {α : Type} {P : Program} {w : World}
theorem run_app1 {t ty e : TypeId} {k bytes : Nat} (E : Elt P t e k bytes) {enc : α → List Value} (hk : ∀ x, (enc x).length = k) (h1 : ∀ x, ∀ u ∈ enc x, u.oneCell' = true) {base : Nat} {v : Value} {xs ys : List α} (hown : Own w base e k enc v xs)
    {A : Option Addr} {c : Nat} (hy : Sl w k enc A c ys) (hlen : (xs.length + ys.length) * bytes ≤ 140737488355328) (hbase : base ≤ w.heap.size) :
    ∃ v' w', (Builtin.append_ #[t, t] ty #[v, .slice A ys.length c]).run P w = .ok v' w' ∧ Own w' base e k enc v' (xs ++ ys) ∧ w.grownBy w' v.ownBlock ∧ (v'.ownBlock = v.ownBlock ∨ v'.ownBlock = some w.heap.size) := by
  obtain ⟨i, z, ht, hi, hz, hs, hb, hzc, hk0, hb0⟩ := E.ex
  have hbig : xs.length + ys.length ≤ 9223372036854775807 := by have := Nat.le_mul_of_pos_right (xs.length + ys.length) hb0; omega
  rcases A with _ | ad
  · have h0 : ys = [] := by
      rcases ys with _ | ⟨y, r⟩
      · rfl
      · obtain ⟨_, _, hA, _⟩ := hy.at_ 0 (by simp)
        cases hA
    subst h0
    refine ⟨v, w, ?_, by simpa using hown, ⟨rfl, rfl, rfl, Nat.le_refl _, fun _ _ _ => rfl⟩, .inl rfl⟩
    rcases hown.2 with ⟨rfl, h0⟩ | ⟨g, cap, cur, rfl, _, _, hnc, _⟩
    · simp [Builtin.append_, run_underlying ht, sizeOf, typeInfo, hi, Builtin.lenOf, Builtin.firstCells]
    · simp [Builtin.append_, run_underlying ht, sizeOf, typeInfo, hi, Builtin.lenOf, Builtin.firstCells, hnc, storeCells]
  · have hcells : ∀ j u, (ys.flatMap enc)[j]? = some u → w.cell? (ad.add j) = some u := fun j u hu => by
      have hj : j < (ys.flatMap enc).length := (List.getElem?_eq_some_iff.1 hu).1
      rw [flat_len hk] at hj
      have hi' : j / k < ys.length := Nat.div_lt_of_lt_mul (by rw [Nat.mul_comm]; exact hj)
      obtain ⟨b, off, hA, hc⟩ := hy.at_ (j / k) hi'
      injection hA with hA
      subst hA
      have hm : j % k < (enc ys[j / k]).length := by rw [hk]; exact Nat.mod_lt _ hk0
      have hg := flat_get hk ys (j / k) (j % k) hi' _ (List.getElem?_eq_getElem hm)
      have hj2 : j / k * k + j % k = j := by rw [Nat.mul_comm]; exact Nat.div_add_mod j k
      rw [hj2] at hg
      rw [hg] at hu
      have := hc (j % k) _ (List.getElem?_eq_getElem hm)
      rw [Nat.add_assoc, hj2] at this
      rw [← Option.some.inj hu]
      unfold Addr.add
      split
      · rename_i h0; subst h0; exact this
      · exact this
    obtain ⟨v', w', hr, h2, h3, _, h5⟩ := run_append_own_at (P := P) w base t ty e i z k bytes ht hi hz hs hb hzc hk0 v xs.length (xs.flatMap enc) hown ad ys.length c (ys.flatMap enc) (flat_len hk ys) hcells
      (fun u hu => by obtain ⟨y, _, hy⟩ := List.mem_flatMap.1 hu; exact h1 y u hy) (by unfold maxLen; omega) hlen hbase
    refine ⟨v', w', hr, ?_, h3, h5⟩
    unfold Own
    rw [List.length_append, List.flatMap_append]
    exact h2

theorem wpList_app {t e : TypeId} {k bytes : Nat} (E : Elt P t e k bytes) {enc : α → List Value} (hk : ∀ x, (enc x).length = k) (h1 : ∀ x, ∀ u ∈ enc x, u.oneCell' = true) {ops : Array Oper} {rest : List Oper} {o : Oper} {a : Act} {Q : Exit → Act → World → Prop}
    (hgd : o.guard = none) (s x : Operand) (ho : o.op = .call { callee := .builtin .append, args := #[s, x], argTypes := #[t, t] })
    {base : Nat} {v : Value} {xs ys : List α} (hown : Own w base e k enc v xs) (hs : a.eval s = v) {A : Option Addr} {c : Nat} (hx : a.eval x = .slice A ys.length c) (hy : Sl w k enc A c ys)
    (hlen : (xs.length + ys.length) * bytes ≤ 140737488355328) (hbase : base ≤ w.heap.size)
    (h : ∀ v' w', Own w' base e k enc v' (xs ++ ys) → w.grownBy w' v.ownBlock → (v'.ownBlock = v.ownBlock ∨ v'.ownBlock = some w.heap.size) → wpList P ops Q rest (a.put o.dst v') w') : wpList P ops Q (o :: rest) a w :=
  wpList_plain hgd fun _ hK => by
    obtain ⟨v', w', hr, h2, h3, h4⟩ := run_app1 (ty := o.type) E hk h1 hown hy hlen hbase
    unfold Oper.wp execOp
    simp only [ho, resolve, invoke, builtin, Sem.run_bind, Sem.run_pure, Result.andThen_ok, List.map_toArray, List.map_cons, List.map_nil, hs, hx, hr]
    exact hK _ _ (h v' w' h2 h3 h4)
end
section
variable {α : Type} {w wr w' : World} {base k : Nat} {e : TypeId} {enc : α → List Value} {v : Value} {xs : List α}
/-- Behind an append onto a row of the call's own: what lay ahead of the base is as it was. -/
theorem Own.kept (h : Own wr base e k enc v xs) (hg : wr.grownBy w' v.ownBlock) (hK : Keep w wr) (hb : w.heap.size ≤ base) : Keep w w' := hK.grown hg fun j hj => by have := (h.lt j hj).1; omega
theorem Own.after (h : Own wr base e k enc v xs) (hg : wr.grownBy w' v.ownBlock) (hK : Keep w wr) (hb : w.heap.size ≤ base) : Keep w w' ∧ wr.heap.size ≤ w'.heap.size ∧ ∀ (a : Addr) (u : Value), a.block < base → wr.cell? a = some u → w'.cell? a = some u :=
  ⟨hK.grown hg fun j hj => by have := (h.lt j hj).1; omega, hg.size, fun a u ha hc => hg.cell hc fun hj => by have := (h.lt _ hj.symm).1; omega⟩
theorem Own.cell (h : Own wr base e k enc v xs) (hg : wr.grownBy w' v.ownBlock) {a : Addr} {u : Value} (hc : wr.cell? a = some u) (ha : a.block < base) : w'.cell? a = some u :=
  hg.cell hc fun hj => by have := (h.lt _ hj.symm).1; omega
theorem sl_one {α : Type} {w : World} {k : Nat} {enc : α → List Value} {g c : Nat} (y : α) (hc : 1 ≤ c) (hcm : c ≤ 9223372036854775807) (h : ∀ j u, (enc y)[j]? = some u → w.cell? ⟨g, j, none⟩ = some u) : Sl w k enc (some ⟨g, 0, none⟩) c [y] :=
  ⟨hc, hcm, by simp, fun i hi => ⟨g, 0, rfl, fun j u hu => by
    have : i = 0 := by simpa using hi
    subst this
    have := h j u hu
    simpa using this⟩⟩
end
end Go.Zone
