/- Drawn regions with free results: a step that looks at none of them. -/
import Derived.Test.YtcffcblfmlclnaaGreatDoorZone
import Derived.Test.YtcffcblfmlclnaaGreatDoorOwn
namespace Go.Zone
open Go.RowKit
theorem lookFs_nil {ops : Array Oper} {o : Oper} {fs : Frees} (h : ((fs.map (·.1)).filter fun t => (o.looksAt ops).contains t) = []) : lookFs ops o fs = [] := by
  unfold lookFs
  rw [List.filter_eq_nil_iff] at h ⊢
  intro x hx
  exact h x.1 (List.mem_map_of_mem hx)
/-- A step that looks at one free result. -/
theorem zone_free1 {P : Program} {ops : Array Oper} {w : World} {o : Oper} {a : Act} {fs : Frees} {K : Act → Frees → Prop} {d : Tmp} {Φ : Pred} (u : Value) (hl : lookFs ops o fs = [(d, Φ)])
    (h : ∀ p v, Φ v (w.gro p) → if Region.wanted o (yielded ops (a.put (some d) v).tmps) then goes P o (a.put (some d) v) (w.gro p) (fun v _ => v = u) else undef = u) (k : K (a.put o.dst u) (dropFs o.dst fs)) : zone P ops w o a fs K :=
  ⟨u, fun p => by rw [hl]; exact fun v hv => h p v hv, k⟩
theorem keep_gro (w : World) (p : GB) (W : World) : Keep (w.gro p) W ↔ Below (w.gro p).heap.size (w.gro p) W := Iff.rfl
/-- A fresh slice without things. -/
theorem own_empty {α : Type} (w : World) (base : Nat) (e : TypeId) (k : Nat) (enc : α → List Value) (g : Nat) (hb : base ≤ g) (hg : w.heap[g]? = some (.cells #[] e (0, 0))) : Own w base e k enc (.slice (some ⟨g, 0, none⟩) 0 0) ([] : List α) :=
  ⟨by simp, .inr ⟨g, 0, #[], rfl, hb, hg, Nat.le_refl _, Nat.zero_le _, by simp, by simp⟩⟩
theorem lt_add0 {a b : Nat} (h : a < b) : (a < b) = True := eq_true h
theorem lt_add2 {a b : Nat} (c0 c1 : Nat) (h : a < b) : (a < b + c0 + c1) = True := eq_true (by omega)
theorem lt_add3 {a b : Nat} (c0 c1 c2 : Nat) (h : a < b) : (a < b + c0 + c1 + c2) = True := eq_true (by omega)
theorem lt_add4 {a b : Nat} (c0 c1 c2 c3 : Nat) (h : a < b) : (a < b + c0 + c1 + c2 + c3) = True := eq_true (by omega)
theorem lt_add5 {a b : Nat} (c0 c1 c2 c3 c4 : Nat) (h : a < b) : (a < b + c0 + c1 + c2 + c3 + c4) = True := eq_true (by omega)
theorem lt_add6 {a b : Nat} (c0 c1 c2 c3 c4 c5 : Nat) (h : a < b) : (a < b + c0 + c1 + c2 + c3 + c4 + c5) = True := eq_true (by omega)
theorem lt_add7 {a b : Nat} (c0 c1 c2 c3 c4 c5 c6 : Nat) (h : a < b) : (a < b + c0 + c1 + c2 + c3 + c4 + c5 + c6) = True := eq_true (by omega)
theorem lt_add8 {a b : Nat} (c0 c1 c2 c3 c4 c5 c6 c7 : Nat) (h : a < b) : (a < b + c0 + c1 + c2 + c3 + c4 + c5 + c6 + c7) = True := eq_true (by omega)
theorem lt_add9 {a b : Nat} (c0 c1 c2 c3 c4 c5 c6 c7 c8 : Nat) (h : a < b) : (a < b + c0 + c1 + c2 + c3 + c4 + c5 + c6 + c7 + c8) = True := eq_true (by omega)
theorem lt_add10 {a b : Nat} (c0 c1 c2 c3 c4 c5 c6 c7 c8 c9 : Nat) (h : a < b) : (a < b + c0 + c1 + c2 + c3 + c4 + c5 + c6 + c7 + c8 + c9) = True := eq_true (by omega)
theorem lt_add11 {a b : Nat} (c0 c1 c2 c3 c4 c5 c6 c7 c8 c9 c10 : Nat) (h : a < b) : (a < b + c0 + c1 + c2 + c3 + c4 + c5 + c6 + c7 + c8 + c9 + c10) = True := eq_true (by omega)
theorem lt_add12 {a b : Nat} (c0 c1 c2 c3 c4 c5 c6 c7 c8 c9 c10 c11 : Nat) (h : a < b) : (a < b + c0 + c1 + c2 + c3 + c4 + c5 + c6 + c7 + c8 + c9 + c10 + c11) = True := eq_true (by omega)
end Go.Zone
