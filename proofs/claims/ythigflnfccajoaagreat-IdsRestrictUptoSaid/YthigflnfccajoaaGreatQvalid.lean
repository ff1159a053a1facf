
/- What is wrong with a question: query.Validate, of questions that group and order by nothing. -/
import Derived.WalkKit
import Derived.Lib.Hide
import Derived.WalkSpells
import Derived.WalkLawsBesides
import Derived.BigQuiet
import Derived.Shelf.Abstract
import Derived.Deep.RegionWith
import Derived.Deep.CutRange
import Derived.Deep.DeepCutAuto
import Derived.Deep.CutBlock
import Derived.Test.YthigflnfccajoaaGreatQkinds
namespace Go.Proofs.YthigflnfccajoaaGreat
open Go.RowKit Go.Zone Go.Shelf
attribute [local go_sem] Zone.zone Zone.stepZ Zone.fill Zone.lookFs Zone.goes Zone.goesUpon Zone.dropFs Zone.cell_gro Zone.frozen_gro Zone.size_gro Zone.lt_add Zone.drew_gro Zone.tape_gro Zone.keep_refl
attribute [local go_sem] Zone.lt_add2 Zone.lt_add3 Zone.lt_add4 Zone.lt_add5 Zone.lt_add6 Zone.lt_add7 Zone.lt_add8 Zone.lt_add9 Zone.lt_add10 Zone.lt_add11 Zone.lt_add12
theorem sl_ne {α : Type} {w : World} {k c b : Nat} {enc : α → List Value} {A : Option Addr} {xs : List α} (h : Sl w k enc A c xs) (h0 : ∀ x, 0 < (enc x).length) (hb : w.heap.size ≤ b) : ∀ g off, A = some ⟨g, off, none⟩ → 0 < xs.length → g ≠ b := by
  rintro g off rfl hl rfl
  obtain ⟨b', off', hA, hc⟩ := h.at_ 0 hl
  have hx := h0 xs[0]
  cases he : enc xs[0] with
  | nil => rw [he] at hx; exact absurd hx (by simp)
  | cons u r =>
    have := hc 0 u (by rw [he]; rfl)
    have hlt := World.block_lt_of_cell? w _ this
    injection hA with hA
    injection hA with h1 h2
    simp only at hlt
    omega
theorem Nd.In.fresh {w : World} {b0 b : Nat} {n : Nd} (h : Nd.In w b0 n) (hb : w.heap.size ≤ b) : Nd.In w b n := by
  induction h with
  | mk n hk hv hA hB _ ih => exact .mk n hk hv (sl_ne hk (fun _ => by simp [Nd.cells]) hb) (sl_ne hv (fun _ => by simp [Val.cells]) hb) ih
theorem Ts.In.fresh {w : World} {b0 b : Nat} {n : Ts} (h : Ts.In w b0 n) (hb : w.heap.size ≤ b) : Ts.In w b n := by
  induction h with
  | mk n hk hA _ ih => exact .mk n hk (sl_ne hk (fun _ => by simp [Ts.cells]) hb) ih
theorem at_alloc (w : World) (vs : List Value) (T : TypeId) : At (w.alloc (.cells vs.toArray T)) w.heap.size vs := fun j u hu => by
  unfold World.cell? World.alloc
  simpa using hu
theorem sl_blk {α : Type} {w : World} {g k : Nat} {enc : α → List Value} {xs : List α} (hk : ∀ x, (enc x).length = k) (h : At w g (xs.flatMap enc)) (hl : xs.length ≤ 1000) : Sl w k enc (some ⟨g, 0, none⟩) xs.length xs :=
  ⟨Nat.le_refl _, by omega, by omega, fun i hi => ⟨g, 0, rfl, fun j u hu => by
    rw [Nat.zero_add]
    exact h _ _ (flat_get hk xs i j hi u hu)⟩⟩
/-- What Validate looks at: its question in block n0, and what the question holds, beside the gatherer in block nb. -/
structure Vq (w : World) (nb n0 : Nat) (vs : List Value) (A : Option Addr) (c : Nat) (cols : List Col) (B : Option Addr) (d : Nat) (kinds : List Int) (aA : Option Addr) (ac : Nat) (ags : List Ag) (f : Nd) (h : Ts) : Prop where
  x : At w n0 vs
  cs : Sl w 2 Col.cells A c cols
  ks : Sl w 1 byteK B d kinds
  gs : Sl w 2 Ag.cells aA ac ags
  nf : Nd.In w nb f
  nt : Ts.In w nb h
  ne : n0 ≠ nb
  nA : ∀ g off, A = some ⟨g, off, none⟩ → 0 < cols.length → g ≠ nb
  nB : ∀ g off, B = some ⟨g, off, none⟩ → 0 < kinds.length → g ≠ nb
  nG : ∀ g off, aA = some ⟨g, off, none⟩ → 0 < ags.length → g ≠ nb
theorem Vq.by_ {w w' : World} {nb n0 : Nat} {vs : List Value} {A : Option Addr} {c : Nat} {cols : List Col} {B : Option Addr} {d : Nat} {kinds : List Int} {aA : Option Addr} {ac : Nat} {ags : List Ag} {f : Nd} {h : Ts}
    (H : Vq w nb n0 vs A c cols B d kinds aA ac ags f h) (hg : w.grownBy w' (some nb)) : Vq w' nb n0 vs A c cols B d kinds aA ac ags f h :=
  ⟨At.by_ hg H.x (fun e => H.ne (Option.some.inj e)), By.sl hg H.cs (fun g off e hp q => H.nA g off e hp (Option.some.inj q)), By.sl hg H.ks (fun g off e hp q => H.nB g off e hp (Option.some.inj q)),
    By.sl hg H.gs (fun g off e hp q => H.nG g off e hp (Option.some.inj q)), H.nf.by_ hg, H.nt.by_ hg, H.ne, H.nA, H.nB, H.nG⟩
/-- What is wrong with a question that groups and orders by nothing. -/
def validE (cols : List Col) (f : Nd) (ags : List Ag) (h : Ts) (limit : Int) : Int :=
  testE (kindsQ cols [] ags.length) 1 (nodeE cols 1 (aggsE cols (soE (soE (soE 0 (decide (limit < -1)) 2) (decide (16 < (ags.length : Int))) 3) ((ags.length : Int) == 0) 5) ags) f) h
end Go.Proofs.YthigflnfccajoaaGreat
