/- A slice that reads as a list of things of k cells each. -/
import Derived.Test.YtcffcblfmlclnaaGreatDoorZone
namespace Go.Zone
open Go.RowKit

/-- The slice value '.slice A xs.length c' reads as xs; each thing has k cells. -/
structure Sl {α : Type} (w : World) (k : Nat) (enc : α → List Value) (A : Option Addr) (c : Nat) (xs : List α) : Prop where
  cap : xs.length ≤ c
  big : c ≤ 9223372036854775807
  len : xs.length ≤ 140737488355328
  at_ : ∀ i, (h : i < xs.length) → ∃ b off, A = some ⟨b, off, none⟩ ∧ ∀ j u, (enc xs[i])[j]? = some u → w.cell? ⟨b, off + i * k + j, none⟩ = some u

section
variable {α : Type} {w w' : World} {k c : Nat} {enc : α → List Value} {A : Option Addr} {xs : List α}
theorem Sl.nil_ (A : Option Addr) (hc : c ≤ 9223372036854775807) : Sl w k enc A c ([] : List α) := ⟨Nat.zero_le _, hc, Nat.zero_le _, fun i h => absurd h (Nat.not_lt_zero _)⟩
theorem Sl.keep (h : Sl w k enc A c xs) (hk : Keep w w') : Sl w' k enc A c xs :=
  ⟨h.cap, h.big, h.len, fun i hi => by
    obtain ⟨b, off, hA, hc⟩ := h.at_ i hi
    exact ⟨b, off, hA, fun j u hu => by
      have h1 := hc j u hu
      exact (Below.cell hk (p := ⟨b, off + i * k + j, none⟩) (World.block_lt_of_cell? w _ h1)).trans h1⟩⟩
theorem Sl.same (h : Sl w k enc A c xs) (hk : ∀ p v, w.cell? p = some v → w'.cell? p = some v) : Sl w' k enc A c xs :=
  ⟨h.cap, h.big, h.len, fun i hi => by
    obtain ⟨b, off, hA, hc⟩ := h.at_ i hi
    exact ⟨b, off, hA, fun j u hu => hk _ _ (hc j u hu)⟩⟩
/-- All at one place. -/
theorem Sl.place (h : Sl w k enc A c xs) (h0 : 0 < xs.length) : ∃ b off, A = some ⟨b, off, none⟩ ∧ ∀ i (_h : i < xs.length) j u, (enc xs[i])[j]? = some u → w.cell? ⟨b, off + i * k + j, none⟩ = some u := by
  obtain ⟨b, off, hA, _⟩ := h.at_ 0 h0
  refine ⟨b, off, hA, fun i hi j u hu => ?_⟩
  obtain ⟨b', off', hA', hc⟩ := h.at_ i hi
  rw [hA] at hA'
  injection hA' with hA'
  injection hA' with h1 h2
  subst h1; subst h2
  exact hc j u hu
theorem Sl.cut_front (h : Sl w k enc A c xs) (n : Nat) (hn : n ≤ xs.length) : Sl w k enc A c (xs.take n) :=
  ⟨by have := h.cap; simp; omega, h.big, by have := h.len; simp; omega, fun i hi => by
    simp only [List.length_take] at hi
    obtain ⟨b, off, hA, hc⟩ := h.at_ i (by omega)
    exact ⟨b, off, hA, fun j u hu => hc j u (by rw [List.getElem_take] at hu; exact hu)⟩⟩
end
end Go.Zone
