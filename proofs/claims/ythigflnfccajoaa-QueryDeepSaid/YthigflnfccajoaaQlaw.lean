
/- QueryDeep: what the law answers. -/
import Derived.WalkKit
import Derived.Lib.Hide
import Derived.WalkSpells
import Derived.WalkLawsBesides
import Derived.BigQuiet
import Derived.Shelf.Abstract
import Derived.Test.YthigflnfccajoaaQdeep
namespace Go.Proofs.Ythigflnfccajoaa
open Go.RowKit Go.Zone Go.Shelf
attribute [local go_sem] Zone.zone Zone.stepZ Zone.fill Zone.lookFs Zone.goes Zone.goesUpon Zone.dropFs Zone.cell_gro Zone.frozen_gro Zone.size_gro Zone.lt_add Zone.drew_gro Zone.tape_gro Zone.keep_refl
attribute [local go_sem] Zone.lt_add2 Zone.lt_add3 Zone.lt_add4 Zone.lt_add5 Zone.lt_add6 Zone.lt_add7 Zone.lt_add8 Zone.lt_add9 Zone.lt_add10 Zone.lt_add11 Zone.lt_add12
theorem Nd.In.two {w w' : World} {b1 b2 : Nat} {n : Nd} (h1 : Nd.In w b1 n) (h2 : Nd.In w b2 n) (hc : ∀ g off v, g ≠ b1 → g ≠ b2 → w.cell? ⟨g, off, none⟩ = some v → w'.cell? ⟨g, off, none⟩ = some v) : Nd.In w' b1 n := by
  induction h1 with
  | mk n hk hv hA hB hi ih =>
    have hs : ∀ {α : Type} {k c : Nat} {enc : α → List Value} {A : Option Addr} {xs : List α}, Sl w k enc A c xs → (∀ g off, A = some ⟨g, off, none⟩ → 0 < xs.length → g ≠ b1) → (∀ g off, A = some ⟨g, off, none⟩ → 0 < xs.length → g ≠ b2) → Sl w' k enc A c xs :=
      fun h a1 a2 => ⟨h.cap, h.big, h.len, fun i hi => by
        obtain ⟨g, off, hA, hcc⟩ := h.at_ i hi
        exact ⟨g, off, hA, fun j u hu => hc _ _ _ (a1 g off hA (by omega)) (a2 g off hA (by omega)) (hcc j u hu)⟩⟩
    exact .mk n (hs hk hA h2.neA) (hs hv hB h2.neB) hA hB fun k hk => ih k hk (h2.kid k hk)
theorem Ts.In.two {w w' : World} {b1 b2 : Nat} {n : Ts} (h1 : Ts.In w b1 n) (h2 : Ts.In w b2 n) (hc : ∀ g off v, g ≠ b1 → g ≠ b2 → w.cell? ⟨g, off, none⟩ = some v → w'.cell? ⟨g, off, none⟩ = some v) : Ts.In w' b1 n := by
  induction h1 with
  | mk n hk hA hi ih =>
    have hs : ∀ {α : Type} {k c : Nat} {enc : α → List Value} {A : Option Addr} {xs : List α}, Sl w k enc A c xs → (∀ g off, A = some ⟨g, off, none⟩ → 0 < xs.length → g ≠ b1) → (∀ g off, A = some ⟨g, off, none⟩ → 0 < xs.length → g ≠ b2) → Sl w' k enc A c xs :=
      fun h a1 a2 => ⟨h.cap, h.big, h.len, fun i hi => by
        obtain ⟨g, off, hA, hcc⟩ := h.at_ i hi
        exact ⟨g, off, hA, fun j u hu => hc _ _ _ (a1 g off hA (by omega)) (a2 g off hA (by omega)) (hcc j u hu)⟩⟩
    exact .mk n (hs hk hA h2.neA) hA fun k hk => ih k hk (h2.kid k hk)
theorem frozen_new (W : World) (c : Array Value) (T : TypeId) (j : Nat) : (W.alloc (.cells c T)).frozen? ⟨W.heap.size, j, none⟩ = false := by
  unfold World.frozen? World.alloc
  simp
/-- The two chains in their variables, behind k rounds. -/
structure Deep (w : World) (v : Int) (k : Nat) (wr : World) (f : Nd) (t : Ts) : Prop where
  keep : Keep w wr
  size : w.heap.size + 1 + 1 + 1 + 1 ≤ wr.heap.size
  cols : At wr w.heap.size [.string bA, .int .u8 1]
  cf : At wr (w.heap.size + 1 + 1) f.cells
  ct : At wr (w.heap.size + 1 + 1 + 1) t.cells
  ff : ∀ j, wr.frozen? ⟨w.heap.size + 1 + 1, j, none⟩ = false
  ft : ∀ j, wr.frozen? ⟨w.heap.size + 1 + 1 + 1, j, none⟩ = false
  f1 : Nd.In wr (w.heap.size + 1 + 1) f
  f2 : Nd.In wr (w.heap.size + 1 + 1 + 1) f
  t1 : Ts.In wr (w.heap.size + 1 + 1) t
  t2 : Ts.In wr (w.heap.size + 1 + 1 + 1) t
  isf : IsChain v k f
  ist : IsChainT v k t
def setF (wr : World) (b2 b3 : Nat) (q1 q2 : Value) : World := ((((((((((((wr.setCell ⟨b2, 0, none⟩ (.int .u8 3)).setCell ⟨b2, 1, none⟩ q1).setCell ⟨b2, 2, none⟩ (.string bE)).setCell ⟨b2, 3, none⟩ (.int .u8 0)).setCell ⟨b2, 4, none⟩ (.slice none 0 0)).setCell
  ⟨b3, 0, none⟩ (.int .u8 3)).setCell ⟨b3, 1, none⟩ q2).setCell ⟨b3, 2, none⟩ (.int .i64 0)).setCell ⟨b3, 3, none⟩ (.int .u8 0)).setCell ⟨b3, 4, none⟩ (.int .u8 0)).setCell ⟨b3, 5, none⟩ (.int .i64 0)).setCell ⟨b3, 6, none⟩ (.string bE))
theorem setF_size (wr : World) (b2 b3 : Nat) (q1 q2 : Value) : (setF wr b2 b3 q1 q2).heap.size = wr.heap.size := by simp [setF]
theorem setF_other (wr : World) (b2 b3 : Nat) (q1 q2 : Value) (g off : Nat) (h2 : g ≠ b2) (h3 : g ≠ b3) : (setF wr b2 b3 q1 q2).cell? ⟨g, off, none⟩ = wr.cell? ⟨g, off, none⟩ := by
  unfold setF
  repeat rw [World.cell?_setCell_other _ _ _ _ (by simp [h2, h3])]
theorem setF_froz (wr : World) (b2 b3 : Nat) (q1 q2 : Value) (a : Addr) : (setF wr b2 b3 q1 q2).frozen? a = wr.frozen? a := by
  unfold setF
  repeat rw [World.frozen?_setCell]
theorem set_at {W : World} {b j i : Nat} {u x : Value} (h : W.cell? ⟨b, i, none⟩ = some u) : (W.setCell ⟨b, j, none⟩ x).cell? ⟨b, i, none⟩ = some (if j = i then x else u) := by
  by_cases e : j = i
  · subst e; rw [if_pos rfl]; exact World.cell?_setCell_same _ _ _ h
  · rw [if_neg e, World.cell?_setCell_other _ _ _ _ (by simp [Ne.symm e])]; exact h
theorem set_ne {W : World} {b g j i : Nat} {u x : Value} (h : W.cell? ⟨g, i, none⟩ = some u) (e : g ≠ b) : (W.setCell ⟨b, j, none⟩ x).cell? ⟨g, i, none⟩ = some u := by
  rw [World.cell?_setCell_other _ _ _ _ (by simp [e])]; exact h
theorem setF_b2 {wr : World} {b2 b3 : Nat} (q1 q2 : Value) {f0 f1 f2 f3 f4 : Value} (hne : b2 ≠ b3) (h : At wr b2 [f0, f1, f2, f3, f4]) : At (setF wr b2 b3 q1 q2) b2 [.int .u8 3, q1, .string bE, .int .u8 0, .slice none 0 0] := by
  intro j u hu
  unfold setF
  rcases j with _ | _ | _ | _ | _ | j
  · cases hu; exact set_ne (set_ne (set_ne (set_ne (set_ne (set_ne (set_ne (set_at (set_at (set_at (set_at (set_at (h 0 _ rfl)))))) hne) hne) hne) hne) hne) hne) hne
  · cases hu; exact set_ne (set_ne (set_ne (set_ne (set_ne (set_ne (set_ne (set_at (set_at (set_at (set_at (set_at (h 1 _ rfl)))))) hne) hne) hne) hne) hne) hne) hne
  · cases hu; exact set_ne (set_ne (set_ne (set_ne (set_ne (set_ne (set_ne (set_at (set_at (set_at (set_at (set_at (h 2 _ rfl)))))) hne) hne) hne) hne) hne) hne) hne
  · cases hu; exact set_ne (set_ne (set_ne (set_ne (set_ne (set_ne (set_ne (set_at (set_at (set_at (set_at (set_at (h 3 _ rfl)))))) hne) hne) hne) hne) hne) hne) hne
  · cases hu; exact set_ne (set_ne (set_ne (set_ne (set_ne (set_ne (set_ne (set_at (set_at (set_at (set_at (set_at (h 4 _ rfl)))))) hne) hne) hne) hne) hne) hne) hne
  · exact absurd hu (by simp)
theorem setF_b3 {wr : World} {b2 b3 : Nat} (q1 q2 : Value) {f0 f1 f2 f3 f4 f5 f6 : Value} (hne : b3 ≠ b2) (h : At wr b3 [f0, f1, f2, f3, f4, f5, f6]) : At (setF wr b2 b3 q1 q2) b3 [.int .u8 3, q2, .int .i64 0, .int .u8 0, .int .u8 0, .int .i64 0, .string bE] := by
  intro j u hu
  unfold setF
  rcases j with _ | _ | _ | _ | _ | _ | _ | j
  · cases hu; exact set_at (set_at (set_at (set_at (set_at (set_at (set_at (set_ne (set_ne (set_ne (set_ne (set_ne (h 0 _ rfl) hne) hne) hne) hne) hne)))))))
  · cases hu; exact set_at (set_at (set_at (set_at (set_at (set_at (set_at (set_ne (set_ne (set_ne (set_ne (set_ne (h 1 _ rfl) hne) hne) hne) hne) hne)))))))
  · cases hu; exact set_at (set_at (set_at (set_at (set_at (set_at (set_at (set_ne (set_ne (set_ne (set_ne (set_ne (h 2 _ rfl) hne) hne) hne) hne) hne)))))))
  · cases hu; exact set_at (set_at (set_at (set_at (set_at (set_at (set_at (set_ne (set_ne (set_ne (set_ne (set_ne (h 3 _ rfl) hne) hne) hne) hne) hne)))))))
  · cases hu; exact set_at (set_at (set_at (set_at (set_at (set_at (set_at (set_ne (set_ne (set_ne (set_ne (set_ne (h 4 _ rfl) hne) hne) hne) hne) hne)))))))
  · cases hu; exact set_at (set_at (set_at (set_at (set_at (set_at (set_at (set_ne (set_ne (set_ne (set_ne (set_ne (h 5 _ rfl) hne) hne) hne) hne) hne)))))))
  · cases hu; exact set_at (set_at (set_at (set_at (set_at (set_at (set_at (set_ne (set_ne (set_ne (set_ne (set_ne (h 6 _ rfl) hne) hne) hne) hne) hne)))))))
  · exact absurd hu (by simp)
theorem Deep.step {w : World} {v : Int} {k : Nat} {wr : World} {f : Nd} {t : Ts} (h : Deep w v k wr f t) (T1 T2 : TypeId) : Deep w v (k + 1)
    (((setF wr (w.heap.size + 1 + 1) (w.heap.size + 1 + 1 + 1) (.slice (some ⟨wr.heap.size, 0, none⟩) 1 1) (.slice (some ⟨wr.heap.size + 1, 0, none⟩) 1 1)).alloc (.cells f.cells.toArray T1)).alloc (.cells t.cells.toArray T2))
    ⟨3, some ⟨wr.heap.size, 0, none⟩, 1, [f], bE, 0, none, 0, []⟩ ⟨3, some ⟨wr.heap.size + 1, 0, none⟩, 1, [t], 0, 0, ⟨0, 0, bE⟩⟩ := by
  have hs := h.size
  generalize hq1 : Value.slice (some ⟨wr.heap.size, 0, none⟩) 1 1 = q1
  generalize hq2 : Value.slice (some ⟨wr.heap.size + 1, 0, none⟩) 1 1 = q2
  have hS := setF_size wr (w.heap.size + 1 + 1) (w.heap.size + 1 + 1 + 1) q1 q2
  generalize hSS : setF wr (w.heap.size + 1 + 1) (w.heap.size + 1 + 1 + 1) q1 q2 = S at hS
  have hK : Keep S ((S.alloc (.cells f.cells.toArray T1)).alloc (.cells t.cells.toArray T2)) := ((Keep.refl _).alloc _).alloc _
  have hKS : Keep w S := by
    rw [← hSS]; unfold setF
    repeat refine Keep.setCell ?_ (by simp; omega) _
    exact h.keep
  have hoth : ∀ g off u, g ≠ w.heap.size + 1 + 1 → g ≠ w.heap.size + 1 + 1 + 1 → wr.cell? ⟨g, off, none⟩ = some u → S.cell? ⟨g, off, none⟩ = some u := fun g off u e1 e2 hu => by
    rw [← hSS, setF_other _ _ _ _ _ _ _ e1 e2]; exact hu
  have f1 := h.f1.two h.f2 hoth
  have f2 := h.f2.two h.f1 (fun g off u e1 e2 hu => hoth g off u e2 e1 hu)
  have t1 := h.t1.two h.t2 hoth
  have t2 := h.t2.two h.t1 (fun g off u e1 e2 hu => hoth g off u e2 e1 hu)
  have hg1 : At ((S.alloc (.cells f.cells.toArray T1)).alloc (.cells t.cells.toArray T2)) wr.heap.size f.cells := by
    have := at_alloc S f.cells T1
    rw [hS] at this
    exact this.keep ((Keep.refl _).alloc _)
  have hg2 : At ((S.alloc (.cells f.cells.toArray T1)).alloc (.cells t.cells.toArray T2)) (wr.heap.size + 1) t.cells := by
    have := at_alloc (S.alloc (.cells f.cells.toArray T1)) t.cells T2
    rw [World.size_alloc, hS] at this
    exact this
  have sf := sl_blk (k := 5) (enc := Nd.cells) (xs := [f]) (fun _ => rfl) (by simpa using hg1) (by simp)
  have st := sl_blk (k := 7) (enc := Ts.cells) (xs := [t]) (fun _ => rfl) (by simpa using hg2) (by simp)
  have e1 : wr.heap.size ≠ w.heap.size + 1 + 1 := by omega
  have e2 : wr.heap.size ≠ w.heap.size + 1 + 1 + 1 := by omega
  have e3 : wr.heap.size + 1 ≠ w.heap.size + 1 + 1 := by omega
  have e4 : wr.heap.size + 1 ≠ w.heap.size + 1 + 1 + 1 := by omega
  have nb : ∀ {x g off : Nat}, some (⟨x, 0, none⟩ : Addr) = some ⟨g, off, none⟩ → g = x := fun e => by injection e with e; injection e with e; exact e.symm
  refine ⟨hKS.trans hK, by simp [hS]; omega, ?_, ?_, ?_, ?_, ?_, ?_, ?_, ?_, ?_, ⟨rfl, rfl, rfl, rfl, f, rfl, h.isf⟩, ⟨rfl, rfl, rfl, rfl, t, rfl, h.ist⟩⟩
  · refine At.keep hK (fun j u hu => hoth _ _ _ (by omega) (by omega) (h.cols j u hu))
  · have := setF_b2 (wr := wr) (b2 := w.heap.size + 1 + 1) (b3 := w.heap.size + 1 + 1 + 1) q1 q2 (by omega) h.cf
    rw [hSS] at this
    rw [← hq1] at this
    exact this.keep hK
  · have := setF_b3 (wr := wr) (b2 := w.heap.size + 1 + 1) (b3 := w.heap.size + 1 + 1 + 1) q1 q2 (by omega) h.ct
    rw [hSS] at this
    rw [← hq2] at this
    exact this.keep hK
  · intro j
    refine (hK.frozen (p := ⟨w.heap.size + 1 + 1, j, none⟩) (by simp [hS]; omega)).trans ?_
    rw [← hSS, setF_froz]; exact h.ff j
  · intro j
    refine (hK.frozen (p := ⟨w.heap.size + 1 + 1 + 1, j, none⟩) (by simp [hS]; omega)).trans ?_
    rw [← hSS, setF_froz]; exact h.ft j
  · exact .mk _ sf (Sl.nil_ _ (Nat.zero_le _)) (fun g off e _ => by rw [nb e]; exact e1) (fun _ _ _ h => absurd h (Nat.not_lt_zero _)) (fun k hk => by rw [List.mem_singleton.1 hk]; exact f1.keep hK)
  · exact .mk _ sf (Sl.nil_ _ (Nat.zero_le _)) (fun g off e _ => by rw [nb e]; exact e2) (fun _ _ _ h => absurd h (Nat.not_lt_zero _)) (fun k hk => by rw [List.mem_singleton.1 hk]; exact f2.keep hK)
  · exact .mk _ st (fun g off e _ => by rw [nb e]; exact e3) (fun k hk => by rw [List.mem_singleton.1 hk]; exact t1.keep hK)
  · exact .mk _ st (fun g off e _ => by rw [nb e]; exact e4) (fun k hk => by rw [List.mem_singleton.1 hk]; exact t2.keep hK)
theorem vd1 {v : Int} {k : Nat} {f : Nd} (h : IsChain v k f) : validE colA f [⟨1, bE⟩] tz (-1) = if 64 < 1 + k then 11 else 0 := by
  unfold validE
  rw [test_z]
  have : aggsE colA (soE (soE (soE 0 (decide ((-1 : Int) < -1)) 2) (decide (16 < (([⟨1, bE⟩] : List Ag).length : Int))) 3) ((([⟨1, bE⟩] : List Ag).length : Int) == 0) 5) [⟨1, bE⟩] = 0 := by simp [aggsE, aggE, soE_f, tl_e]
  rw [this]
  exact chain_node v k 1 f h (by omega)
theorem vd2 {v : Int} {k : Nat} {t : Ts} (h : IsChainT v k t) : validE colA nz [⟨1, bE⟩] t 3 = if 64 < 1 + k then 11 else 0 := by
  unfold validE
  rw [node_z]
  have : aggsE colA (soE (soE (soE 0 (decide ((3 : Int) < -1)) 2) (decide (16 < (([⟨1, bE⟩] : List Ag).length : Int))) 3) ((([⟨1, bE⟩] : List Ag).length : Int) == 0) 5) [⟨1, bE⟩] = 0 := by simp [aggsE, aggE, soE_f, tl_e]
  rw [this]
  exact chain_test v k 1 t h (by omega)
theorem nz_in (W : World) : Nd.In W W.heap.size nz := .mk _ (Sl.nil_ _ (Nat.zero_le _)) (Sl.nil_ _ (Nat.zero_le _)) (fun _ _ _ h => absurd h (Nat.not_lt_zero _)) (fun _ _ _ h => absurd h (Nat.not_lt_zero _)) (fun k hk => by cases hk)
theorem tz_in (W : World) : Ts.In W W.heap.size tz := .mk _ (Sl.nil_ _ (Nat.zero_le _)) (fun _ _ _ h => absurd h (Nat.not_lt_zero _)) (fun k hk => by cases hk)
set_option maxRecDepth 100000 in
set_option maxHeartbeats 4000000 in
theorem deep_any (n v : Int) (w : World) : Calls Try.prog 3 #[.int .i64 n, .int .i64 v] w fun e w' => e = .returned (.bool true) ∧ Keep w w' := by
  have HKN := Lib.hid (fun W => known24_any W)
  by_cases h1 : n < 1
  · have d1 : decide (n < 1) = true := by simp [h1]
    go_enter Try.func3, Try.ntmps3
    go_wp2_with (go_at_call 5; refine (HKN.out _).mono ?_; rintro e w' ⟨rfl, hk⟩; (first | obtain ⟨p, rfl⟩ := Zone.gro_of_gro _ _ hk | obtain ⟨p, rfl⟩ := Zone.gro_of_below _ hk); clear hk)
    go_ret
    exact ⟨rfl, (by repeat (first | exact Keep.refl _ | apply Keep.alloc | apply Keep.gro | apply Keep.drew | apply Keep.drewN))⟩
  by_cases h2 : 200 < n
  · have d1 : decide (n < 1) = false := by simp; omega
    have d2 : decide (200 < n) = true := by simp [h2]
    go_enter Try.func3, Try.ntmps3
    go_wp2_with (go_at_call 5; refine (HKN.out _).mono ?_; rintro e w' ⟨rfl, hk⟩; (first | obtain ⟨p, rfl⟩ := Zone.gro_of_gro _ _ hk | obtain ⟨p, rfl⟩ := Zone.gro_of_below _ hk); clear hk)
    go_ret
    exact ⟨rfl, (by repeat (first | exact Keep.refl _ | apply Keep.alloc | apply Keep.gro | apply Keep.drew | apply Keep.drewN))⟩
  obtain ⟨m, rfl⟩ : ∃ m : Nat, n = m + 1 := ⟨(n - 1).toNat, by omega⟩
  have hm : m ≤ 199 := by omega
  have d1 : decide ((m : Int) + 1 < 1) = false := by simp; omega
  have d2 : decide (200 < (m : Int) + 1) = false := by simp; omega
  clear h1 h2
  obtain ⟨q, hq⟩ : ∃ q, decide (64 < (m : Int) + 1) = q := ⟨_, rfl⟩
  have HQ := Lib.hid hq
  clear hq
  go_enter Try.func3, Try.ntmps3
  go_wp2
  go_loopw [29, 30, 31, 32, 33, 34, 35, 36, 37] (fun i _ _ _ _ _ _ _ _ wr => ∃ k : Nat, k ≤ m ∧ i = .int .i64 k ∧ ∃ f t, Hid (Deep w v k wr f t)) (fun i _ _ _ _ _ _ _ _ _ => m - (intOf i).toNat)
  case atStart =>
    refine ⟨0, Nat.zero_le _, rfl, ⟨4, none, 0, [], bA, 3, some ⟨w.heap.size + 1, 0, none⟩, 1, [vI v]⟩, ⟨4, none, 0, [], 0, 3, vI v⟩, ?_⟩
    generalize hW : World.alloc _ _ = w1
    have av : At w1 (w.heap.size + 1) [.int .u8 1, .int .i64 v, .string bE] := by rw [← hW]; (intro j u hu; rcases j with _ | _ | _ | _ | _ | _ | _ | j <;> first | (cases hu; simp [go_sem]; done) | (exact absurd hu (by simp)))
    have hsv := sl_blk (k := 3) (enc := Val.cells) (xs := [vI v]) (fun _ => rfl) av (by simp)
    refine ⟨?_, ?_, ?_, ?_, ?_, ?_, ?_, ?_, ?_, ?_, ?_, ⟨rfl, rfl, rfl, rfl, rfl⟩, ⟨rfl, rfl, rfl, rfl, rfl⟩⟩
    · rw [← hW]; exact (by repeat (first | exact Keep.refl _ | apply Keep.alloc | apply Keep.gro | apply Keep.drew | apply Keep.drewN))
    · rw [← hW]; simp
    · rw [← hW]; (intro j u hu; rcases j with _ | _ | _ | _ | _ | _ | _ | j <;> first | (cases hu; simp [go_sem]; done) | (exact absurd hu (by simp)))
    · show At _ _ [.int .u8 4, .slice none 0 0, .string bA, .int .u8 3, .slice (some ⟨w.heap.size + 1, 0, none⟩) 1 1]
      rw [← hW]; (intro j u hu; rcases j with _ | _ | _ | _ | _ | _ | _ | j <;> first | (cases hu; simp [go_sem]; done) | (exact absurd hu (by simp)))
    · show At _ _ [.int .u8 4, .slice none 0 0, .int .i64 0, .int .u8 3, .int .u8 1, .int .i64 v, .string bE]
      rw [← hW]; (intro j u hu; rcases j with _ | _ | _ | _ | _ | _ | _ | j <;> first | (cases hu; simp [go_sem]; done) | (exact absurd hu (by simp)))
    · rw [← hW]; intro j
      have h1 : Keep (((w.alloc (.cells #[.string bA, .int .u8 1] 24)).alloc (.cells #[.int .u8 1, .int .i64 v, .string bE] 27)).alloc (.cells #[.int .u8 4, .slice none 0 0, .string bA, .int .u8 3, .slice (some ⟨w.heap.size + 1, 0, none⟩) 1 1] 31)) _ := (Keep.refl _).alloc (.cells #[.int .u8 4, .slice none 0 0, .int .i64 0, .int .u8 3, .int .u8 1, .int .i64 v, .string bE] 34)
      refine (h1.frozen (p := ⟨w.heap.size + 1 + 1, j, none⟩) (by simp)).trans ?_
      have := frozen_new (((w.alloc (.cells #[.string bA, .int .u8 1] 24)).alloc (.cells #[.int .u8 1, .int .i64 v, .string bE] 27))) #[.int .u8 4, .slice none 0 0, .string bA, .int .u8 3, .slice (some ⟨w.heap.size + 1, 0, none⟩) 1 1] 31 j
      simpa only [World.size_alloc] using this
    · rw [← hW]; intro j
      have := frozen_new ((((w.alloc (.cells #[.string bA, .int .u8 1] 24)).alloc (.cells #[.int .u8 1, .int .i64 v, .string bE] 27)).alloc (.cells #[.int .u8 4, .slice none 0 0, .string bA, .int .u8 3, .slice (some ⟨w.heap.size + 1, 0, none⟩) 1 1] 31))) #[.int .u8 4, .slice none 0 0, .int .i64 0, .int .u8 3, .int .u8 1, .int .i64 v, .string bE] 34 j
      simpa only [World.size_alloc] using this
    · refine .mk _ (Sl.nil_ _ (Nat.zero_le _)) hsv (fun _ _ _ h => absurd h (Nat.not_lt_zero _)) ?_ (fun k hk => by cases hk)
      intro g off h _ e; injection h with h; injection h with h; omega
    · refine .mk _ (Sl.nil_ _ (Nat.zero_le _)) hsv (fun _ _ _ h => absurd h (Nat.not_lt_zero _)) ?_ (fun k hk => by cases hk)
      intro g off h _ e; injection h with h; injection h with h; omega
    · exact .mk _ (Sl.nil_ _ (Nat.zero_le _)) (fun _ _ _ h => absurd h (Nat.not_lt_zero _)) (fun k hk => by cases hk)
    · exact .mk _ (Sl.nil_ _ (Nat.zero_le _)) (fun _ _ _ h => absurd h (Nat.not_lt_zero _)) (fun k hk => by cases hk)
  case round =>
    obtain ⟨k, hk, rfl, f, t, HD⟩ := hrel
    by_cases hlt : k < m
    · have f0 := HD.out.cf 0 _ rfl
      have f1 := HD.out.cf 1 _ rfl
      have f2 := HD.out.cf 2 _ rfl
      have f3 := HD.out.cf 3 _ rfl
      have f4 := HD.out.cf 4 _ rfl
      have t0 := HD.out.ct 0 _ rfl
      have t1 := HD.out.ct 1 _ rfl
      have t2 := HD.out.ct 2 _ rfl
      have t3 := HD.out.ct 3 _ rfl
      have t4 := HD.out.ct 4 _ rfl
      have t5 := HD.out.ct 5 _ rfl
      have t6 := HD.out.ct 6 _ rfl
      have e0 := HD.out.ff 0
      have e1 := HD.out.ff 1
      have e2 := HD.out.ff 2
      have e3 := HD.out.ff 3
      have e4 := HD.out.ff 4
      have g0 := HD.out.ft 0
      have g1 := HD.out.ft 1
      have g2 := HD.out.ft 2
      have g3 := HD.out.ft 3
      have g4 := HD.out.ft 4
      have g5 := HD.out.ft 5
      have g6 := HD.out.ft 6
      have hs := HD.out.size
      have hb2 : w.heap.size + 1 + 1 < wr.heap.size := by omega
      have hb3 : w.heap.size + 1 + 1 + 1 < wr.heap.size := by omega
      clear hs
      go_wp2
      refine ⟨⟨k + 1, by omega, by go_num, _, _, HD.out.step 31 34⟩, by simp [intOf]; omega⟩
    · obtain rfl : k = m := by omega
      have H1 := Lib.hid (vd1 HD.out.isf)
      have H2 := Lib.hid (vd2 HD.out.ist)
      have f0 := HD.out.cf 0 _ rfl
      have f1 := HD.out.cf 1 _ rfl
      have f2 := HD.out.cf 2 _ rfl
      have f3 := HD.out.cf 3 _ rfl
      have f4 := HD.out.cf 4 _ rfl
      have hs := HD.out.size
      have hb2 : w.heap.size + 1 + 1 < wr.heap.size := by omega
      have hb3 : w.heap.size + 1 + 1 + 1 < wr.heap.size := by omega
      have HC := Lib.hid (sl_blk (k := 2) (enc := Col.cells) (xs := colA) (fun _ => rfl) HD.out.cols (by simp))
      clear hs
      cases q
      · have hq := HQ.out
        have d3 : decide (64 < (k : Int) + 1) = false := hq
        have hk64 : ¬ 64 < 1 + k := by simp at d3; omega
        rw [if_neg hk64] at H1 H2
        clear hq hk64
        go_wp2_with (go_at_call 6; refine Zone.hold ?_)
        refine Zone.unhold ?_
        generalize hW : World.alloc _ _ = w1
        have HK1 : Hid (Keep wr w1) := by show Keep _ _; rw [← hW]; exact (by repeat (first | exact Keep.refl _ | apply Keep.alloc | apply Keep.gro | apply Keep.drew | apply Keep.drewN))
        have aA : At w1 wr.heap.size [.int .u8 1, .string bE] := by rw [← hW]; exact at_alloc wr _ _
        have HA := Lib.hid (sl_blk (k := 2) (enc := Ag.cells) (xs := [⟨1, bE⟩]) (fun _ => rfl) aA (by simp))
        have hb4 : wr.heap.size < w1.heap.size := by rw [← hW]; simp
        clear hW aA f0 f1 f2 f3 f4
        refine (valid_any f tz _ 1 [⟨1, bE⟩] none 0 none 0 (-1) _ 1 colA w1 (HC.out.keep HK1.out) HA.out ((HD.out.f1.keep HK1.out).fresh (Nat.le_refl _)) (tz_in w1) (by omega) (by omega) (by simp)).mono ?_
        rw [H1.out]
        rintro e w2 ⟨rfl, hk⟩
        obtain ⟨p2, rfl⟩ := gro_of_below _ hk
        clear hk
        generalize hW : World.gro _ _ = w2
        have HK2 : Hid (Keep wr w2) := by show Keep _ _; rw [← hW]; exact HK1.out.trans (below_gro _ _)
        have HA2 := Lib.hid (show Sl w2 2 Ag.cells _ 1 [⟨1, bE⟩] by rw [← hW]; exact HA.out.keep (below_gro _ _))
        have HB2 : Hid (w.heap.size + 1 + 1 + 1 < w2.heap.size) := by show _ < _; have := HK2.out.size; omega
        clear hW HA HK1 hb4
        have t0 := (HD.out.ct.keep HK2.out) 0 _ rfl
        have t1 := (HD.out.ct.keep HK2.out) 1 _ rfl
        have t2 := (HD.out.ct.keep HK2.out) 2 _ rfl
        have t3 := (HD.out.ct.keep HK2.out) 3 _ rfl
        have t4 := (HD.out.ct.keep HK2.out) 4 _ rfl
        have t5 := (HD.out.ct.keep HK2.out) 5 _ rfl
        have t6 := (HD.out.ct.keep HK2.out) 6 _ rfl
        have hb5 := HB2.out
        go_wp2_with (go_at_call 6; refine Zone.hold ?_)
        refine Zone.unhold ?_
        refine (valid_any nz t _ 1 [⟨1, bE⟩] none 0 none 0 3 _ 1 colA w2 (HC.out.keep HK2.out) HA2.out (nz_in w2) ((HD.out.t1.keep HK2.out).fresh (Nat.le_refl _)) (by omega) (by omega) (by simp)).mono ?_
        rw [H2.out]
        rintro e w3 ⟨rfl, hk⟩
        obtain ⟨p3, rfl⟩ := gro_of_below _ hk
        clear hk t0 t1 t2 t3 t4 t5 t6 hb5
        generalize hW : World.gro _ _ = w3
        have HK3 : Hid (Keep wr w3) := by show Keep _ _; rw [← hW]; exact HK2.out.trans (below_gro _ _)
        have hb6 : w.heap.size + 1 + 1 + 1 < w3.heap.size := by have := HK3.out.size; omega
        have hb9 : w.heap.size + 1 + 1 < w3.heap.size := by omega
        clear hW HK2 HA2 HB2
        have f0 := (HD.out.cf.keep HK3.out) 0 _ rfl
        have f1 := (HD.out.cf.keep HK3.out) 1 _ rfl
        have f2 := (HD.out.cf.keep HK3.out) 2 _ rfl
        have f3 := (HD.out.cf.keep HK3.out) 3 _ rfl
        have f4 := (HD.out.cf.keep HK3.out) 4 _ rfl
        have HT := Lib.hid (chain_takes v k f HD.out.isf)
        have HP := Lib.hid (chain_pass v k t HD.out.ist)
        obtain ⟨b, hb⟩ : ∃ b, decide (k % 2 = 1) = b := ⟨_, rfl⟩
        rw [hb] at HT HP
        have hpar : ((((k : Int) + 1) % 2) == 0) = b := by
          rw [← hb]
          by_cases h : k % 2 = 1
          · rw [decide_eq_true h]; simp; omega
          · rw [decide_eq_false h]; simp; omega
        clear hb
        go_wp2_with (go_at_call 7; refine Zone.hold ?_)
        refine Zone.unhold ?_
        generalize hW : World.alloc _ _ = w4
        have HK4 : Hid (Keep wr w4) := by show Keep _ _; rw [← hW]; exact HK3.out.trans (by repeat (first | exact Keep.refl _ | apply Keep.alloc | apply Keep.gro | apply Keep.drew | apply Keep.drewN))
        have aV : At w4 w3.heap.size [.int .u8 1, .int .i64 v, .string bE] := by rw [← hW]; exact at_alloc w3 _ _
        have HV := Lib.hid (sl_blk (k := 3) (enc := Val.cells) (xs := [vI v]) (fun _ => rfl) aV (by simp))
        have hb7 : w3.heap.size < w4.heap.size := by rw [← hW]; simp
        clear hW aV f0 f1 f2 f3 f4
        refine (takes_any wr (w.heap.size + 1 + 1) f HD.out.f1 w4 HK4.out (HC.out.keep HK4.out) HV.out).mono ?_
        rw [HT.out]
        rintro e w5 ⟨rfl, hk⟩
        obtain ⟨p5, rfl⟩ := gro_of_below _ hk
        clear hk
        generalize hW : World.gro _ _ = w5
        have HK5 : Hid (Keep wr w5) := by show Keep _ _; rw [← hW]; exact HK4.out.trans (below_gro _ _)
        have HV5 := Lib.hid (show Sl w5 3 Val.cells _ 1 [vI v] by rw [← hW]; exact HV.out.keep (below_gro _ _))
        have hb8 : w.heap.size + 1 + 1 + 1 < w5.heap.size := by have := HK5.out.size; omega
        clear hW HK4 HV HK3 hb7 hb6 hb9
        have t0 := (HD.out.ct.keep HK5.out) 0 _ rfl
        have t1 := (HD.out.ct.keep HK5.out) 1 _ rfl
        have t2 := (HD.out.ct.keep HK5.out) 2 _ rfl
        have t3 := (HD.out.ct.keep HK5.out) 3 _ rfl
        have t4 := (HD.out.ct.keep HK5.out) 4 _ rfl
        have t5 := (HD.out.ct.keep HK5.out) 5 _ rfl
        have t6 := (HD.out.ct.keep HK5.out) 6 _ rfl
        go_wp2_with (go_at_call 8; refine Zone.hold ?_)
        refine Zone.unhold ?_
        refine (pass_any wr (w.heap.size + 1 + 1) t HD.out.t1 w5 HK5.out HV5.out).mono ?_
        rw [HP.out]
        rintro e w6 ⟨rfl, hk⟩
        obtain ⟨p6, rfl⟩ := gro_of_below _ hk
        clear hk t0 t1 t2 t3 t4 t5 t6
        have HKw := Lib.hid (HD.out.keep.trans HK5.out)
        go_wp2_with (go_at_call 5; refine (HKN.out _).mono ?_; rintro e w' ⟨rfl, hk⟩; (first | obtain ⟨p, rfl⟩ := Zone.gro_of_gro _ _ hk | obtain ⟨p, rfl⟩ := Zone.gro_of_below _ hk); clear hk)
        go_ret
        exact ⟨rfl, HKw.out.trans (by repeat (first | exact Keep.refl _ | apply Keep.alloc | apply Keep.gro | apply Keep.drew | apply Keep.drewN))⟩
      · have hq := HQ.out
        have d3 : decide (64 < (k : Int) + 1) = true := hq
        have hk64 : 64 < 1 + k := by simp at d3; omega
        rw [if_pos hk64] at H1 H2
        clear hq hk64
        go_wp2_with (go_at_call 6; refine Zone.hold ?_)
        refine Zone.unhold ?_
        generalize hW : World.alloc _ _ = w1
        have HK1 : Hid (Keep wr w1) := by show Keep _ _; rw [← hW]; exact (by repeat (first | exact Keep.refl _ | apply Keep.alloc | apply Keep.gro | apply Keep.drew | apply Keep.drewN))
        have aA : At w1 wr.heap.size [.int .u8 1, .string bE] := by rw [← hW]; exact at_alloc wr _ _
        have HA := Lib.hid (sl_blk (k := 2) (enc := Ag.cells) (xs := [⟨1, bE⟩]) (fun _ => rfl) aA (by simp))
        have hb4 : wr.heap.size < w1.heap.size := by rw [← hW]; simp
        clear hW aA f0 f1 f2 f3 f4
        refine (valid_any f tz _ 1 [⟨1, bE⟩] none 0 none 0 (-1) _ 1 colA w1 (HC.out.keep HK1.out) HA.out ((HD.out.f1.keep HK1.out).fresh (Nat.le_refl _)) (tz_in w1) (by omega) (by omega) (by simp)).mono ?_
        rw [H1.out]
        rintro e w2 ⟨rfl, hk⟩
        obtain ⟨p2, rfl⟩ := gro_of_below _ hk
        clear hk
        generalize hW : World.gro _ _ = w2
        have HK2 : Hid (Keep wr w2) := by show Keep _ _; rw [← hW]; exact HK1.out.trans (below_gro _ _)
        have HA2 := Lib.hid (show Sl w2 2 Ag.cells _ 1 [⟨1, bE⟩] by rw [← hW]; exact HA.out.keep (below_gro _ _))
        have HB2 : Hid (w.heap.size + 1 + 1 + 1 < w2.heap.size) := by show _ < _; have := HK2.out.size; omega
        clear hW HA HK1 hb4
        have t0 := (HD.out.ct.keep HK2.out) 0 _ rfl
        have t1 := (HD.out.ct.keep HK2.out) 1 _ rfl
        have t2 := (HD.out.ct.keep HK2.out) 2 _ rfl
        have t3 := (HD.out.ct.keep HK2.out) 3 _ rfl
        have t4 := (HD.out.ct.keep HK2.out) 4 _ rfl
        have t5 := (HD.out.ct.keep HK2.out) 5 _ rfl
        have t6 := (HD.out.ct.keep HK2.out) 6 _ rfl
        have hb5 := HB2.out
        go_wp2_with (go_at_call 6; refine Zone.hold ?_)
        refine Zone.unhold ?_
        refine (valid_any nz t _ 1 [⟨1, bE⟩] none 0 none 0 3 _ 1 colA w2 (HC.out.keep HK2.out) HA2.out (nz_in w2) ((HD.out.t1.keep HK2.out).fresh (Nat.le_refl _)) (by omega) (by omega) (by simp)).mono ?_
        rw [H2.out]
        rintro e w3 ⟨rfl, hk⟩
        obtain ⟨p3, rfl⟩ := gro_of_below _ hk
        clear hk t0 t1 t2 t3 t4 t5 t6 hb5
        generalize hW : World.gro _ _ = w3
        have HK3 : Hid (Keep wr w3) := by show Keep _ _; rw [← hW]; exact HK2.out.trans (below_gro _ _)
        have hb6 : w.heap.size + 1 + 1 + 1 < w3.heap.size := by have := HK3.out.size; omega
        have hb9 : w.heap.size + 1 + 1 < w3.heap.size := by omega
        clear hW HK2 HA2 HB2
        have HKw := Lib.hid (HD.out.keep.trans HK3.out)
        go_wp2_with (go_at_call 5; refine (HKN.out _).mono ?_; rintro e w' ⟨rfl, hk⟩; (first | obtain ⟨p, rfl⟩ := Zone.gro_of_gro _ _ hk | obtain ⟨p, rfl⟩ := Zone.gro_of_below _ hk); clear hk)
        go_ret
        exact ⟨rfl, HKw.out.trans (by repeat (first | exact Keep.refl _ | apply Keep.alloc | apply Keep.gro | apply Keep.drew | apply Keep.drewN))⟩
end Go.Proofs.Ythigflnfccajoaa
