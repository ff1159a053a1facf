
/- segment: what Open defers. -/
import Derived.WalkKit
import Derived.Lib.Hide
import Derived.WalkSpells
import Derived.WalkLawsBesides
import Derived.BigQuiet
import Derived.Shelf.Abstract
import Derived.Defers
import Derived.Recover
import Derived.Test.YtmcaednlilhnoaaGreatDoorSg
namespace Go.Proofs.YtmcaednlilhnoaaGreatDoor
open Go.RowKit Go.Zone Go.Shelf
attribute [local go_sem] Zone.zone Zone.stepZ Zone.fill Zone.lookFs Zone.goes Zone.goesUpon Zone.dropFs Zone.cell_gro Zone.frozen_gro Zone.size_gro Zone.lt_add Zone.drew_gro Zone.tape_gro Zone.keep_refl
attribute [local go_sem] Zone.lt_add2 Zone.lt_add3 Zone.lt_add4 Zone.lt_add5 Zone.lt_add6 Zone.lt_add7 Zone.lt_add8 Zone.lt_add9 Zone.lt_add10 Zone.lt_add11 Zone.lt_add12
theorem wrong_is (v : Value) (W : World) : (Instr.typeAssert (.iface 108 v) 20 108 true).run Tryz.prog W = .ok (.tuple #[v, .bool true]) W := by kernel_rfl
set_option maxRecDepth 100000 in
set_option maxHeartbeats 4000000 in
theorem catch_panicking (ps pe : Nat) (x : Int) (u0 u1 : Value) (w : World) (hs : w.cell? ⟨ps, 0, none⟩ = some u0) (he : w.cell? ⟨pe, 0, none⟩ = some u1) (fs : w.frozen? ⟨ps, 0, none⟩ = false) (fe : w.frozen? ⟨pe, 0, none⟩ = false) (hne : ps ≠ pe) :
    CallsD Tryz.prog 44 #[.pointer (some ⟨ps, 0, none⟩), .pointer (some ⟨pe, 0, none⟩)] (.panicking [{ v := .iface 108 (.int .i64 x), recovered := false }]) w fun e u' w' =>
      e = .returned (.tuple #[]) ∧ u' = .panicking [{ v := .iface 108 (.int .i64 x), recovered := true }] ∧ w' = (w.setCell ⟨ps, 0, none⟩ (.pointer none)).setCell ⟨pe, 0, none⟩ (.int .i64 x) := by
  have hta := wrong_is
  refine callsD_of_wpS Tryz.func44 rfl fun c₀ cs hu => ?_
  apply wpS_seq
  apply wpS_region
  simp [wpOpsS, go_sem, recoverD, hu, Tryz.ntmps44, Exit.thenS]
  refine wpS_of_wp ?_
  go_wp2
  simp [bodyPostS, results, Tryz.results44]
theorem catch_idle (ps pe : Nat) (w : World) :
    CallsD Tryz.prog 44 #[.pointer (some ⟨ps, 0, none⟩), .pointer (some ⟨pe, 0, none⟩)] .returning w fun e u' w' => e = .returned (.tuple #[]) ∧ u' = .returning ∧ w' = w := by
  refine callsD_of_wpS Tryz.func44 rfl fun c₀ cs hu => ?_
  apply wpS_seq
  apply wpS_region
  simp [wpOpsS, go_sem, recoverD, hu, Tryz.ntmps44, Exit.thenS]
  refine wpS_of_wp ?_
  go_wp2
  cases c₀
  simp_all [bodyPostS, results, Tryz.results44]
end Go.Proofs.YtmcaednlilhnoaaGreatDoor
