
/- QueryDeep: what known answers; what the law answers. -/
import Derived.WalkKit
import Derived.Lib.Hide
import Derived.WalkSpells
import Derived.WalkLawsBesides
import Derived.BigQuiet
import Derived.Shelf.Abstract
import Derived.Test.YthigflnfccajoaaQchain
namespace Go.Proofs.Ythigflnfccajoaa
open Go.RowKit Go.Zone Go.Shelf
attribute [local go_sem] Zone.zone Zone.stepZ Zone.fill Zone.lookFs Zone.goes Zone.goesUpon Zone.dropFs Zone.cell_gro Zone.frozen_gro Zone.size_gro Zone.lt_add Zone.drew_gro Zone.tape_gro Zone.keep_refl
attribute [local go_sem] Zone.lt_add2 Zone.lt_add3 Zone.lt_add4 Zone.lt_add5 Zone.lt_add6 Zone.lt_add7 Zone.lt_add8 Zone.lt_add9 Zone.lt_add10 Zone.lt_add11 Zone.lt_add12
theorem sl_blk {α : Type} {w : World} {g k : Nat} {enc : α → List Value} {xs : List α} (hk : ∀ x, (enc x).length = k) (h : At w g (xs.flatMap enc)) (hl : xs.length ≤ 1000) : Sl w k enc (some ⟨g, 0, none⟩) xs.length xs :=
  ⟨Nat.le_refl _, by omega, by omega, fun i hi => ⟨g, 0, rfl, fun j u hu => by
    rw [Nat.zero_add]
    exact h _ _ (flat_get hk xs i j hi u hu)⟩⟩
@[reducible] def colsK : List Col := [⟨bA, 1⟩, ⟨bM, 3⟩]
@[reducible] def tz : Ts := ⟨0, none, 0, [], 0, 0, ⟨0, 0, bE⟩⟩
@[reducible] def nz : Nd := ⟨0, none, 0, [], bE, 0, none, 0, []⟩
theorem find_k1 : findC colsK bA = (⟨bA, 1⟩, true) := by simp [findC, isCol, tl_a]
theorem find_k2 : findC colsK bM = (⟨bM, 3⟩, true) := by simp [findC, isCol, tl_a, tl_m]
theorem test_z (ks : List Int) (e : Int) : testE ks 1 e tz = e := by
  rw [testE_eq]
  simp [formT, zeroB, innerB, tl_e, soE_f, testsE]
theorem node_z (cols : List Col) (e : Int) : nodeE cols 1 e nz = e := by
  rw [nodeE_eq]
  simp [formB, innerB, tl_e, soE_f, nodesE]
theorem vk1 (B : Option Addr) (d : Nat) : validE colsK ⟨4, none, 0, [], bA, 1, B, d, [vI 1]⟩ [⟨1, bE⟩] tz (-1) = 0 := by
  unfold validE
  rw [test_z, nodeE_eq]
  simp [leafE, leafOk, leafE1, find_k1, soE_f, valsE, valE, may_vI, kindC, aggsE, aggE, tl_e]
theorem vk2 (B : Option Addr) (d : Nat) : validE colsK ⟨4, none, 0, [], bM, 1, B, d, [vI 1]⟩ [⟨1, bE⟩] tz 0 = 9 := by
  unfold validE
  rw [test_z, nodeE_eq]
  simp [leafE, leafOk, leafE1, find_k2, soE_f, soE_t, valsE, valE, may_vI, kindC, aggsE, aggE, tl_e]
theorem vk3 : validE colsK nz [⟨2, bA⟩] tz 0 = 9 := by
  unfold validE
  rw [test_z, node_z]
  simp [find_k1, soE_f, soE_t, aggsE, aggE]
theorem vk4 : validE colsK nz [] tz (-2) = 2 := by
  unfold validE
  rw [test_z, node_z]
  simp [soE_f, soE_t, aggsE]
  simp [soE]
theorem tk (B : Option Addr) (d : Nat) : takesB colsK [vI 1, vI 1] ⟨4, none, 0, [], bA, 1, B, d, [vI 1]⟩ = true := by
  rw [takesB_eq]
  simp [leafB, idxP, isCol, compB, soB, cmpV, cmpI, cmpS, orL, bl_nil]
set_option maxHeartbeats 4000000 in
set_option maxRecDepth 100000 in
theorem known24_any (w : World) : Calls Try.prog 5 #[] w fun e w' => e = .returned (.bool true) ∧ Keep w w' := by
  go_enter Try.func5, Try.ntmps5
  go_wp2_with (go_at_call 6; refine Zone.hold ?_)
  refine Zone.unhold ?_
  generalize hW : World.alloc _ _ = w1
  have a0 : At w1 w.heap.size [.string bA, .int .u8 1, .string bM, .int .u8 3] := by rw [← hW]; (intro j u hu; rcases j with _ | _ | _ | _ | _ | _ | _ | j <;> first | (cases hu; simp [go_sem]; done) | (exact absurd hu (by simp)))
  have a1 : At w1 (w.heap.size + 1) [.int .u8 1, .int .i64 1, .string bE] := by rw [← hW]; (intro j u hu; rcases j with _ | _ | _ | _ | _ | _ | _ | j <;> first | (cases hu; simp [go_sem]; done) | (exact absurd hu (by simp)))
  have a2 : At w1 (w.heap.size + 1 + 1) [.int .u8 1, .string bE] := by rw [← hW]; (intro j u hu; rcases j with _ | _ | _ | _ | _ | _ | _ | j <;> first | (cases hu; simp [go_sem]; done) | (exact absurd hu (by simp)))
  have a3 : At w1 (w.heap.size + 1 + 1 + 1) [.int .u8 1, .int .i64 1, .string bE] := by rw [← hW]; (intro j u hu; rcases j with _ | _ | _ | _ | _ | _ | _ | j <;> first | (cases hu; simp [go_sem]; done) | (exact absurd hu (by simp)))
  have a4 : At w1 (w.heap.size + 1 + 1 + 1 + 1) [.int .u8 4, .slice none 0 0, .string bA, .int .u8 1, .slice (some ⟨w.heap.size + 1 + 1 + 1, 0, none⟩) 1 1] := by rw [← hW]; (intro j u hu; rcases j with _ | _ | _ | _ | _ | _ | _ | j <;> first | (cases hu; simp [go_sem]; done) | (exact absurd hu (by simp)))
  have a5 : At w1 (w.heap.size + 1 + 1 + 1 + 1 + 1) [.int .u8 4, .slice none 0 0, .string bM, .int .u8 1, .slice (some ⟨w.heap.size + 1 + 1 + 1, 0, none⟩) 1 1] := by rw [← hW]; (intro j u hu; rcases j with _ | _ | _ | _ | _ | _ | _ | j <;> first | (cases hu; simp [go_sem]; done) | (exact absurd hu (by simp)))
  have hk1 : Keep w w1 := by rw [← hW]; exact (by repeat (first | exact Keep.refl _ | apply Keep.alloc | apply Keep.gro | apply Keep.drew | apply Keep.drewN))
  have hz : w1.heap.size = w.heap.size + 1 + 1 + 1 + 1 + 1 + 1 := by rw [← hW]; simp
  have hz5 : w.heap.size + 1 + 1 + 1 + 1 + 1 < w1.heap.size := by omega
  have HC := Lib.hid (sl_blk (k := 2) (enc := Col.cells) (xs := colsK) (fun _ => rfl) a0 (by simp))
  have HA := Lib.hid (sl_blk (k := 2) (enc := Ag.cells) (xs := [⟨1, bE⟩]) (fun _ => rfl) a2 (by simp))
  have HV := Lib.hid (sl_blk (k := 3) (enc := Val.cells) (xs := [vI 1]) (fun _ => rfl) a3 (by simp))
  have HN1 : Hid (Nd.In w1 w1.heap.size ⟨4, none, 0, [], bA, 1, some ⟨w.heap.size + 1 + 1 + 1, 0, none⟩, 1, [vI 1]⟩) := .mk _ (Sl.nil_ _ (Nat.zero_le _)) HV.out (fun _ _ _ h => absurd h (Nat.not_lt_zero _)) (sl_ne HV.out (fun _ => by simp [Val.cells]) (Nat.le_refl _)) (fun k hk => by cases hk)
  have HN2 : Hid (Nd.In w1 w1.heap.size ⟨4, none, 0, [], bM, 1, some ⟨w.heap.size + 1 + 1 + 1, 0, none⟩, 1, [vI 1]⟩) := .mk _ (Sl.nil_ _ (Nat.zero_le _)) HV.out (fun _ _ _ h => absurd h (Nat.not_lt_zero _)) (sl_ne HV.out (fun _ => by simp [Val.cells]) (Nat.le_refl _)) (fun k hk => by cases hk)
  have HNZ : Hid (∀ W, Nd.In W W.heap.size nz) := fun W => .mk _ (Sl.nil_ _ (Nat.zero_le _)) (Sl.nil_ _ (Nat.zero_le _)) (fun _ _ _ h => absurd h (Nat.not_lt_zero _)) (fun _ _ _ h => absurd h (Nat.not_lt_zero _)) (fun k hk => by cases hk)
  have HTZ : Hid (∀ W, Ts.In W W.heap.size tz) := fun W => .mk _ (Sl.nil_ _ (Nat.zero_le _)) (fun _ _ _ h => absurd h (Nat.not_lt_zero _)) (fun k hk => by cases hk)
  have HK1 := Lib.hid hk1
  have A1 := Lib.hid a1
  have A4 := Lib.hid a4
  have A5 := Lib.hid a5
  clear hW hk1 a0 a1 a2 a3 a4 a5 hz
  refine (valid_any ⟨4, none, 0, [], bA, 1, some ⟨w.heap.size + 1 + 1 + 1, 0, none⟩, 1, [vI 1]⟩ tz _ 1 [⟨1, bE⟩] none 0 none 0 (-1) _ 2 colsK w1 HC.out HA.out HN1.out (HTZ.out w1) (by omega) (by omega) (by simp)).mono ?_
  rw [vk1]
  rintro e w2 ⟨rfl, hk⟩
  obtain ⟨p2, rfl⟩ := gro_of_below _ hk
  clear hk
  have b0 := A5.out 0 _ rfl
  have b1 := A5.out 1 _ rfl
  have b2 := A5.out 2 _ rfl
  have b3 := A5.out 3 _ rfl
  have b4 := A5.out 4 _ rfl
  go_wp2_with (go_at_call 6; refine Zone.hold ?_)
  refine Zone.unhold ?_
  refine (valid_any ⟨4, none, 0, [], bM, 1, some ⟨w.heap.size + 1 + 1 + 1, 0, none⟩, 1, [vI 1]⟩ tz _ 1 [⟨1, bE⟩] none 0 none 0 0 _ 2 colsK _ (HC.out.keep (below_gro _ _)) (HA.out.keep (below_gro _ _)) ((HN2.out.keep (below_gro _ _)).fresh (Nat.le_refl _)) (HTZ.out _) (by omega) (by omega) (by simp)).mono ?_
  rw [vk2]
  rintro e w2 ⟨rfl, hk⟩
  obtain ⟨p3, rfl⟩ := gro_of_below _ hk
  clear hk b0 b1 b2 b3 b4
  go_wp2_with (go_at_call 6; refine Zone.hold ?_)
  refine Zone.unhold ?_
  generalize hW : World.alloc _ _ = w3
  have HK3 : Hid (Keep w1 w3) := by show Keep _ _; rw [← hW]; exact (by repeat (first | exact Keep.refl _ | apply Keep.alloc | apply Keep.gro | apply Keep.drew | apply Keep.drewN))
  have a3 : At w3 (w1.heap.size + p2.os.size + p3.os.size) [.int .u8 2, .string bA] := by rw [← hW]; (intro j u hu; rcases j with _ | _ | _ | _ | _ | _ | _ | j <;> first | (cases hu; simp [go_sem]; done) | (exact absurd hu (by simp)))
  have HA3 := Lib.hid (sl_blk (k := 2) (enc := Ag.cells) (xs := [⟨2, bA⟩]) (fun _ => rfl) a3 (by simp))
  clear hW a3
  refine (valid_any nz tz _ 1 [⟨2, bA⟩] none 0 none 0 0 _ 2 colsK _ (HC.out.keep HK3.out) HA3.out (HNZ.out _) (HTZ.out _) (by omega) (by omega) (by simp)).mono ?_
  rw [vk3]
  rintro e w2 ⟨rfl, hk⟩
  obtain ⟨p4, rfl⟩ := gro_of_below _ hk
  clear hk HA3
  go_wp2_with (go_at_call 6; refine Zone.hold ?_)
  refine Zone.unhold ?_
  refine (valid_any nz tz none 0 [] none 0 none 0 (-2) _ 2 colsK _ (HC.out.keep (HK3.out.trans (below_gro _ _))) (Sl.nil_ _ (Nat.zero_le _)) (HNZ.out _) (HTZ.out _) (by omega) (by omega) (by simp)).mono ?_
  rw [vk4]
  rintro e w2 ⟨rfl, hk⟩
  obtain ⟨p5, rfl⟩ := gro_of_below _ hk
  clear hk
  generalize hW : World.gro _ _ = w4
  have HK4 : Hid (Keep w1 w4) := by show Keep _ _; rw [← hW]; exact (HK3.out.trans (below_gro _ _)).trans (below_gro _ _)
  clear hW HK3
  have b0 := (A4.out.keep HK4.out) 0 _ rfl
  have b1 := (A4.out.keep HK4.out) 1 _ rfl
  have b2 := (A4.out.keep HK4.out) 2 _ rfl
  have b3 := (A4.out.keep HK4.out) 3 _ rfl
  have b4 := (A4.out.keep HK4.out) 4 _ rfl
  have c0 := (A1.out.keep HK4.out) 0 _ rfl
  have c1 := (A1.out.keep HK4.out) 1 _ rfl
  have c2 := (A1.out.keep HK4.out) 2 _ rfl
  have hz6 : w.heap.size + 1 + 1 + 1 + 1 + 1 < w4.heap.size := Nat.lt_of_lt_of_le hz5 HK4.out.size
  go_wp2_with (go_at_call 7; refine Zone.hold ?_)
  refine Zone.unhold ?_
  generalize hW : World.alloc _ _ = w5
  have HK5 : Hid (Keep w4 w5) := by show Keep _ _; rw [← hW]; exact (by repeat (first | exact Keep.refl _ | apply Keep.alloc | apply Keep.gro | apply Keep.drew | apply Keep.drewN))
  have a3 : At w5 w4.heap.size [.int .u8 1, .int .i64 1, .string bE, .int .u8 1, .int .i64 1, .string bE] := by rw [← hW]; (intro j u hu; rcases j with _ | _ | _ | _ | _ | _ | _ | j <;> first | (cases hu; simp [go_sem]; done) | (exact absurd hu (by simp)))
  have HR5 := Lib.hid (sl_blk (k := 3) (enc := Val.cells) (xs := [vI 1, vI 1]) (fun _ => rfl) a3 (by simp))
  clear hW a3 b0 b1 b2 b3 b4 c0 c1 c2
  refine (takes_any w1 w1.heap.size ⟨4, none, 0, [], bA, 1, some ⟨w.heap.size + 1 + 1 + 1, 0, none⟩, 1, [vI 1]⟩ HN1.out w5 (HK4.out.trans HK5.out) (HC.out.keep (HK4.out.trans HK5.out)) HR5.out).mono ?_
  rw [tk]
  rintro e w2 ⟨rfl, hk⟩
  have hk' := Keep.trans (HK1.out.trans (HK4.out.trans HK5.out)) hk
  clear hk
  go_wp2
  go_ret
  exact ⟨rfl, hk'⟩
end Go.Proofs.Ythigflnfccajoaa
