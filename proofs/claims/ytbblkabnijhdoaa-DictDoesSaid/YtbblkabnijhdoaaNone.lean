
/- The walk of DictNone. -/
import Derived.WalkKit
import Derived.Lib.Hide
import Derived.WalkSpells
import Derived.WalkLawsBesides
import Derived.BigQuiet
import Derived.Shelf.Abstract
import Derived.LoopN
import Derived.Test.YtbblkabnijhdoaaAll
import Derived.Test.YtbblkabnijhdoaaKnown
import Derived.Test.YtbblkabnijhdoaaZoneF
import Derived.Test.YtbblkabnijhdoaaBytesV
namespace Go.Proofs.Ytbblkabnijhdoaa
open Go.RowKit Go.Zone Go.Shelf
attribute [local go_sem] Zone.zone Zone.stepZ Zone.fill Zone.lookFs Zone.goes Zone.goesUpon Zone.dropFs Zone.cell_gro Zone.frozen_gro Zone.size_gro Zone.lt_add Zone.drew_gro Zone.tape_gro Zone.keep_refl
attribute [local go_sem] Zone.lt_add2 Zone.lt_add3 Zone.lt_add4 Zone.lt_add5 Zone.lt_add6 Zone.lt_add7 Zone.lt_add8 Zone.lt_add9 Zone.lt_add10 Zone.lt_add11 Zone.lt_add12
attribute [local go_sem high] run_eq_val run_ne_val run_eqG_val
theorem run_eq_nilfn (f : Fn) (a b : Array Value) (w : World) : Sem.run Try.prog (binOp .eql 45 (.func f a b) .nilFunc) w = .ok (.bool false) w := by kernel_rfl
theorem eqC_zero : eqC zeroVal.k zeroVal.n 0 0 zeroVal.s { data := #[] } = true := by simp [eqC, zeroVal]
attribute [local go_sem high] run_eq_nilfn eqC_zero
/-- No dictionary, or one that was not made. -/
def NoDict (w : World) (p : Option Addr) : Prop := p = none ∨ ∃ b, p = some ⟨b, 0, none⟩ ∧ DictAt w b 0 none 0 []
section
variable {w : World} {p : Option Addr}
theorem NoDict.keep {w' : World} (h : NoDict w p) (hk : Keep w w') : NoDict w' p := by
  rcases h with h | ⟨b, h, k⟩
  · exact .inl h
  · exact .inr ⟨b, h, k.keep hk⟩
theorem noD {B : Nat} (hc : w.cell? ⟨B, 0, none⟩ = some (.pointer p)) (h : NoDict w p) : w.cell? ⟨B, 0, none⟩ = some (.pointer none) ∨ ∃ b A c ys, w.cell? ⟨B, 0, none⟩ = some (.pointer (some ⟨b, 0, none⟩)) ∧ DictAt w b 0 A c ys := by
  rcases h with rfl | ⟨b, rfl, k⟩
  · exact .inl hc
  · exact .inr ⟨b, none, 0, [], hc, k⟩
theorem value_no (id : Int) (h : NoDict w p) : Calls Try.prog 22 #[.pointer p, .int .i64 id] w fun e w' => e = .returned (.tuple #[zeroVal.v, .int .i64 1]) ∧ Keep w w' := by
  rcases h with rfl | ⟨b, rfl, k⟩
  · exact value_nil id w
  · exact value_zero id w k
theorem find_no (v : Val) (h : NoDict w p) : Calls Try.prog 15 #[.pointer p, v.v] w fun e w' => e = .returned (.tuple #[.int .i64 0, .bool false]) ∧ Keep w w' := by
  rcases h with rfl | ⟨b, rfl, k⟩
  · exact find_nil v w
  · have := find_at v w k (by simp)
    simpa [findV] using this
theorem interval_no (cmp : Int) (v : Val) (h : NoDict w p) : Calls Try.prog 13 #[.pointer p, .int .u8 cmp, v.v] w fun e w' => e = .returned (.tuple #[.int .i64 0, .int .i64 0, .int .i64 1]) ∧ Keep w w' := by
  rcases h with rfl | ⟨b, rfl, k⟩
  · exact interval_nil cmp v w
  · have := interval_at cmp v w k (by simp)
    simpa [dIval] using this
theorem len_no (h : NoDict w p) : Calls Try.prog 16 #[.pointer p] w fun e w' => e = .returned (.int .i64 0) ∧ w = w' := by
  rcases h with rfl | ⟨b, rfl, k⟩
  · exact len_nil w
  · have := len_at w k
    simpa using this
theorem kind_no (h : NoDict w p) : Calls Try.prog 23 #[.pointer p] w fun e w' => e = .returned (.int .u8 0) ∧ w = w' := by
  rcases h with rfl | ⟨b, rfl, k⟩
  · exact kind_nil w
  · exact kind_at w k
theorem bytes_no (h : NoDict w p) : Calls Try.prog 17 #[.pointer p] w fun e w' => e = .returned (.slice none 0 0) ∧ w = w' := by
  rcases h with rfl | ⟨b, rfl, k⟩
  · exact bytes_nil w
  · exact bytes_zero w k
end
set_option maxRecDepth 100000 in
set_option maxHeartbeats 4000000 in
theorem none_any (id cmp : Int) (v : Val) (w : World) : Calls Try.prog 7 #[.int .i64 id, .int .u8 cmp, v.v] w fun e w' => e = .returned (.bool true) ∧ Keep w w' := by
  have KN := Lib.hid (fun W => known_any W)
  obtain ⟨vk, vn, vs⟩ := v
  by_cases hlong : 1000 < (vs.size : Int)
  · refine Zone.calls_of_marks Try.func7 rfl ?_
    simp only [Try.ntmps7, List.size_toArray, List.length_cons, List.length_nil, Nat.reduceAdd, Nat.reduceSub, Array.replicate_succ, Array.replicate_zero, List.push_toArray, List.append_toArray, List.nil_append, List.cons_append]
    go_wp2_with (go_at_call 10; refine (KN.out _).mono ?_; rintro e w' ⟨rfl, hk⟩; (first | obtain ⟨p, rfl⟩ := Zone.gro_of_gro _ _ hk | obtain ⟨p, rfl⟩ := Zone.gro_of_below _ hk); clear hk)
    refine postM_of_body (v := .bool true) (.inl rfl) rfl ?_ ⟨rfl, ?_⟩
    · simp [results, Try.results7, go_sem]
    · exact Keep.setCell (by repeat (first | exact Keep.refl _ | apply Keep.alloc | apply Keep.gro | apply Keep.drew | apply Keep.drewN)) (by simp) _
  · refine Zone.calls_of_marks Try.func7 rfl ?_
    simp only [Try.ntmps7, List.size_toArray, List.length_cons, List.length_nil, Nat.reduceAdd, Nat.reduceSub, Array.replicate_succ, Array.replicate_zero, List.push_toArray, List.append_toArray, List.nil_append, List.cons_append]
    go_wp2
    refine wp_loop_rounds 3 ?_
    obtain ⟨w5, hw5⟩ : ∃ w5, ((((w.alloc (Obj.cells #[.int .u8 vk, .int .i64 vn, .string vs] 24)).alloc (Obj.cells #[.bool false] 4)).alloc (Obj.cells #[.int .u8 0, .slice none 0 0] 53)).alloc (Obj.cells #[.pointer none, .pointer (some ⟨w.heap.size + 1 + 1, 0, none⟩)] 27)) = w5 := ⟨_, rfl⟩
    have hk5 : Keep w w5 := by rw [← hw5]; exact (by repeat (first | exact Keep.refl _ | apply Keep.alloc | apply Keep.gro | apply Keep.drew | apply Keep.drewN))
    have a0 : w5.cell? ⟨w.heap.size, 0, none⟩ = some (.int .u8 vk) := by rw [← hw5]; simp [go_sem]
    have a1 : w5.cell? ⟨w.heap.size, 1, none⟩ = some (.int .i64 vn) := by rw [← hw5]; simp [go_sem]
    have a2 : w5.cell? ⟨w.heap.size, 2, none⟩ = some (.string vs) := by rw [← hw5]; simp [go_sem]
    have r0 : w5.cell? ⟨w.heap.size + 1, 0, none⟩ = some (.bool false) := by rw [← hw5]; simp [go_sem]
    have rf : w5.frozen? ⟨w.heap.size + 1, 0, none⟩ = false := by rw [← hw5]; simp [go_sem]
    have p0 : w5.cell? ⟨w.heap.size + 1 + 1 + 1, 0, none⟩ = some (.pointer none) := by rw [← hw5]; simp [go_sem]
    have p1 : w5.cell? ⟨w.heap.size + 1 + 1 + 1, 1, none⟩ = some (.pointer (some ⟨w.heap.size + 1 + 1, 0, none⟩)) := by rw [← hw5]; simp [go_sem]
    have hz : w5.heap.size = w.heap.size + 1 + 1 + 1 + 1 := by rw [← hw5]; simp
    have hz0 : w.heap.size < w5.heap.size := by omega
    have hz1 : w.heap.size + 1 < w5.heap.size := by omega
    have hz3 : w.heap.size + 1 + 1 + 1 < w5.heap.size := by omega
    have HZ := Lib.hid (show w.heap.size + 1 + 1 < w5.heap.size by omega)
    have HN1 := Lib.hid (show NoDict w5 (some ⟨w.heap.size + 1 + 1, 0, none⟩) from .inr ⟨_, rfl, by rw [← hw5]; simp [go_sem], by rw [← hw5]; simp [go_sem], Sl.nil_ _ (by omega)⟩)
    have HN0 := Lib.hid (show NoDict w5 none from .inl rfl)
    have HK5 := Lib.hid hk5
    rw [hw5]
    clear hw5 hz hk5
    rw [rounds_succ]
    go_wp2_with (first | (go_at_call 22; refine (value_no _ (HN0.out.keep (by repeat (first | exact Keep.refl _ | apply Keep.alloc | apply Keep.gro | apply Keep.drew | apply Keep.drewN)))).mono ?_; rintro e w' ⟨rfl, hk⟩; (first | obtain ⟨p, rfl⟩ := Zone.gro_of_gro _ _ hk | obtain ⟨p, rfl⟩ := Zone.gro_of_below _ hk); clear hk) | (go_at_call 15; refine (find_no ⟨vk, vn, vs⟩ (HN0.out.keep (by repeat (first | exact Keep.refl _ | apply Keep.alloc | apply Keep.gro | apply Keep.drew | apply Keep.drewN)))).mono ?_; rintro e w' ⟨rfl, hk⟩; (first | obtain ⟨p, rfl⟩ := Zone.gro_of_gro _ _ hk | obtain ⟨p, rfl⟩ := Zone.gro_of_below _ hk); clear hk) | (go_at_call 13; refine (interval_no cmp ⟨vk, vn, vs⟩ (HN0.out.keep (by repeat (first | exact Keep.refl _ | apply Keep.alloc | apply Keep.gro | apply Keep.drew | apply Keep.drewN)))).mono ?_; rintro e w' ⟨rfl, hk⟩; (first | obtain ⟨p, rfl⟩ := Zone.gro_of_gro _ _ hk | obtain ⟨p, rfl⟩ := Zone.gro_of_below _ hk); clear hk) | (go_at_call 18; refine (all_any _ _).mono ?_; rintro e w' ⟨rfl, rfl⟩))
    refine Zone.wp_range_nil rfl (enters_of Try.func40 (by kernel_rfl) rfl) (all_none _) (fun _ => rfl) (fun W hk => noD ((hk.cell (by simp [size_gro])).trans (by simp [go_sem])) (HN0.out.keep (Keep.trans (by repeat (first | exact Keep.refl _ | apply Keep.alloc | apply Keep.gro | apply Keep.drew | apply Keep.drewN)) hk))) ?_
    intro E1 q1 hE1 HE1
    go_wp2_with (first | (go_at_call 16; refine (len_no (HN0.out.keep (by repeat (first | exact Keep.refl _ | apply Keep.alloc | apply Keep.gro | apply Keep.drew | apply Keep.drewN)))).mono ?_; rintro e w' ⟨rfl, rfl⟩) | (go_at_call 23; refine (kind_no (HN0.out.keep (by repeat (first | exact Keep.refl _ | apply Keep.alloc | apply Keep.gro | apply Keep.drew | apply Keep.drewN)))).mono ?_; rintro e w' ⟨rfl, rfl⟩) | (go_at_call 17; refine (bytes_no (HN0.out.keep (by repeat (first | exact Keep.refl _ | apply Keep.alloc | apply Keep.gro | apply Keep.drew | apply Keep.drewN)))).mono ?_; rintro e w' ⟨rfl, rfl⟩))
    generalize hW : World.gro _ _ = w7 at HE1 ⊢
    have hk7 : Keep w5 w7 := by rw [← hW]; exact (by repeat (first | exact Keep.refl _ | apply Keep.alloc | apply Keep.gro | apply Keep.drew | apply Keep.drewN))
    have hE1' : w5.heap.size ≤ E1 := by simp [size_gro] at hE1; omega
    have b0 := (hk7.cell (p := ⟨w.heap.size, 0, none⟩) hz0).trans a0
    have b1 := (hk7.cell (p := ⟨w.heap.size, 1, none⟩) hz0).trans a1
    have b2 := (hk7.cell (p := ⟨w.heap.size, 2, none⟩) hz0).trans a2
    have s0 := (hk7.cell (p := ⟨w.heap.size + 1, 0, none⟩) hz1).trans r0
    have sf := (hk7.frozen (p := ⟨w.heap.size + 1, 0, none⟩) hz1).trans rf
    have q0 := (hk7.cell (p := ⟨w.heap.size + 1 + 1 + 1, 0, none⟩) hz3).trans p0
    have q1 := (hk7.cell (p := ⟨w.heap.size + 1 + 1 + 1, 1, none⟩) hz3).trans p1
    have hy0 : w.heap.size < w7.heap.size := Nat.lt_of_lt_of_le hz0 hk7.size
    have hy1 : w.heap.size + 1 < w7.heap.size := Nat.lt_of_lt_of_le hz1 hk7.size
    have hy3 : w.heap.size + 1 + 1 + 1 < w7.heap.size := Nat.lt_of_lt_of_le hz3 hk7.size
    have HN7 := Lib.hid (HN1.out.keep hk7)
    have HK7 := Lib.hid (HK5.out.trans hk7)
    clear hW hk7 hE1 a0 a1 a2 r0 rf p0 p1 hz0 hz1 hz3
    rw [rounds_succ]
    go_wp2_with (first | (go_at_call 22; refine (value_no _ (HN7.out.keep (by repeat (first | exact Keep.refl _ | apply Keep.alloc | apply Keep.gro | apply Keep.drew | apply Keep.drewN)))).mono ?_; rintro e w' ⟨rfl, hk⟩; (first | obtain ⟨p, rfl⟩ := Zone.gro_of_gro _ _ hk | obtain ⟨p, rfl⟩ := Zone.gro_of_below _ hk); clear hk) | (go_at_call 15; refine (find_no ⟨vk, vn, vs⟩ (HN7.out.keep (by repeat (first | exact Keep.refl _ | apply Keep.alloc | apply Keep.gro | apply Keep.drew | apply Keep.drewN)))).mono ?_; rintro e w' ⟨rfl, hk⟩; (first | obtain ⟨p, rfl⟩ := Zone.gro_of_gro _ _ hk | obtain ⟨p, rfl⟩ := Zone.gro_of_below _ hk); clear hk) | (go_at_call 13; refine (interval_no cmp ⟨vk, vn, vs⟩ (HN7.out.keep (by repeat (first | exact Keep.refl _ | apply Keep.alloc | apply Keep.gro | apply Keep.drew | apply Keep.drewN)))).mono ?_; rintro e w' ⟨rfl, hk⟩; (first | obtain ⟨p, rfl⟩ := Zone.gro_of_gro _ _ hk | obtain ⟨p, rfl⟩ := Zone.gro_of_below _ hk); clear hk) | (go_at_call 18; refine (all_any _ _).mono ?_; rintro e w' ⟨rfl, rfl⟩))
    refine Zone.wp_range_nil rfl (enters_of Try.func40 (by kernel_rfl) rfl) (all_none _) (fun _ => rfl) (fun W hk => noD ((hk.cell (by simp [size_gro])).trans (by simp [go_sem])) (HN7.out.keep (Keep.trans (by repeat (first | exact Keep.refl _ | apply Keep.alloc | apply Keep.gro | apply Keep.drew | apply Keep.drewN)) hk))) ?_
    intro E2 q2 hE2 HE2
    go_wp2_with (first | (go_at_call 16; refine (len_no (HN7.out.keep (by repeat (first | exact Keep.refl _ | apply Keep.alloc | apply Keep.gro | apply Keep.drew | apply Keep.drewN)))).mono ?_; rintro e w' ⟨rfl, rfl⟩) | (go_at_call 23; refine (kind_no (HN7.out.keep (by repeat (first | exact Keep.refl _ | apply Keep.alloc | apply Keep.gro | apply Keep.drew | apply Keep.drewN)))).mono ?_; rintro e w' ⟨rfl, rfl⟩) | (go_at_call 17; refine (bytes_no (HN7.out.keep (by repeat (first | exact Keep.refl _ | apply Keep.alloc | apply Keep.gro | apply Keep.drew | apply Keep.drewN)))).mono ?_; rintro e w' ⟨rfl, rfl⟩))
    generalize hW : World.gro _ _ = w8 at HE2 ⊢
    have hk8 : Keep w7 w8 := by rw [← hW]; exact (by repeat (first | exact Keep.refl _ | apply Keep.alloc | apply Keep.gro | apply Keep.drew | apply Keep.drewN))
    have hE2' : w7.heap.size ≤ E2 := by simp [size_gro] at hE2; omega
    have t0 := (hk8.cell (p := ⟨w.heap.size + 1, 0, none⟩) hy1).trans s0
    have tf := (hk8.frozen (p := ⟨w.heap.size + 1, 0, none⟩) hy1).trans sf
    have hx1 : w.heap.size + 1 < w8.heap.size := Nat.lt_of_lt_of_le hy1 hk8.size
    have HK8 := Lib.hid (HK7.out.trans hk8)
    have HE1' := Lib.hid (heap_keep hk8 HE1.out)
    have HH := Lib.hid (heap_lt HE1.out)
    have HK57 := Lib.hid (HK5.out.size)
    clear hW hk8 hE2 b0 b1 b2 s0 sf q0 q1 hy0 hy1 hy3
    rw [rounds_succ]
    go_wp2_with (go_at_call 10; refine (KN.out _).mono ?_; rintro e w' ⟨rfl, hk⟩; (first | obtain ⟨p, rfl⟩ := Zone.gro_of_gro _ _ hk | obtain ⟨p, rfl⟩ := Zone.gro_of_below _ hk); clear hk)
    have hne1 : w.heap.size + 1 ≠ E1 := by have := HZ.out; omega
    have hne2 : w.heap.size + 1 ≠ E2 := by have := HZ.out; have := HH.out; omega
    have hne : E2 ≠ E1 := by have := HH.out; omega
    have hkp := below_gro w8 p
    have g2 : (((w8.gro p).setCell ⟨w.heap.size + 1, 0, none⟩ (.bool true)).heap[E2]? = some (.deferred (some []))) := (heap_set_ne hne2).trans (heap_keep hkp HE2.out)
    have g1 : (((w8.gro p).setCell ⟨w.heap.size + 1, 0, none⟩ (.bool true)).heap[E1]? = some (.deferred (some []))) := (heap_set_ne hne1).trans (heap_keep hkp HE1'.out)
    have g1' := (World.putObj_heap_other (o := .deferred none) (Ne.symm hne)).trans g1
    have gc : ((w8.gro p).setCell ⟨w.heap.size + 1, 0, none⟩ (.bool true)).cell? ⟨w.heap.size + 1, 0, none⟩ = some (.bool true) := World.cell?_setCell_same _ _ _ ((hkp.cell (p := ⟨w.heap.size + 1, 0, none⟩) hx1).trans t0)
    have gc2 := cell_put (o' := .deferred none) (cell_put (o' := .deferred none) gc g2 rfl) g1' rfl
    refine postM_mark (.inl rfl) rfl g2 (postM_mark (.inl rfl) rfl g1' (postM_of_body (v := .bool true) (.inl rfl) rfl ?_ ⟨rfl, ?_⟩))
    · simp [results, Try.results7, go_sem, gc2]
    · exact keep_put _ (keep_put _ ((HK8.out.gro p).setCell (by simp) _) (by have := HH.out; have := HK7.out.size; omega)) (by have := HK57.out; omega)
end Go.Proofs.Ytbblkabnijhdoaa
