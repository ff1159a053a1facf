
/- The law's leaf; the document's comparison of flags. -/
import Derived.WalkKit
import Derived.Lib.Hide
import Derived.WalkSpells
import Derived.WalkLawsBesides
import Derived.BigQuiet
import Derived.Shelf.Abstract
import Derived.Test.YthigflnfccajoaaIrest2
namespace Go.Proofs.Ythigflnfccajoaa
open Go.RowKit Go.Zone Go.Shelf
attribute [local go_sem] Zone.zone Zone.stepZ Zone.fill Zone.lookFs Zone.goes Zone.goesUpon Zone.dropFs Zone.cell_gro Zone.frozen_gro Zone.size_gro Zone.lt_add Zone.drew_gro Zone.tape_gro Zone.keep_refl
attribute [local go_sem] Zone.lt_add2 Zone.lt_add3 Zone.lt_add4 Zone.lt_add5 Zone.lt_add6 Zone.lt_add7 Zone.lt_add8 Zone.lt_add9 Zone.lt_add10 Zone.lt_add11 Zone.lt_add12
attribute [local go_sem] Zone.calm_normal
def vN (n : Int) : Val := ⟨1, n, ⟨#[]⟩⟩
/-- A leaf of a number, its value in block g. -/
def lfN (g : Nat) (col : ByteArray) (cmp n : Int) : Nd := ⟨4, none, 0, [], col, cmp, some ⟨g, 0, none⟩, 1, [vN n]⟩
theorem lfN_v (g : Nat) (col : ByteArray) (cmp n : Int) : (lfN g col cmp n).v = .agg #[.int .u8 4, .slice none 0 0, .string col, .int .u8 cmp, .slice (some ⟨g, 0, none⟩) 1 1] := rfl
theorem lfN_in {w : World} {g : Nat} {col : ByteArray} {cmp n : Int} (h : Sl w 3 Val.cells (some ⟨g, 0, none⟩) 1 [vN n]) : Nd.In w w.heap.size (lfN g col cmp n) := by
  refine .mk _ (Sl.nil_ _ (Nat.zero_le _)) h (fun _ _ _ h => absurd h (Nat.not_lt_zero _)) (fun g' off e _ => ?_) (fun _ h => by cases h)
  obtain ⟨b, o, e2, hc⟩ := h.at_ 0 (by simp)
  have := World.block_lt_of_cell? _ _ (hc 0 _ rfl)
  simp only [lfN, Option.some.injEq, Addr.mk.injEq] at e e2
  simp only at this
  omega
theorem lf_any (col : ByteArray) (cmp n : Int) (w : World) :
    Calls Try.prog 12 #[.string col, .int .u8 cmp, .int .i64 n] w fun e w' => ∃ g, e = .returned (lfN g col cmp n).v ∧ Sl w' 3 Val.cells (some ⟨g, 0, none⟩) 1 [vN n] ∧ Keep w w' := by
  go_enter Try.func12, Try.ntmps12
  go_wp2
  exact bodyPost_ret (v := (lfN (w.heap.size + 1) col cmp n).v) (by simp [results, Try.results12, go_sem, lfN]) rfl ⟨w.heap.size + 1, rfl, sl_one (by simp [go_sem, vN]) (by simp [go_sem, vN]) (by simp [go_sem, vN]), (by repeat (first | exact Keep.refl _ | apply Keep.alloc | apply Keep.gro | apply Keep.drew | apply Keep.drewN))⟩
set_option maxHeartbeats 1000000 in
theorem flagsEq_any (A B : Option Addr) (c d : Nat) (xs ys : List Bool) (w : World) (hx : Sl w 1 boolV A c xs) (hy : Sl w 1 boolV B d ys) :
    Calls Try.prog 46 #[.slice A xs.length c, .slice B ys.length d] w fun e w' => e = .returned (.bool (decide (xs = ys))) ∧ Keep w w' := by
  have hlx := sl_len hx
  have hly := sl_len hy
  by_cases hl : xs.length = ys.length
  · rw [← hl]
    have HX := Lib.hid hx
    have HY := Lib.hid hy
    have HL := Lib.hid hl
    clear hx hy hl hly
    go_enter Try.func46, Try.ntmps46
    go_wp2
    go_loopw [5] (fun i wr => ∃ k : Nat, k ≤ xs.length ∧ i = .int .i64 k ∧ Hid (Keep w wr) ∧ Hid (xs.take k = ys.take k)) (fun i _ => xs.length - (intOf i).toNat)
    case atStart => exact ⟨0, Nat.zero_le _, rfl, Keep.refl _, rfl⟩
    case round =>
      obtain ⟨k, hk, rfl, HK, HE⟩ := hrel
      by_cases hlt : k < xs.length
      · have hlt2 : k < ys.length := by have := HL.out; omega
        obtain ⟨bx, ox, rfl, hcx⟩ := (HX.out.keep HK.out).at_ k hlt
        obtain ⟨by_, oy, rfl, hcy⟩ := (HY.out.keep HK.out).at_ k hlt2
        have x0 := hcx 0 _ rfl
        have y0 := hcy 0 _ rfl
        have bx0 := World.block_lt_of_cell? _ _ x0
        have by0 := World.block_lt_of_cell? _ _ y0
        simp only [Nat.mul_one, Nat.add_zero] at x0 y0 bx0 by0
        have hs : xs.take (k + 1) = xs.take k ++ [xs[k]] := List.take_succ_eq_append_getElem hlt
        have hs2 : ys.take (k + 1) = ys.take k ++ [ys[k]] := List.take_succ_eq_append_getElem hlt2
        have HS := Lib.hid hs
        have HS2 := Lib.hid hs2
        have HN := Lib.hid (show xs = ys → xs[k] = ys[k] from fun e => by subst e; rfl)
        clear hs hs2 hcx hcy
        generalize xs[k] = u at x0 HS HN
        generalize ys[k] = v at y0 HS2 HN
        by_cases huv : u = v
        · subst huv
          go_wp2
          first | refine Zone.wp_region_all_gro (by kernel_rfl) (by kernel_rfl) ?_ | refine Zone.wp_region_all (by kernel_rfl) (by kernel_rfl) ?_
          repeat
            refine Zone.wpZ_step (fun K hK => ?_)
            go_simp
            first
            | (refine hK _ _ ?_; clear hK K)
            | (apply Exists.intro
               refine ⟨fun p => ?_, hK _ _ ?_⟩
               (fail)
               clear hK K)
          refine Zone.wpZ_nil ?_
          intro p
          simp only [Zone.fill]
          go_wp2
          go_roundw
          case rel => exact ⟨k + 1, by omega, by go_num, HK.out.trans (by repeat (first | exact Keep.refl _ | apply Keep.alloc | apply Keep.gro | apply Keep.drew | apply Keep.drewN)), by show xs.take (k + 1) = _; rw [HS.out, HS2.out, HE.out]⟩
          case measure => simp [intOf]; omega
        · have hb : (u == v) = false := by simpa using huv
          have HU := Lib.hid huv
          clear huv
          go_wp2
          first | refine Zone.wp_region_all_gro (by kernel_rfl) (by kernel_rfl) ?_ | refine Zone.wp_region_all (by kernel_rfl) (by kernel_rfl) ?_
          repeat
            refine Zone.wpZ_step (fun K hK => ?_)
            go_simp
            first
            | (refine hK _ _ ?_; clear hK K)
            | (apply Exists.intro
               refine ⟨fun p => ?_, hK _ _ ?_⟩
               (fail)
               clear hK K)
          refine Zone.wpZ_nil ?_
          intro p
          simp only [Zone.fill]
          go_wp2
          go_ret
          exact ⟨ret_bool (by rw [eq_comm, decide_eq_false_iff_not]; exact fun e => HU.out (HN.out e)), HK.out.trans (by repeat (first | exact Keep.refl _ | apply Keep.alloc | apply Keep.gro | apply Keep.drew | apply Keep.drewN))⟩
      · have : k = xs.length := by omega
        subst this
        have he : xs = ys := by have := HE.out; rwa [List.take_length, HL.out, List.take_length] at this
        have HE2 := Lib.hid he
        clear he
        go_wp2
        go_ret
        exact ⟨ret_bool (by simp [HE2.out]), HK.out⟩
  · have HU := Lib.hid hl
    have hne : ((xs.length : Int) == (ys.length : Int)) = false := by simp; omega
    clear hx hy
    go_enter Try.func46, Try.ntmps46
    go_wp2
    go_ret
    exact ⟨ret_bool (by rw [eq_comm, decide_eq_false_iff_not]; exact fun e => HU.out (by rw [e])), Keep.refl _⟩
end Go.Proofs.Ythigflnfccajoaa
