
/- forward: none, Len, Get, All, Read. -/
import Derived.WalkKit
import Derived.Lib.Hide
import Derived.WalkSpells
import Derived.WalkLawsBesides
import Derived.BigQuiet
import Derived.Shelf.Abstract
import Derived.TacticsInMore
import Derived.LoopNIn
import Derived.LoopIn
import Derived.Test.YtmcaednlilhnoaaGreatDoorJb
import Derived.Test.YtmcaednlilhnoaaGreatDoorFg
import Derived.Test.YtmcaednlilhnoaaGreatDoorRa
namespace Go.Proofs.YtmcaednlilhnoaaGreatDoor
open Go.RowKit Go.Zone Go.Shelf
attribute [local go_sem] Zone.zone Zone.stepZ Zone.fill Zone.lookFs Zone.goes Zone.goesUpon Zone.dropFs Zone.cell_gro Zone.frozen_gro Zone.size_gro Zone.lt_add Zone.drew_gro Zone.tape_gro Zone.keep_refl
attribute [local go_sem] Zone.lt_add2 Zone.lt_add3 Zone.lt_add4 Zone.lt_add5 Zone.lt_add6 Zone.lt_add7 Zone.lt_add8 Zone.lt_add9 Zone.lt_add10 Zone.lt_add11 Zone.lt_add12
attribute [local go_sem] Oper.semAt_some Zone.wide_fn Zone.wide_depth Zone.wide_round Fence.inRound_fn Fence.inRound_depth Fence.inRound_round
section
variable {w : World} {b n many wd c : Nat} {A : Option Addr} {bs : List UInt8}
theorem fnone_at (h : IdxAt w b n many wd A c bs) (hw : 1 ≤ wd) : Calls Tryz.prog 30 #[.pointer (some ⟨b, 0, none⟩)] w fun e w' => e = .returned (.bool false) ∧ w = w' := by
  have h2 := h.w_
  have hz : ((wd : Int) == 0) = false := by simp; omega
  clear h
  go_enter Tryz.func30, Tryz.ntmps30
  go_wp2
  go_ret
  exact ⟨rfl, rfl⟩
theorem flen_at (h : IdxAt w b n many wd A c bs) (hw : 1 ≤ wd) : Calls Tryz.prog 167 #[.pointer (some ⟨b, 0, none⟩)] w fun e w' => e = .returned (.int .i64 n) ∧ w = w' := by
  have HN := Lib.hid (fnone_at h hw)
  have h0 := h.r
  clear h
  go_enter Tryz.func167, Tryz.ntmps167
  go_wp2_with (go_at_call 30; refine (HN.out).mono ?_; rintro e w' ⟨rfl, rfl⟩)
  go_ret
  exact ⟨rfl, rfl⟩
theorem fget_at (i N : Nat) (h : IdxAt w b n many wd A c bs) (hw : 1 ≤ wd) (hw2 : wd ≤ 62) (hn : n ≤ 1000000) (hi : i < n) (hf : n * wd ≤ 8 * bs.length) (hb : bs = le N bs.length) :
    Calls Tryz.prog 19 #[.pointer (some ⟨b, 0, none⟩), .int .i64 i] w fun e w' => e = .returned (.tuple #[.int .i64 (N / 2 ^ (i * wd) % 2 ^ wd : Nat), .int .i64 0]) ∧ Keep w w' := by
  have HN := Lib.hid (fun W (hk : Keep w W) => fnone_at (h.keep hk) hw)
  have hm : i * wd + wd ≤ n * wd := by rw [← Nat.succ_mul]; exact Nat.mul_le_mul_right _ hi
  have HG := Lib.hid (fun W (hk : Keep w W) => pget_any A c i wd N bs W (h.sl.keep hk) hw (by omega) (by omega) (by omega) hb)
  have h0 := h.r
  have h2 := h.w_
  have h3 := h.b_
  have hb9 := block_lt_of_cell h0
  have hlt : N / 2 ^ (i * wd) % 2 ^ wd < 4611686018427387904 := Nat.lt_of_lt_of_le (Nat.mod_lt _ (Nat.two_pow_pos _)) (Nat.pow_le_pow_right (by decide : 0 < 2) hw2)
  clear h hm hf hb
  generalize N / 2 ^ (i * wd) % 2 ^ wd = x at HG hlt ⊢
  have hwr : IntKind.i64.wrap (x : Int) = (x : Int) := IntWalk.i64_in _ ⟨by omega, by omega⟩
  go_enter Tryz.func19, Tryz.ntmps19
  go_wp2_with (go_at_call 30; refine (HN.out _ (by repeat (first | exact Keep.refl _ | apply Keep.alloc | apply Keep.gro | apply Keep.drew | apply Keep.drewN))).mono ?_; rintro e w' ⟨rfl, rfl⟩)
  first | refine Zone.wp_region_all_gro (by kernel_rfl) (by kernel_rfl) ?_ | refine Zone.wp_region_all (by kernel_rfl) (by kernel_rfl) ?_
  repeat
    refine Zone.wpZ_step (fun K hK => ?_)
    go_simp
    first
    | (refine hK _ _ ?_; clear hK K)
    | (apply Exists.intro
       refine ⟨fun p => ?_, hK _ _ ?_⟩
       ((go_at_call 31; exact Zone.zc (HG.out _ (by repeat (first | exact Keep.refl _ | apply Keep.alloc | apply Keep.gro | apply Keep.drew | apply Keep.drewN)))))
       clear hK K)
  refine Zone.wpZ_nil ?_
  intro p
  simp only [Zone.fill]
  go_wp2
  go_ret2
  exact ⟨rfl, (by repeat (first | exact Keep.refl _ | apply Keep.alloc | apply Keep.gro | apply Keep.drew | apply Keep.drewN))⟩
theorem fget_ids {ids : List Nat} (i : Nat) (h : IdxAt w b ids.length many wd A c (packB ids wd)) (hw : 1 ≤ wd) (hw2 : wd ≤ 62) (hn : ids.length ≤ 1000000) (hl : ∀ x ∈ ids, x < 2 ^ wd) (hi : i < ids.length) :
    Calls Tryz.prog 19 #[.pointer (some ⟨b, 0, none⟩), .int .i64 i] w fun e w' => e = .returned (.tuple #[.int .i64 (ids[i] : Nat), .int .i64 0]) ∧ Keep w w' := by
  have := fget_at i (numL wd ids) h hw hw2 hn hi (by simp only [packB, le_len]; omega) (by simp only [packB, le_len])
  rwa [numL_get ids i hi hl] at this
end
theorem fall_any (p : Option Addr) (w : World) : Calls Tryz.prog 100 #[.pointer p] w fun e w' => e = .returned (.func (.func 166) #[] #[.pointer (some ⟨w.heap.size, 0, none⟩)]) ∧ w' = w.alloc (.cells #[.pointer p] 43) := by
  go_enter Tryz.func100, Tryz.ntmps100
  go_wp2
  go_ret
  exact ⟨rfl, rfl⟩
def encII (x : Nat × Nat) : Array Value := #[.int .i64 x.1, .int .i64 x.2]
def pairsN (ids : List Nat) : List (Nat × Nat) := (List.range ids.length).map fun i => (i, ids.getD i 0)
theorem pairs_len (ids : List Nat) : (pairsN ids).length = ids.length := by simp [pairsN]
theorem pairs_get (ids : List Nat) (i : Nat) (h : i < ids.length) : (pairsN ids)[i]? = some (i, ids[i]) := by simp [pairsN, h]
theorem pairs_at {ids : List Nat} {pre : List (Nat × Nat)} {x : Nat × Nat} {suf : List (Nat × Nat)} (h : pairsN ids = pre ++ x :: suf) : ∃ hi : pre.length < ids.length, x = (pre.length, ids[pre.length]) := by
  have hl := congrArg List.length h
  rw [pairs_len] at hl
  simp at hl
  have hi : pre.length < ids.length := by omega
  have h1 := pairs_get ids pre.length hi
  rw [h] at h1
  simp at h1
  exact ⟨hi, h1⟩
theorem pairs_split {ids : List Nat} (i : Nat) (hi : i < ids.length) : ∃ suf, pairsN ids = (pairsN ids).take i ++ (i, ids[i]) :: suf := by
  have h1 := pairs_get ids i hi
  have hl : i < (pairsN ids).length := by rw [pairs_len]; exact hi
  refine ⟨(pairsN ids).drop (i + 1), ?_⟩
  have h2 : (pairsN ids)[i] = (i, ids[i]) := by rw [List.getElem?_eq_getElem hl] at h1; exact Option.some.inj h1
  rw [← h2, List.getElem_cons_drop, List.take_append_drop]
set_option maxRecDepth 100000 in
set_option maxHeartbeats 1000000 in
/-- The iterator of an index. -/
theorem fall_iter (B b many wd : Nat) (A : Option Addr) (c : Nat) (ids : List Nat) (hw : 1 ≤ wd) (hw2 : wd ≤ 62) (hn : ids.length ≤ 1000000) (hb : ∀ x ∈ ids, x < 2 ^ wd) :
    Iter Tryz.prog 166 #[.pointer (some ⟨B, 0, none⟩)] encII (pairsN ids) (fun W => W.cell? ⟨B, 0, none⟩ = some (.pointer (some ⟨b, 0, none⟩)) ∧ IdxAt W b ids.length many wd A c (packB ids wd)) := by
  intro l J Jx W hJ hJx hD hY h0
  obtain ⟨d0, hat⟩ := hD _ _ h0
  have HL := flen_at hat hw
  have HY := Lib.hid hY
  have HD := Lib.hid hD
  have HJ := Lib.hid h0
  have HJK := Lib.hid hJ
  have HB := Lib.hid hb
  clear hY hD hJ hJx h0 hat hb
  refine (callsIn_wide (n := 0)).1 ?_
  refine callsIn_of_wp Tryz.func166 rfl trivial ?_ rfl
  simp only [Tryz.ntmps166, List.size_toArray, List.length_cons, List.length_nil, Nat.reduceAdd, Nat.reduceSub, Array.replicate_succ, Array.replicate_zero, List.push_toArray, List.append_toArray, List.nil_append, List.cons_append]
  gi_wp2_with (gi_at_call 167; refine (calls_wide HL).mono ?_; rintro e w' ⟨rfl, rfl⟩)
  clear d0
  gi_loopw [8] (fun vi wr => ∃ i : Nat, i ≤ ids.length ∧ vi = .int .i64 i ∧ Hid (J ((pairsN ids).take i) wr)) (fun vi _ => ids.length - (intOf vi).toNat)
  case atStart => exact ⟨0, Nat.zero_le _, rfl, by simpa using HJ⟩
  case round =>
    obtain ⟨i, hi, rfl, HJI⟩ := hrel
    obtain ⟨d0, hat⟩ := HD.out _ _ HJI.out
    by_cases hlt : i < ids.length
    · have HG := Lib.hid (fget_ids i hat hw hw2 hn HB.out hlt)
      have d1 := d0
      clear hat
      gi_wp2_with (gi_at_call 19; refine (calls_wide HG.out).mono ?_; rintro e w' ⟨rfl, hk⟩; refine Zone.hold ?_)
      refine Zone.unhold ?_
      have HJW := Lib.hid (HJK.out _ _ _ HJI.out hk)
      obtain ⟨suf, hsp⟩ := pairs_split i hlt
      obtain ⟨fn, tmps, assign, body, hy, hR⟩ := HY.out _ _ _ w' hsp HJW.out
      have hgo : (pairsN ids).take i ++ [(i, ids[i])] = (pairsN ids).take (i + 1) := by
        rw [List.take_succ_eq_append_getElem (by rw [pairs_len]; exact hlt)]
        congr 2
        have := pairs_get ids i hlt
        rw [List.getElem?_eq_getElem (by rw [pairs_len]; exact hlt)] at this
        exact (Option.some.inj this).symm
      rw [hgo] at hR
      have HR := Lib.hid hR
      simp only [encII] at hy
      clear hgo hR hsp hk d0 d1 HJI HG
      gi_wp2
      refine HR.out.mono ?_
      rintro e W' (⟨rfl, hJ'⟩ | ⟨rfl, hJx'⟩)
      · have HJ' := Lib.hid hJ'
        clear hJ'
        gi_wp2
        exact ⟨⟨i + 1, by omega, by go_num, HJ'⟩, by simp [intOf]; omega⟩
      · have HJX := Lib.hid hJx'
        clear hJx'
        gi_wp2
        exact bodyPost_ret (results_none (by kernel_rfl) _ _ _) rfl ⟨⟨_, rfl⟩, .inr ⟨_, HJX.out, _, (List.take_append_drop (i + 1) _).symm⟩⟩
    · have hin : i = ids.length := by omega
      subst hin
      gi_wp2
      go_end0
      exact ⟨⟨_, rfl⟩, .inl (by have := HJI.out; rwa [← pairs_len ids, List.take_length] at this)⟩
end Go.Proofs.YtmcaednlilhnoaaGreatDoor
