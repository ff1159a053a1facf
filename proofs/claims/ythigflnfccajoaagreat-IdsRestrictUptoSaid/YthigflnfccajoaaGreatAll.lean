
/- Contract of dict.All, and what its iterator gives. -/
import Derived.WalkKit
import Derived.Lib.Hide
import Derived.WalkSpells
import Derived.WalkLawsBesides
import Derived.BigQuiet
import Derived.Shelf.Abstract
import Derived.TacticsInMore
import Derived.LoopNIn
import Derived.LoopIn
import Derived.Test.YthigflnfccajoaaGreatRange
import Derived.Test.YthigflnfccajoaaGreatDictM
namespace Go.Proofs.YthigflnfccajoaaGreat
open Go.RowKit Go.Zone Go.Shelf
attribute [local go_sem] Zone.zone Zone.stepZ Zone.fill Zone.lookFs Zone.goes Zone.goesUpon Zone.dropFs Zone.cell_gro Zone.frozen_gro Zone.size_gro Zone.lt_add Zone.drew_gro Zone.tape_gro Zone.keep_refl
attribute [local go_sem] Oper.semAt_some Zone.wide_fn Zone.wide_depth Zone.wide_round Fence.inRound_fn Fence.inRound_depth Fence.inRound_round
theorem all_any (p : Option Addr) (w : World) : Calls Tryz.prog 45 #[.pointer p] w fun e w' => e = .returned (.func (.func 76) #[] #[.pointer (some ⟨w.heap.size, 0, none⟩)]) ∧ w' = w.alloc (.cells #[.pointer p] 36) := by
  go_enter Tryz.func45, Tryz.ntmps45
  go_wp2
  go_ret
  exact ⟨rfl, rfl⟩
def encIV (x : Nat × Val) : Array Value := #[.int .i64 x.1, x.2.v]
def idx : Nat → List Val → List (Nat × Val)
  | _, [] => []
  | k, y :: r => (k, y) :: idx (k + 1) r
theorem idx_len : ∀ (k : Nat) (ys : List Val), (idx k ys).length = ys.length
  | _, [] => rfl
  | k, y :: r => by simp [idx, idx_len (k + 1) r]
theorem idx_get : ∀ (k : Nat) (ys : List Val) (i : Nat) (h : i < ys.length), (idx k ys)[i]? = some (k + i, ys[i])
  | _, [], _, h => absurd h (Nat.not_lt_zero _)
  | k, y :: r, 0, _ => rfl
  | k, y :: r, i + 1, h => by
    simp only [idx, List.getElem?_cons_succ, List.getElem_cons_succ]
    rw [idx_get (k + 1) r i (by simpa using h)]
    congr 2
    omega
theorem idx_at {ys : List Val} {pre : List (Nat × Val)} {x : Nat × Val} {suf : List (Nat × Val)} (h : idx 0 ys = pre ++ x :: suf) : ∃ hi : pre.length < ys.length, x = (pre.length, ys[pre.length]) := by
  have hl := congrArg List.length h
  rw [idx_len] at hl
  simp at hl
  have hi : pre.length < ys.length := by omega
  have h1 := idx_get 0 ys pre.length hi
  rw [h] at h1
  simp at h1
  exact ⟨hi, h1⟩
theorem idx_split {ys : List Val} (i : Nat) (hi : i < ys.length) : ∃ suf, idx 0 ys = (idx 0 ys).take i ++ (i, ys[i]) :: suf := by
  have h1 := idx_get 0 ys i hi
  rw [Nat.zero_add] at h1
  have hl : i < (idx 0 ys).length := by rw [idx_len]; exact hi
  refine ⟨(idx 0 ys).drop (i + 1), ?_⟩
  have h2 : (idx 0 ys)[i] = (i, ys[i]) := by rw [List.getElem?_eq_getElem hl] at h1; exact Option.some.inj h1
  rw [← h2, List.getElem_cons_drop, List.take_append_drop]
/-- The iterator of a dictionary that is not there, or was not made. -/
theorem all_none (B : Nat) : Iter Tryz.prog 76 #[.pointer (some ⟨B, 0, none⟩)] encIV [] (fun W => W.cell? ⟨B, 0, none⟩ = some (.pointer none) ∨ ∃ b A c ys, W.cell? ⟨B, 0, none⟩ = some (.pointer (some ⟨b, 0, none⟩)) ∧ DictAt W b 0 A c ys) := by
  intro l J Jx W hJ hJx hD hY h0
  have HJ := Lib.hid h0
  rcases hD _ _ h0 with d0 | ⟨b, A, c, ys, d0, hat⟩
  · clear hY hD hJ hJx h0
    go_enter Tryz.func76, Tryz.ntmps76
    go_wp2_with (go_at_call 34; refine (len_nil _).mono ?_; rintro e w' ⟨rfl, rfl⟩)
    go_loop [6] (fun i => i = .int .i64 0) (fun _ => 0)
    case atStart => rfl
    case round =>
      obtain rfl := hrel
      go_wp2
      go_end0
      exact ⟨⟨_, rfl⟩, .inl HJ.out⟩
  · have HL := len_at W hat
    rw [if_pos rfl] at HL
    clear hY hD hJ hJx h0
    go_enter Tryz.func76, Tryz.ntmps76
    go_wp2_with (go_at_call 34; refine (HL).mono ?_; rintro e w' ⟨rfl, rfl⟩)
    go_loop [6] (fun i => i = .int .i64 0) (fun _ => 0)
    case atStart => rfl
    case round =>
      obtain rfl := hrel
      go_wp2
      go_end0
      exact ⟨⟨_, rfl⟩, .inl HJ.out⟩
set_option maxRecDepth 100000 in
set_option maxHeartbeats 1000000 in
/-- The iterator of a dictionary. -/
theorem all_iter (B b : Nat) (kind : Int) (A : Option Addr) (c : Nat) (ys : List Val) (hk : kind ≠ 0) :
    Iter Tryz.prog 76 #[.pointer (some ⟨B, 0, none⟩)] encIV (idx 0 ys) (fun W => W.cell? ⟨B, 0, none⟩ = some (.pointer (some ⟨b, 0, none⟩)) ∧ DictAt W b kind A c ys) := by
  intro l J Jx W hJ hJx hD hY h0
  obtain ⟨d0, hat⟩ := hD _ _ h0
  have HL := len_at W hat
  rw [if_neg hk] at HL
  have hlen := hat.sl.len
  have HY := Lib.hid hY
  have HD := Lib.hid hD
  have HJ := Lib.hid h0
  clear hY hD hJ hJx h0 hat
  refine (callsIn_wide (n := 0)).1 ?_
  refine callsIn_of_wp Tryz.func76 rfl trivial ?_ rfl
  simp only [Tryz.ntmps76, List.size_toArray, List.length_cons, List.length_nil, Nat.reduceAdd, Nat.reduceSub, Array.replicate_succ, Array.replicate_zero, List.push_toArray, List.append_toArray, List.nil_append, List.cons_append]
  gi_wp2_with (gi_at_call 34; refine (calls_wide HL).mono ?_; rintro e w' ⟨rfl, rfl⟩)
  clear d0
  gi_loopw [6] (fun vi wr => ∃ i : Nat, i ≤ ys.length ∧ vi = .int .i64 i ∧ Hid (J ((idx 0 ys).take i) wr)) (fun vi _ => ys.length - (intOf vi).toNat)
  case atStart => exact ⟨0, Nat.zero_le _, rfl, by simpa using HJ⟩
  case round =>
    obtain ⟨i, hi, rfl, HJI⟩ := hrel
    obtain ⟨d0, hat⟩ := HD.out _ _ HJI.out
    by_cases hlt : i < ys.length
    · obtain ⟨suf, hsp⟩ := idx_split i hlt
      obtain ⟨fn, tmps, assign, body, hy, hR⟩ := HY.out _ _ _ wr hsp HJI.out
      have h1 := hat.l
      obtain ⟨bx, off, rfl, hbx, c0, c1, c2⟩ := sl_val hat.sl i hlt
      have hgo : (idx 0 ys).take i ++ [(i, ys[i])] = (idx 0 ys).take (i + 1) := by
        rw [List.take_succ_eq_append_getElem (by rw [idx_len]; exact hlt)]
        congr 2
        have := idx_get 0 ys i hlt
        rw [List.getElem?_eq_getElem (by rw [idx_len]; exact hlt), Nat.zero_add] at this
        exact (Option.some.inj this).symm
      rw [hgo] at hR
      have HR := Lib.hid hR
      have HSP := Lib.hid hsp
      simp only [encIV] at hy
      clear hgo hR hsp hat
      gi_wp2
      refine HR.out.mono ?_
      rintro e W' (⟨rfl, hJ'⟩ | ⟨rfl, hJx'⟩)
      · have HJ' := Lib.hid hJ'
        clear hJ'
        gi_wp2
        exact ⟨⟨i + 1, by omega, by go_num, HJ'⟩, by simp [intOf]; omega⟩
      · have HJX := Lib.hid hJx'
        clear hJx'
        gi_wp2
        exact bodyPost_ret (results_none (by kernel_rfl) _ _ _) rfl ⟨⟨_, rfl⟩, .inr ⟨_, HJX.out, _, (List.take_append_drop (i + 1) _).symm⟩⟩
    · have hin : i = ys.length := by omega
      subst hin
      gi_wp2
      go_end0
      exact ⟨⟨_, rfl⟩, .inl (by have := HJI.out; rwa [← idx_len 0 ys, List.take_length] at this)⟩
end Go.Proofs.YthigflnfccajoaaGreat
