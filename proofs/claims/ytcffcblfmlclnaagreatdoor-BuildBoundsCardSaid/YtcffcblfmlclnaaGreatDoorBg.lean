
/- The document's Read of an image. -/
import Derived.WalkKit
import Derived.Lib.Hide
import Derived.WalkSpells
import Derived.WalkLawsBesides
import Derived.BigQuiet
import Derived.Shelf.Abstract
import Derived.Test.YtcffcblfmlclnaaGreatDoorBw
import Derived.Test.YtcffcblfmlclnaaGreatDoorBu
namespace Go.Proofs.YtcffcblfmlclnaaGreatDoor
open Go.RowKit Go.Zone Go.Shelf
attribute [local go_sem] Zone.zone Zone.stepZ Zone.fill Zone.lookFs Zone.goes Zone.goesUpon Zone.dropFs Zone.cell_gro Zone.frozen_gro Zone.size_gro Zone.lt_add Zone.drew_gro Zone.tape_gro Zone.keep_refl
attribute [local go_sem] Zone.lt_add2 Zone.lt_add3 Zone.lt_add4 Zone.lt_add5 Zone.lt_add6 Zone.lt_add7 Zone.lt_add8 Zone.lt_add9 Zone.lt_add10 Zone.lt_add11 Zone.lt_add12
theorem letter_any (b : Nat) (w : World) : Calls Tryz.prog 25 #[.int .u8 (b : Int)] w fun e w' => e = .returned (.bool (okS b)) ∧ Keep w w' := by
  have HO := Lib.hid (okS_spec b)
  go_enter Tryz.func25, Tryz.ntmps25
  go_wp2
  all_goals go_ret
  all_goals refine ⟨ret_bool ?_, (by repeat (first | exact Keep.refl _ | apply Keep.alloc | apply Keep.gro | apply Keep.drew | apply Keep.drewN))⟩
  all_goals
    rw [Bool.eq_iff_iff, HO.out]
    simp only [Bool.and_eq_true, Bool.or_eq_true, decide_eq_true_eq, beq_iff_eq, true_iff, iff_true, Bool.false_eq_true, false_iff, iff_false]
    omega
set_option maxHeartbeats 400000 in
theorem rsecf_any (A : Option Addr) (c : Nat) (l : List Sec) (n : ByteArray) (w : World) (h : Sl w 2 Sec.cells A c l) :
    Calls Tryz.prog 26 #[.slice A l.length c, .string n] w fun e w' => e = .returned (.int .i64 (idxP (isSec n) l 0)) ∧ Keep w w' := by
  have hl := sl_len h
  go_enter Tryz.func26, Tryz.ntmps26
  go_wp2
  go_loop [5] (fun i => ∃ k : Nat, k ≤ l.length ∧ i = .int .i64 k ∧ Hid (∀ j, (h : j < l.length) → j < k → isSec n l[j] = false)) (fun i => l.length - (intOf i).toNat)
  case atStart => exact ⟨0, Nat.zero_le _, rfl, fun j _ hj => absurd hj (Nat.not_lt_zero _)⟩
  case round =>
    obtain ⟨k, hk, rfl, HR⟩ := hrel
    by_cases hlt : k < l.length
    · obtain ⟨b, off, rfl, hb, h0, h1⟩ := sl_sec h k hlt
      clear h h1
      cases hq : isSec n l[k]
      · have hq2 := hq
        unfold isSec at hq2
        have HQ := Lib.hid hq
        clear hq
        go_wp2
        go_round
        case rel => exact ⟨k + 1, by omega, by go_num, fun j hj hjk => by
          by_cases e : j = k
          · subst e; exact HQ.out
          · exact HR.out j hj (by omega)⟩
        case measure => simp [intOf]; omega
      · have hq2 := hq
        unfold isSec at hq2
        have HQ := Lib.hid hq
        clear hq
        go_wp2
        go_ret
        exact ⟨ret_int (by rw [idxP_at (isSec n) l 0 k HR.out, List.drop_eq_getElem_cons hlt]; simp [idxP, HQ.out]), (by repeat (first | exact Keep.refl _ | apply Keep.alloc | apply Keep.gro | apply Keep.drew | apply Keep.drewN))⟩
    · go_wp2
      go_ret
      exact ⟨ret_int (by rw [idxP_at (isSec n) l 0 l.length fun j hj _ => HR.out j hj (by omega)]; simp [idxP]), (by repeat (first | exact Keep.refl _ | apply Keep.alloc | apply Keep.gro | apply Keep.drew | apply Keep.drewN))⟩
/-- where a section begins -/
def posB (S : List Sec) (k : Nat) : Nat := 6 + ((S.take k).flatMap secB).length
theorem image_drop (S : List Sec) (k : Nat) : (imageB S).drop (posB S k) = (S.drop k).flatMap secB := by
  have h : imageB S = ([73, 83, 71, 76] ++ le S.length 2 ++ (S.take k).flatMap secB) ++ (S.drop k).flatMap secB := by
    conv => lhs; unfold imageB; rw [← List.take_append_drop k S, List.flatMap_append]
    simp
  rw [h, List.drop_left' (by simp [posB, le_len]; omega)]
theorem posB_succ (S : List Sec) (k : Nat) (h : k < S.length) : posB S (k + 1) = posB S k + (S[k].name.size + S[k].bs.length + 9) := by
  have hs : S[k].name.data.toList.length = S[k].name.size := by rw [Lib.size_eq]
  simp only [posB]
  rw [List.take_succ_eq_append_getElem h, List.flatMap_append, List.length_append]
  simp only [List.flatMap_cons, List.flatMap_nil, List.append_nil, secB, List.length_append, frameB_len, List.length_singleton]
  omega
theorem posB_end (S : List Sec) : posB S S.length = (imageB S).length := by
  simp [posB, imageB, le_len]; omega
/-- what stands at a section -/
theorem at_sec (S : List Sec) (k : Nat) (h : k < S.length) : ∃ rest, (imageB S).drop (posB S k) = [UInt8.ofNat S[k].name.size] ++ (S[k].name.data.toList ++ (frameB S[k].bs ++ rest)) := by
  refine ⟨(S.drop (k + 1)).flatMap secB, ?_⟩
  rw [image_drop, List.drop_eq_getElem_cons h, List.flatMap_cons]
  simp [secB]
theorem info_sec : (Tryz.prog.info? 41).map (fun i => (i.zero, i.size, i.bytes)) = some (some (.agg #[.string ⟨#[]⟩, .slice none 0 0]), 2, 40) := by kernel_rfl
theorem elt_sec : Elt Tryz.prog 37 41 2 40 := by
  obtain ⟨i, hi, h1, h2, h3⟩ := info_parts info_sec
  exact ⟨i, _, Tryz.underlying37, hi, h1, h2, h3, rfl, by decide, by decide⟩
theorem sec_len (x : Sec) : x.cells.length = 2 := rfl
theorem sec_one (x : Sec) : ∀ u ∈ x.cells, u.oneCell' = true := by simp [Sec.cells, Value.oneCell']
abbrev OwnC (w : World) (base : Nat) (v : Value) (l : List Sec) : Prop := Own w base 41 2 Sec.cells v l
theorem ownC_apart {w : World} {b1 b2 : Nat} {v v2 : Value} {l : List Sec} {xs : List UInt8} (h : OwnC w b1 v l) (h2 : OwnB w b2 v2 xs) : ∀ j, v.ownBlock = some j → v2.ownBlock ≠ some j := by
  intro j hj e
  rcases h.2 with ⟨rfl, _⟩ | ⟨g, cap, cur, rfl, _, hg, _⟩
  · cases hj
  rcases h2.2 with ⟨rfl, _⟩ | ⟨g2, cap2, cur2, rfl, _, hg2, _⟩
  · cases e
  simp only [Value.ownBlock, Option.map_some, Option.some.injEq] at hj e
  subst hj; subst e
  rw [hg] at hg2
  injection hg2 with hg2
  injection hg2 with _ h3 _
  exact absurd h3 (by decide)
def nbS (s : Sec) : ByteArray × List UInt8 := (s.name, s.bs)
/-- bytes of a text's beginning -/
def preS (n : ByteArray) (i : Nat) : ByteArray := ⟨(n.data.toList.take i).toArray⟩
theorem preS_succ (n : ByteArray) (i : Nat) (h : i < n.data.toList.length) : preS n i ++ ⟨[n.data.toList[i]].toArray⟩ = preS n (i + 1) := by
  apply ByteArray.ext
  simp only [preS, ByteArray.data_append, List.append_toArray, List.take_succ_eq_append_getElem h]
theorem preS_all (n : ByteArray) : preS n n.size = n := by
  apply ByteArray.ext
  simp only [preS]
  rw [List.take_of_length_le (by rw [Lib.size_eq]; exact Nat.le_refl _)]
end Go.Proofs.YtcffcblfmlclnaaGreatDoor
