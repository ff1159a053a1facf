/- The law's sample: plain facts. -/
import Derived.Test.YtmcaednlilhnoaaGreatDoorBl
namespace Go.Proofs.YtmcaednlilhnoaaGreatDoor
open Go.RowKit Go.Zone Go.Shelf
def vK (n : Int) : Val := ⟨1, n, ⟨#[]⟩⟩
def colK : Col := ⟨⟨#[97]⟩, 1⟩
def ysK : List Val := [vK (-1), vK 5]
def rowsK : List (List Val) := [[vK 5], [vK (-1)], [vK 5]]
theorem cmp_vK (a b : Int) : cmpV (vK a) (vK b) = cmpI a b := by
  have h1 : cmpI 1 1 = 0 := by decide
  have h2 : cmpS ⟨#[]⟩ ⟨#[]⟩ = 0 := by unfold cmpS; simp only [Lib.toList_data]; decide
  unfold cmpV
  simp only [vK, orL, h1, h2, if_true]
  split
  · simp [*]
  · rfl
theorem lt_vK (a b : Int) (h : a < b) : LtV (vK a) (vK b) := by
  rw [← cmpV_lt, cmp_vK]
  unfold cmpI
  simp [h]
theorem ysK_sorted : ysK.Pairwise LtV := by
  simp only [ysK, List.pairwise_cons, List.mem_cons, List.not_mem_nil, or_false]
  exact ⟨fun x hx => by rw [hx]; exact lt_vK _ _ (by decide), fun x hx => hx.elim, List.Pairwise.nil⟩
theorem own_k : dOwn [vK 5, vK (-1), vK 5] = ysK :=
  sorted_unique _ _ (dOwn_sorted _).1 ysK_sorted fun x => by rw [(dOwn_sorted _).2 x]; simp [ysK]; exact fun h => .inr h
theorem low_k (n : Int) (m : Nat) (h : (ysK.takeWhile fun x => decide (cmpV x (vK n) < 0)).length = m) : lower ysK (vK n) = m := h
theorem ids_k : idsOf [vK 5, vK (-1), vK 5] = [1, 0, 1] := by
  have h5 : lower ysK (vK 5) = 1 := by
    unfold lower ysK
    simp only [List.takeWhile_cons, cmp_vK]
    decide
  have h1 : lower ysK (vK (-1)) = 0 := by
    unfold lower ysK
    simp only [List.takeWhile_cons, cmp_vK]
    decide
  simp only [idsOf, own_k, List.map_cons, List.map_nil, h5, h1]
theorem may_k (n : Int) : noMay (vK n) = false := by
  have : mayV (vK n) = true := by simp only [mayV, vK, Lib.toList_data]; rfl
  simp [noMay, this]
theorem derr_k : dErr 1 [vK 5, vK (-1), vK 5] = 0 := by
  unfold dErr
  rw [own_k]
  simp only [List.any_cons, List.any_nil, may_k, ysK]
  rfl
theorem name_a : NameP ⟨#[97]⟩ := ⟨by decide, by decide, by decide⟩
theorem mayP_k : MayP [colK] := ⟨fun i h => by
    match i, h with
    | 0, _ => exact name_a, fun i h => by
    match i, h with
    | 0, _ => exact (by decide : (1 : Int) ≤ 1 ∧ (1 : Int) ≤ 3), fun i k h hk => by simp at h; omega, by simp, by simp⟩
theorem terr_k : tErr [colK] rowsK = 0 := by
  unfold tErr
  rw [if_neg (by simp [pB, mayP_k])]
  have h1 : rowsK.any (badRow [colK]) = false := by
    simp only [rowsK, List.any_cons, List.any_nil, badRow, may_k]
    rfl
  have h2 : rowsK.any (oddRow [colK]) = false := by
    simp only [rowsK, List.any_cons, List.any_nil]
    rfl
  simp only [h1, h2]
  rfl
/-- a configuration of one column without indexes: whatever lists of flags say so -/
structure CfgK (c : Cfg) : Prop where
  sort : c.sort = -1
  inv : c.inv = [] ∨ c.inv = [false]
  rng : c.rng = [] ∨ c.rng = [false]
  split : c.split = []
  leaf : c.leaf = 1
theorem CfgK.noI {c : Cfg} (h : CfgK c) : hasP c.inv 0 = false := by rcases h.inv with e | e <;> rw [e] <;> rfl
theorem CfgK.noR {c : Cfg} (h : CfgK c) : hasP c.rng 0 = false := by rcases h.rng with e | e <;> rw [e] <;> rfl
theorem flagP_k {f : List Bool} (h : f = [] ∨ f = [false]) : FlagP [colK] f := by
  rcases h with rfl | rfl
  · exact ⟨.inl rfl, fun i h => by simp at h⟩
  · exact ⟨.inr rfl, fun i h => by
      rcases i with _ | i
      · cases h
      · cases h⟩
theorem CfgK.fits {c : Cfg} (h : CfgK c) : Fits [colK] c where
  may := mayP_k
  sort := .inl h.sort
  inv := flagP_k h.inv
  rng := flagP_k h.rng
  split := fun i hi => by rw [h.split] at hi; exact absurd hi (Nat.not_lt_zero _)
  one := fun i k hi => by rw [h.split] at hi; exact absurd hi (Nat.not_lt_zero _)
  few := by rw [h.split]; decide
  lo := by rw [h.leaf]; decide
  hi := by rw [h.leaf]; decide
/-- the sections' bytes -/
def cK0 : Cfg := ⟨-1, none, 0, [], none, 0, [], none, 0, [], 1⟩
theorem cK0_k : CfgK cK0 := ⟨rfl, .inl rfl, .inl rfl, rfl, rfl⟩
def schK : List UInt8 := schB [colK] cK0
theorem flags_k {c : Cfg} (h : CfgK c) : (List.range 1).flatMap (flagB c) = [0] := by
  have e : List.range 1 = [0] := rfl
  have h1 := h.noI
  have h2 := h.noR
  rw [e]
  simp [flagB, h1, h2]
theorem schB_k {c : Cfg} (h : CfgK c) : schB [colK] c = schK := by
  unfold schK schB
  rw [h.sort, h.split, h.leaf]
  simp only [List.length_singleton, flags_k h, flags_k cK0_k]
  rfl
theorem schK_len : schK.length = 13 := by
  have e : [colK].flatMap colB = [1, 1, 97] := rfl
  unfold schK schB
  simp only [List.length_singleton, flags_k cK0_k, e]
  simp [le_len, cK0]
def dK : List UInt8 := dBytes 1 ysK
def fK : List UInt8 := idxB 3 2 1 [5]
theorem wdF_2 : wdF 2 = 1 := by decide
theorem pack_k : packB [1, 0, 1] 1 = [5] := by decide
def nbK : List (ByteArray × List UInt8) := [(⟨#[115, 99, 104, 101, 109, 97]⟩, schK), (⟨#[114, 111, 119, 115]⟩, le 3 4), (⟨#[100, 105, 99, 116, 46, 48]⟩, dK), (⟨#[102, 111, 114, 119, 97, 114, 100, 46, 48]⟩, fK)]
theorem plain_k {c : Cfg} (h : CfgK c) : plainNB colK c rowsK = nbK := by
  have e : colV rowsK 0 = [vK 5, vK (-1), vK 5] := rfl
  have l : ysK.length = 2 := rfl
  unfold plainNB nbK dimNB
  rw [schB_k h, e, own_k, ids_k, l, wdF_2, pack_k]
  rfl
theorem secs_k (S : List Sec) (h : S.map nbS = nbK) : SecsP S := by
  have hl : S.length = 4 := by simpa [nbK] using congrArg List.length h
  match S, hl with
  | [a, b, c, d], _ =>
    obtain ⟨na, Aa, ca, ba⟩ := a
    obtain ⟨nb, Ab, cb, bb⟩ := b
    obtain ⟨nc, Ac, cc, bc⟩ := c
    obtain ⟨nd, Ad, cd, bd⟩ := d
    simp only [List.map_cons, List.map_nil, nbS, nbK, List.cons.injEq, Prod.mk.injEq, and_true] at h
    obtain ⟨⟨rfl, rfl⟩, ⟨rfl, rfl⟩, ⟨rfl, rfl⟩, rfl, rfl⟩ := h
    refine ⟨fun i hi => ?_, fun i hi => ?_, fun i k hi hk => ?_, by simp⟩
    · match i, hi with
      | 0, _ => exact nameS_sch
      | 1, _ => exact nameS_rows
      | 2, _ => exact nameS_dict
      | 3, _ => exact nameS_fwd
    · match i, hi with
      | 0, _ => exact (by rw [schK_len]; decide : schK.length ≤ 1073741824)
      | 1, _ => exact (by decide : (le 3 4).length ≤ 1073741824)
      | 2, _ => exact (by decide : dK.length ≤ 1073741824)
      | 3, _ => exact (by decide : fK.length ≤ 1073741824)
    · match i, hi, k, hk with
      | 1, _, 0, _ => exact ne_toL (by decide : (#[115, 99, 104, 101, 109, 97] : Array UInt8).toList ≠ (#[114, 111, 119, 115] : Array UInt8).toList)
      | 2, _, 0, _ => exact ne_toL (by decide : (#[115, 99, 104, 101, 109, 97] : Array UInt8).toList ≠ (#[100, 105, 99, 116, 46, 48] : Array UInt8).toList)
      | 2, _, 1, _ => exact ne_toL (by decide : (#[114, 111, 119, 115] : Array UInt8).toList ≠ (#[100, 105, 99, 116, 46, 48] : Array UInt8).toList)
      | 3, _, 0, _ => exact ne_toL (by decide : (#[115, 99, 104, 101, 109, 97] : Array UInt8).toList ≠ (#[102, 111, 114, 119, 97, 114, 100, 46, 48] : Array UInt8).toList)
      | 3, _, 1, _ => exact ne_toL (by decide : (#[114, 111, 119, 115] : Array UInt8).toList ≠ (#[102, 111, 114, 119, 97, 114, 100, 46, 48] : Array UInt8).toList)
      | 3, _, 2, _ => exact ne_toL (by decide : (#[100, 105, 99, 116, 46, 48] : Array UInt8).toList ≠ (#[102, 111, 114, 119, 97, 114, 100, 46, 48] : Array UInt8).toList)
end Go.Proofs.YtmcaednlilhnoaaGreatDoor
