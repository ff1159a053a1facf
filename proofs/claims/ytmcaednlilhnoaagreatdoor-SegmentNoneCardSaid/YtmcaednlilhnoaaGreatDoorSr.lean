
/- sections.Read of an image, with or without bytes behind. -/
import Derived.WalkKit
import Derived.Lib.Hide
import Derived.WalkSpells
import Derived.WalkLawsBesides
import Derived.BigQuiet
import Derived.Shelf.Abstract
import Derived.Deep.Cut
import Derived.Deep.CutRange
import Derived.Test.YtmcaednlilhnoaaGreatDoorJk
namespace Go.Proofs.YtmcaednlilhnoaaGreatDoor
open Go.RowKit Go.Zone Go.Shelf
attribute [local go_sem] Zone.zone Zone.stepZ Zone.fill Zone.lookFs Zone.goes Zone.goesUpon Zone.dropFs Zone.cell_gro Zone.frozen_gro Zone.size_gro Zone.lt_add Zone.drew_gro Zone.tape_gro Zone.keep_refl
attribute [local go_sem] Zone.lt_add2 Zone.lt_add3 Zone.lt_add4 Zone.lt_add5 Zone.lt_add6 Zone.lt_add7 Zone.lt_add8 Zone.lt_add9 Zone.lt_add10 Zone.lt_add11 Zone.lt_add12
theorem at_secT (S : List Sec) (T : List UInt8) (k : Nat) (h : k < S.length) (hp : posB S k ≤ (imageB S).length) : ∃ rest, (imageB S ++ T).drop (posB S k) = [UInt8.ofNat S[k].name.size] ++ (S[k].name.data.toList ++ (frameB S[k].bs ++ rest)) := by
  obtain ⟨rest, hr⟩ := at_sec S k h
  refine ⟨rest ++ T, ?_⟩
  rw [List.drop_append_of_le_length hp, hr]
  simp
theorem posB_le (S : List Sec) (k : Nat) (hk : k ≤ S.length) : posB S k ≤ (imageB S).length := by
  rw [← posB_end S]
  unfold posB
  have h1 : (S.take S.length).flatMap secB = (S.take k).flatMap secB ++ ((S.take S.length).drop k).flatMap secB := by
    rw [← List.flatMap_append]
    congr 1
    conv => lhs; rw [List.take_length, ← List.take_append_drop k S]
    rw [List.take_length]
  rw [h1, List.length_append]
  omega
set_option maxRecDepth 100000 in
set_option maxHeartbeats 4000000 in
theorem sread_img (A : Option Addr) (c : Nat) (S : List Sec) (T B : List UInt8) (w : World) (hB : B = imageB S ++ T) (h : SlB w A c B) (hp : SecsP S) (hsl : ∀ s ∈ S, s.bs.length ≤ 1000000) :
    Calls Tryz.prog 45 #[.slice A B.length c] w fun e w' => (∃ A' c' L, (T = [] ∧ e = .returned (.tuple #[.slice A' L.length c', .int .i64 0]) ∨ T ≠ [] ∧ e = .returned (.tuple #[.slice none 0 0, .int .i64 5])) ∧ Sl w' 2 Sec.cells A' c' L ∧ (∀ s ∈ L, OwnB w' w.heap.size (.slice s.A s.bs.length s.c) s.bs) ∧ L.map nbS = S.map nbS) ∧ Keep w w' := by
  have hil : (imageB S).length = 6 + (S.flatMap secB).length := by simp [imageB, le_len]; omega
  have hlen : B.length = (imageB S).length + T.length := by rw [hB, List.length_append]
  have hbl := h.len
  have hbig := h.big
  have hcap := h.cap
  have hf := hp.few
  have HP := Lib.hid hp
  have HSL := Lib.hid hsl
  have HAT := Lib.hid (fun k (hk : k < S.length) => show ∃ rest, B.drop (posB S k) = _ from hB ▸ at_secT S T k hk (posB_le S k (Nat.le_of_lt hk)))
  have HPS := Lib.hid (posB_succ S)
  have HPE := Lib.hid (posB_end S)
  have HPL := Lib.hid (posB_le S)
  obtain ⟨b, off, hA⟩ : ∃ b off, A = some ⟨b, off, none⟩ := by
    obtain ⟨b, off, hA, _⟩ := h.at_ 0 (by omega)
    exact ⟨b, off, hA⟩
  subst hA
  have h6 : 6 ≤ B.length := by omega
  have hd6 : B = [73, 83, 71, 76, UInt8.ofNat (S.length / 256 ^ 0), UInt8.ofNat (S.length / 256 ^ 1)] ++ (S.flatMap secB ++ T) := by rw [hB]; simp [imageB, le]
  have g : ∀ i, (hi : i < 6) → B[i]'(by omega) = [73, 83, 71, 76, UInt8.ofNat (S.length / 256 ^ 0), UInt8.ofNat (S.length / 256 ^ 1)][i] := fun i hi => by
    simp only [hd6]
    rw [List.getElem_append_left]
  have hc : ∀ i, (hi : i < 6) → w.cell? ⟨b, off + i, none⟩ = some (.int .u8 (([73, 83, 71, 76, UInt8.ofNat (S.length / 256 ^ 0), UInt8.ofNat (S.length / 256 ^ 1)] : List UInt8)[i].toNat : Int)) := fun i hi => by
    obtain ⟨_, _, e, _, hc⟩ := sl_b8 h i (by omega)
    cases e
    rw [g i hi] at hc
    exact hc
  have hbs : b < w.heap.size := block_lt_of_cell (hc 0 (by decide))
  obtain ⟨d4, hd4⟩ : ∃ d4, d4 = S.length % 256 := ⟨_, rfl⟩
  obtain ⟨d5, hd5⟩ : ∃ d5, d5 = S.length / 256 := ⟨_, rfl⟩
  have c4 : w.cell? ⟨b, off + 4, none⟩ = some (.int .u8 (d4 : Int)) := by rw [hd4]; exact (hc 4 (by decide)).trans (by simp only [List.getElem_cons_succ, List.getElem_cons_zero, u8_nat]; simp)
  have c5 : w.cell? ⟨b, off + 5, none⟩ = some (.int .u8 (d5 : Int)) := by
    rw [hd5]
    exact (hc 5 (by decide)).trans (by simp only [List.getElem_cons_succ, List.getElem_cons_zero, u8_nat]; simp; omega)
  have hd45 : (d4 : Int) + (d5 : Int) * 256 = (S.length : Int) := by omega
  have hh4 : SlB w (some ⟨b, off, none⟩) c [73, 83, 71, 76] := by
    have := h.cut_front 4 (by omega)
    rwa [show B.take 4 = [73, 83, 71, 76] by rw [hd6]; rfl] at this
  have hcv : (convert 74 9 (.slice (some ⟨b, off, none⟩) 4 c)).run Tryz.prog w = .ok (.string ⟨#[73, 83, 71, 76]⟩) w := strB hh4
  have hcv2 : (convert 74 9 (.slice (some ⟨b, off, none⟩) 4 c)).run Tryz.prog w.drew = .ok (.string ⟨#[73, 83, 71, 76]⟩) w.drew := strB (hh4.keep (Keep.drew (Keep.refl _)))
  have HD := Lib.hid hd45
  have HB := Lib.hid h
  have HLN := Lib.hid hlen
  have hu4 : d4 < 256 := by omega
  have hu5 : d5 < 256 := by omega
  have hmin : min (B.length : Int) 4 = 4 := by omega
  have hex : ((⟨#[73, 83, 71, 76]⟩ : ByteArray).extract 0 4).toList = [73, 83, 71, 76] := by rw [Lib.toList_data]; rfl
  have hd9 : decide ((B.length : Int) < 6) = false := by simp; omega
  have hbc : 4 ≤ c := by omega
  clear h g hd6 hp hc hlen hB hd4 hd5 hd45 hh4 hsl hil
  go_enter Tryz.func45, Tryz.ntmps45
  go_wp2
  go_region
  clear hcv hcv2
  go_wp2
  go_region
  rw [HD.out]
  clear hex c4 c5 hu4 hu5 hmin
  have hd10 : decide ((2000 : Int) < (S.length : Int)) = false := by simp; omega
  go_wp2
  go_loopw [6, 7, 40] (fun vat vl i wr => ∃ (k p : Nat) (o : Value) (L : List Sec), k ≤ S.length ∧ i = .int .i64 k ∧ vat = .int .i64 p ∧ o = vl ∧ Hid (p = posB S k) ∧ Hid (OwnC wr w.heap.size o L) ∧ Hid (L.map nbS = (S.take k).map nbS) ∧ Hid (∀ s ∈ L, OwnB wr w.heap.size (.slice s.A s.bs.length s.c) s.bs) ∧ Hid (Keep w wr)) (fun _ _ i _ => S.length - (intOf i).toNat)
  case atStart => exact ⟨0, 6, _, [], Nat.zero_le _, rfl, rfl, rfl, (by show _ = _; simp [posB]), Own.nil_ _ _ _ _ _, rfl, (fun s hs => by cases hs), (by repeat (first | exact Keep.refl _ | apply Keep.alloc | apply Keep.gro | apply Keep.drew | apply Keep.drewN))⟩
  case round =>
    obtain ⟨k, p, o, L, hk, rfl, rfl, rfl, HPO, HOL, HLM, HLB, HK⟩ := hrel
    have hpI : p ≤ (imageB S).length := by rw [HPO.out]; exact HPL.out k hk
    have hpB : p ≤ B.length := by have := HLN.out; omega
    have hll : L.length = k := by
      have := congrArg List.length HLM.out
      simpa [Nat.min_eq_left hk] using this
    have HLL := Lib.hid hll
    clear hll
    by_cases hlt : k < S.length
    · obtain ⟨rest, hrest⟩ := HAT.out k hlt
      have hps := HPS.out k hlt
      rw [← HPO.out] at hrest hps
      have hnm := HP.out.name k hlt
      have hsm := HSL.out S[k] (List.getElem_mem hlt)
      have HFI := Lib.hid (show idxP (isSec S[k].name) L 0 = -1 by
        have hm := HLM.out
        have : ∀ s ∈ L, isSec S[k].name s = false := fun s hs => by
          have h1 : nbS s ∈ (S.take k).map nbS := by rw [← hm]; exact List.mem_map_of_mem hs
          obtain ⟨t, ht, he⟩ := List.mem_map.1 h1
          obtain ⟨j, hj, rfl⟩ := List.getElem_of_mem ht
          simp only [List.length_take] at hj
          have := HP.out.one k j hlt (by omega)
          simp only [nbS, Prod.mk.injEq, List.getElem_take] at he
          simp only [isSec, beq_eq_false_iff_ne, ne_eq, ← he.1]
          exact this
        rw [idxP_at _ L 0 L.length fun j hj _ => this _ (List.getElem_mem hj)]
        simp [idxP])
      have HLK := Lib.hid (show (S.take (k + 1)).map nbS = (S.take k).map nbS ++ [nbS S[k]] by rw [List.take_succ_eq_append_getElem hlt, List.map_append]; rfl)
      generalize S[k] = s at hrest hps hnm hsm HFI HLK
      obtain ⟨nm, sA, sc, sb⟩ := s
      simp only at hrest hps hnm hsm HFI
      have hnl : nm.data.toList.length = nm.size := by rw [Lib.size_eq]
      have HNA := Lib.hid (name_any (some ⟨b, off, none⟩) c p B (frameB sb ++ rest) nm wr (HB.out.keep HK.out) hpB hrest hnm)
      have hdn : B.drop (p + 1 + nm.size) = frameB sb ++ rest := by
        rw [← List.append_assoc] at hrest
        have := drop_step hrest
        simp only [List.length_append, List.length_singleton, hnl] at this
        rwa [← Nat.add_assoc] at this
      have hpn : p + 1 + nm.size ≤ B.length := by
        have h1 : (B.drop p).length = B.length - p := List.length_drop
        rw [hrest] at h1
        simp only [List.length_append, List.length_singleton, hnl] at h1
        omega
      obtain ⟨q, hq⟩ : ∃ q, q = p + 1 + nm.size := ⟨_, rfl⟩
      rw [← hq] at HNA hdn hpn
      have HUF := Lib.hid (fun W (hW : Keep w W) => unframe_any (some ⟨b, off, none⟩) c q B sb rest W (HB.out.keep hW) hpn hdn hsm)
      obtain ⟨r, hr⟩ : ∃ r, r = q + (sb.length + 8) := ⟨_, rfl⟩
      rw [← hr] at HUF
      have HR := Lib.hid (show r = posB S (k + 1) by rw [hps, hr, hq]; omega)
      clear hrest hps hnm hnl hdn hpn hq hr
      go_wp2_with (go_at_call 86; refine Zone.hold ?_)
      refine Zone.unhold ?_
      refine HNA.out.mono ?_
      rintro e w1 ⟨rfl, hk1⟩
      have HK1 := Lib.hid (HK.out.trans hk1)
      have HO1 := Lib.hid (HOL.out.keep hk1)
      have HB1 := Lib.hid (fun s hs => (HLB.out s hs).keep hk1)
      clear hk1 HNA HOL HLB HK
      obtain ⟨oA, oc, rfl, hosl⟩ := HO1.out.sl sec_len (by have := HLL.out; omega)
      have HFD := Lib.hid (secf_any oA oc L nm w1 hosl)
      rw [HFI.out] at HFD
      clear hosl
      go_wp2_with (go_at_call 87; refine Zone.hold ?_)
      refine Zone.unhold ?_
      refine HFD.out.mono ?_
      rintro e w2 ⟨rfl, hk2⟩
      have HK2 := Lib.hid (HK1.out.trans hk2)
      have HO2 := Lib.hid (HO1.out.keep hk2)
      have HB2 := Lib.hid (fun s hs => (HB1.out s hs).keep hk2)
      clear hk2 HFD HO1 HB1 HK1
      go_wp2_with (go_at_call 88; refine Zone.hold ?_)
      refine Zone.unhold ?_
      refine (HUF.out _ HK2.out).mono ?_
      rintro e w3 ⟨xA, xc, rfl, hox, hk3⟩
      have HK3 := Lib.hid (HK2.out.trans hk3)
      have HO3 := Lib.hid (HO2.out.keep hk3)
      have HB3 := Lib.hid (fun s hs => (HB2.out s hs).keep hk3)
      have HX3 := Lib.hid (hox.base_mono HK2.out.size)
      clear hk3 HUF HO2 HB2 HK2 hox
      go_wp2_with (at_builtin; refine Zone.hold ?_)
      refine Zone.unhold ?_
      have hke : Keep w3 (w3.alloc (.cells #[.string nm, .slice xA sb.length xc] 126)) := (by repeat (first | exact Keep.refl _ | apply Keep.alloc | apply Keep.gro | apply Keep.drew | apply Keep.drewN))
      have HO7 : OwnC (w3.alloc (.cells #[.string nm, .slice xA sb.length xc] 126)) w.heap.size (.slice oA L.length oc) L := HO3.out.keep hke
      have hwz := HK3.out.size
      refine wpList_app elt_sec sec_len sec_one rfl (.tmp 68) (.tmp 72) rfl (ys := [⟨nm, xA, xc, sb⟩]) HO7 rfl rfl (sl_one _ (by omega) (by omega) (fun j u hu => by
        match j, hu with
        | 0, hu => cases hu; simp [go_sem]
        | 1, hu => cases hu; simp [go_sem])) (by have := HLL.out; simp; omega) (by simp; omega) ?_
      intro v8 w8 hown8 hg8 hd8
      have ⟨a1, a2, _⟩ := HO7.after (w := w) hg8 (HK3.out.trans hke) (Nat.le_refl _)
      have HA8 := Lib.hid a1
      have HO8 := Lib.hid hown8
      have HB8 := Lib.hid (show ∀ s ∈ L ++ [(⟨nm, xA, xc, sb⟩ : Sec)], OwnB w8 w.heap.size (.slice s.A s.bs.length s.c) s.bs from fun s hs => by
        rw [List.mem_append, List.mem_singleton] at hs
        have h3 : OwnB w3 w.heap.size (.slice s.A s.bs.length s.c) s.bs := by
          rcases hs with hs | rfl
          · exact HB3.out s hs
          · exact HX3.out
        have h4 := h3.keep hke
        exact h4.grown hg8 fun j hj => ownC_apart HO7 h4 j hj)
      clear hown8 hg8 hd8 HO7 HO3 HB3 HX3 hke a1 a2
      go_wp2
      go_roundw
      case rel => exact ⟨k + 1, r, v8, L ++ [(⟨nm, xA, xc, sb⟩ : Sec)], by omega, by go_num, rfl, rfl, HR.out, HO8.out, (by show _ = _; rw [List.map_append, HLM.out, HLK.out]; rfl), HB8.out, HA8.out⟩
      case measure => simp [intOf]; omega
    · have hkl : k = S.length := by omega
      subst hkl
      rw [List.take_length] at HLM
      have hpe : p = (imageB S).length := by rw [HPO.out, HPE.out]
      obtain ⟨oA, oc, rfl, hosl⟩ := HOL.out.sl sec_len (by have := HLL.out; omega)
      have HOS := Lib.hid hosl
      clear hosl
      by_cases hT : T = []
      · have HT := Lib.hid hT
        have hd : decide ((p : Int) < (B.length : Int)) = false := by
          have := HLN.out
          rw [hT] at this
          simp at this ⊢
          omega
        have hd' : ¬ (p : Int) < (B.length : Int) := by simpa using hd
        clear hT hpe
        go_wp2
        exact bodyPost_ret (v := .tuple #[.slice oA L.length oc, .int .i64 0]) (by simp [results, Tryz.results45, go_sem]) rfl ⟨⟨oA, oc, L, .inl ⟨HT.out, rfl⟩, HOS.out, HLB.out, HLM.out⟩, HK.out⟩
      · have HT := Lib.hid hT
        have hd' : (p : Int) < (B.length : Int) := by
          have := HLN.out
          have : 0 < T.length := List.length_pos_iff.2 hT
          omega
        have hd : decide ((p : Int) < (B.length : Int)) = true := decide_eq_true hd'
        clear hT hpe
        go_wp2
        exact bodyPost_ret (v := .tuple #[.slice none 0 0, .int .i64 5]) (by simp [results, Tryz.results45, go_sem]) rfl ⟨⟨oA, oc, L, .inr ⟨HT.out, rfl⟩, HOS.out, HLB.out, HLM.out⟩, HK.out⟩
end Go.Proofs.YtmcaednlilhnoaaGreatDoor
