
/- sections.Write. -/
import Derived.WalkKit
import Derived.Lib.Hide
import Derived.WalkSpells
import Derived.WalkLawsBesides
import Derived.BigQuiet
import Derived.Shelf.Abstract
import Derived.Lib.SlBytesConst
import Derived.Test.YtcffcblfmlclnaaGreatDoorBx
namespace Go.Proofs.YtcffcblfmlclnaaGreatDoor
open Go.RowKit Go.Zone Go.Shelf
attribute [local go_sem] Zone.zone Zone.stepZ Zone.fill Zone.lookFs Zone.goes Zone.goesUpon Zone.dropFs Zone.cell_gro Zone.frozen_gro Zone.size_gro Zone.lt_add Zone.drew_gro Zone.tape_gro Zone.keep_refl
attribute [local go_sem] Zone.lt_add2 Zone.lt_add3 Zone.lt_add4 Zone.lt_add5 Zone.lt_add6 Zone.lt_add7 Zone.lt_add8 Zone.lt_add9 Zone.lt_add10 Zone.lt_add11 Zone.lt_add12
/-- a section's bytes in an image -/
def secB (s : Sec) : List UInt8 := [UInt8.ofNat s.name.size] ++ s.name.data.toList ++ frameB s.bs
def imageB (l : List Sec) : List UInt8 := [73, 83, 71, 76] ++ le l.length 2 ++ l.flatMap secB
theorem secB_len {s : Sec} (h : s.name.size ≤ 20) : (secB s).length ≤ s.bs.length + 29 := by
  have hs : s.name.data.toList.length = s.name.size := by rw [Lib.size_eq]
  simp only [secB, List.length_append, frameB_len, List.length_singleton]
  omega
theorem secs_len (l : List Sec) (h : ∀ s ∈ l, s.name.size ≤ 20 ∧ s.bs.length ≤ 1073741824) : (l.flatMap secB).length ≤ l.length * 1073741853 := by
  induction l with
  | nil => simp
  | cons s r ih =>
    have h1 := ih fun y hy => h y (by simp [hy])
    have h2 := h s (by simp)
    have h3 := secB_len h2.1
    simp only [List.flatMap_cons, List.length_append, List.length_cons, Nat.add_mul]
    omega
theorem SecsP.at_ {l : List Sec} (h : SecsP l) : ∀ s ∈ l, s.name.size ≤ 20 ∧ s.bs.length ≤ 1073741824 := fun s hs => by
  obtain ⟨i, hi, rfl⟩ := List.getElem_of_mem hs
  exact ⟨(h.name i hi).hi, h.small i hi⟩
set_option maxRecDepth 100000 in
set_option maxHeartbeats 2000000 in
theorem write_any (A : Option Addr) (c : Nat) (l : List Sec) (w : World) (h : Sl w 2 Sec.cells A c l) (hs : SecsAt w l) (hp : SecsP l) :
    Calls Tryz.prog 24 #[.slice A l.length c] w fun e w' => ∃ v, e = .returned (.tuple #[v, .int .i64 0]) ∧ OwnB w' w.heap.size v (imageB l) ∧ Keep w w' := by
  have hl := sl_len h
  have H := Lib.hid h
  have HS := Lib.hid hs
  have HP := Lib.hid hp
  have hf := hp.few
  have HM := Lib.hid (fun W (hW : Keep w W) => secmay_any A c l W (h.keep hW) hp)
  clear h hs hp
  have kc := fun (w : World) (C : Array Value) (n c : Nat) => Lib.run_convert_bytes_const (P := Tryz.prog) w 33 5 C n c Tryz.underlying33 Tryz.underlying5
  go_enter Tryz.func24, Tryz.ntmps24
  go_wp2_with (go_at_call 62; refine Zone.hold ?_)
  refine Zone.unhold ?_
  refine (HM.out _ (by repeat (first | exact Keep.refl _ | apply Keep.alloc | apply Keep.gro | apply Keep.drew | apply Keep.drewN))).mono ?_
  rintro e w1 ⟨rfl, hk1⟩
  have HK1 := Lib.hid hk1
  clear hk1 HM
  go_wp2_with (go_at_call 38; refine Zone.hold ?_)
  refine Zone.unhold ?_
  have hs4 : SlB (w1.alloc (.cells #[.int .u8 73, .int .u8 83, .int .u8 71, .int .u8 76] 5 (4, 5))) (some ⟨w1.heap.size, 0, none⟩) 4 [73, 83, 71, 76] := by
    refine ⟨by decide, by decide, by decide, fun i hi => ⟨w1.heap.size, 0, rfl, fun j u hu => ?_⟩⟩
    match i, hi, j, hu with
    | 0, _, 0, hu => cases hu; exact (cell_of_row _ _ _ _ _ _ (heap_alloc_new _ _)).trans rfl
    | 1, _, 0, hu => cases hu; exact (cell_of_row _ _ _ _ _ _ (heap_alloc_new _ _)).trans rfl
    | 2, _, 0, hu => cases hu; exact (cell_of_row _ _ _ _ _ _ (heap_alloc_new _ _)).trans rfl
    | 3, _, 0, hu => cases hu; exact (cell_of_row _ _ _ _ _ _ (heap_alloc_new _ _)).trans rfl
  refine (app16_any _ 4 [73, 83, 71, 76] l.length (by omega) _ hs4 (by decide)).mono ?_
  rintro e w2 ⟨v2, rfl, hown2, hk2⟩
  have HK2 := Lib.hid (HK1.out.trans (Keep.trans (Keep.alloc (Keep.refl _) _) hk2))
  have HO2 := Lib.hid (hown2.base_mono (by simp; exact Nat.le_succ_of_le HK1.out.size) : OwnB w2 w.heap.size v2 _)
  clear hs4 hown2 hk2 kc HK1
  go_wp2
  go_loopw [5, 21] (fun v i wr => ∃ (k : Nat) (o : Value) (pre : List UInt8), k ≤ l.length ∧ i = .int .i64 k ∧ o = v ∧ Hid (OwnB wr w.heap.size o pre) ∧ Hid (pre = [73, 83, 71, 76] ++ le l.length 2 ++ (l.take k).flatMap secB) ∧ pre.length ≤ 6 + k * 1073741853 ∧ Hid (Keep w wr)) (fun _ i _ => l.length - (intOf i).toNat)
  case atStart => exact ⟨0, _, _, Nat.zero_le _, rfl, rfl, HO2.out, (by show _ = _; simp), by simp [le_len], HK2.out⟩
  case round =>
    clear HO2 HK2
    obtain ⟨k, o, pre, hk, rfl, rfl, HO, HPR, hpl, HK⟩ := hrel
    by_cases hlt : k < l.length
    · obtain ⟨b, off, hA, hb, h0, h1⟩ := sl_sec (H.out.keep HK.out) k hlt
      have hz := HP.out.at_ l[k] (List.getElem_mem hlt)
      obtain ⟨hz1, hz2⟩ := hz
      have HSB := Lib.hid (HS.out l[k] (List.getElem_mem hlt))
      subst hA
      have HT := Lib.hid (show (l.take (k + 1)).flatMap secB = (l.take k).flatMap secB ++ secB l[k] by rw [List.take_succ_eq_append_getElem hlt, List.flatMap_append]; simp)
      generalize l[k] = s at h0 h1 hz1 hz2 HSB HT
      obtain ⟨nm, sA, sc, sb⟩ := s
      simp only at h0 h1 hz1 hz2 HSB HT
      have HSZ := Lib.hid (show nm.data.toList.length = nm.size by rw [Lib.size_eq])
      have hke : Hid (Keep wr ((wr.alloc (.cells #[.string nm, .slice sA sb.length sc] 41)).alloc (.cells #[.int .u8 (nm.size : Int)] 5))) := (by repeat (first | exact Keep.refl _ | apply Keep.alloc | apply Keep.gro | apply Keep.drew | apply Keep.drewN))
      go_wp2_with (at_builtin; refine Zone.hold ?_)
      refine Zone.unhold ?_
      have HO3 : OwnB ((wr.alloc (.cells #[.string nm, .slice sA sb.length sc] 41)).alloc (.cells #[.int .u8 (nm.size : Int)] 5)) w.heap.size o pre := HO.out.keep hke.out
      have hwz := HK.out.size
      refine wpList_app elt_u8 b8_len b8_one rfl (.tmp 25) (.tmp 30) rfl (ys := [UInt8.ofNat nm.size]) HO3 rfl rfl (sl_one _ (by omega) (by omega) (b8_at _ (by rw [u8_nat, show (nm.size : Int) % 256 = nm.size by omega]; simp [go_sem]))) (by simp; omega) (by simp; omega) ?_
      intro v3 w3 hown3 hg3 hd3
      have ⟨a1, a2, _⟩ := HO3.after (w := w) hg3 (HK.out.trans hke.out) (Nat.le_refl _)
      have hol := HO.out.lt
      have hne : v3.ownBlock ≠ some wr.heap.size := by
        rcases hd3 with e | e
        · rw [e]
          intro e2
          have := (hol _ e2).2
          omega
        · rw [e]
          simp
          omega
      have c0 : w3.cell? ⟨wr.heap.size, 0, none⟩ = some (.string nm) := hg3.cell (by simp [go_sem]) fun hj => by have := (hol _ hj.symm).2; simp at this
      have c1 : w3.cell? ⟨wr.heap.size, 1, none⟩ = some (.slice sA sb.length sc) := hg3.cell (by simp [go_sem]) fun hj => by have := (hol _ hj.symm).2; simp at this
      have hb3 : wr.heap.size < w3.heap.size := block_lt_of_cell c0
      have HA3 := Lib.hid a1
      have HO4 := Lib.hid hown3
      have HC1 := Lib.hid c1
      have HNE := Lib.hid hne
      clear hown3 hg3 hd3 a1 a2 HO3 hol hne c1 h0 h1
      go_wp2_with (at_builtin; refine Zone.hold ?_)
      refine Zone.unhold ?_
      refine wpList_appS rfl (.tmp 32) (.tmp 34) rfl rfl HO4.out nm rfl (by simp; omega) HA3.out.size ?_
      intro v4 w4 hown4 hg4
      have ⟨a1, a2, _⟩ := HO4.out.after (w := w) hg4 HA3.out (Nat.le_refl _)
      have c1 := hg4.cell HC1.out fun hj => HNE.out hj.symm
      have hb4 : wr.heap.size < w4.heap.size := block_lt_of_cell c1
      have HA4 := Lib.hid a1
      have HO5 := Lib.hid hown4
      clear hown4 hg4 a1 a2 HO4 HC1 HNE c0
      have HFR := Lib.hid (frame_any sA sc sb w4 (HSB.out.keep HA4.out) hz2)
      go_wp2_with (go_at_call 63; refine Zone.hold ?_)
      refine Zone.unhold ?_
      refine HFR.out.mono ?_
      rintro e w5 ⟨v5, rfl, hown5, hk5⟩
      obtain ⟨L, A5, c5, rfl, HS5, _, HL5⟩ := ownB_open hown5 (by rw [frameB_len]; omega)
      have HLL := Lib.hid (show L.length = sb.length + 8 by rw [HL5.out, frameB_len])
      have HO6 := Lib.hid (HO5.out.keep hk5)
      have HA5 := Lib.hid (HA4.out.trans hk5)
      clear hown5 hk5 HO5 HFR c1
      go_wp2_with (at_builtin; refine Zone.hold ?_)
      refine Zone.unhold ?_
      refine wpList_app elt_u8 b8_len b8_one rfl (.tmp 36) (.tmp 39) rfl (ys := L) HO6.out rfl rfl HS5.out (by have := HLL.out; have := HSZ.out; simp only [List.length_append, List.length_singleton]; omega) HA5.out.size ?_
      intro v6 w6 hown6 hg6 _
      have ⟨a1, a2, _⟩ := HO6.out.after (w := w) hg6 HA5.out (Nat.le_refl _)
      have HO7 := Lib.hid hown6
      have HA6 := Lib.hid a1
      clear hown6 hg6 a1 a2 HO6
      go_wp2
      go_roundw
      case rel => exact ⟨k + 1, _, _, by omega, by go_num, rfl, HO7.out, (by
        show _ = _
        rw [HT.out, HPR.out, HL5.out]
        simp [secB]), (by
        have := HLL.out
        have := HSZ.out
        simp only [List.length_append, List.length_singleton]
        omega), HA6.out⟩
      case measure => simp [intOf]; omega
    · have hkl : k = l.length := by omega
      subst hkl
      rw [List.take_length] at HPR
      go_wp2
      exact bodyPost_ret (v := .tuple #[o, .int .i64 0]) (by simp [results, Tryz.results24, go_sem]) rfl ⟨o, rfl, by have := HO.out; rw [HPR.out] at this; exact this, HK.out⟩
end Go.Proofs.YtcffcblfmlclnaaGreatDoor
