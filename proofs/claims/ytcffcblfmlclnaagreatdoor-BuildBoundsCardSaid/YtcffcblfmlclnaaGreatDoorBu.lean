
/- The document's Unframe, where a frame stands. -/
import Derived.WalkKit
import Derived.Lib.Hide
import Derived.WalkSpells
import Derived.WalkLawsBesides
import Derived.BigQuiet
import Derived.Shelf.Abstract
import Derived.Deep.Cut
import Derived.Deep.CutRange
import Derived.Laws.IdiomStrings
import Derived.Test.YtcffcblfmlclnaaGreatDoorBf2
namespace Go.Proofs.YtcffcblfmlclnaaGreatDoor
open Go.RowKit Go.Zone Go.Shelf
attribute [local go_sem] Zone.zone Zone.stepZ Zone.fill Zone.lookFs Zone.goes Zone.goesUpon Zone.dropFs Zone.cell_gro Zone.frozen_gro Zone.size_gro Zone.lt_add Zone.drew_gro Zone.tape_gro Zone.keep_refl
attribute [local go_sem] Zone.lt_add2 Zone.lt_add3 Zone.lt_add4 Zone.lt_add5 Zone.lt_add6 Zone.lt_add7 Zone.lt_add8 Zone.lt_add9 Zone.lt_add10 Zone.lt_add11 Zone.lt_add12
theorem slB_drop {w : World} {b off c : Nat} {B : List UInt8} (h : SlB w (some ⟨b, off, none⟩) c B) (p : Nat) (hp : p ≤ B.length) : SlB w (some ⟨b, off + p, none⟩) (c - p) (B.drop p) := by
  have hc := h.cap
  have hb := h.big
  have hl := h.len
  refine ⟨by simp; omega, by omega, by simp; omega, fun i hi => ?_⟩
  simp only [List.length_drop] at hi
  obtain ⟨b', off', hA, hcell⟩ := h.at_ (p + i) (by omega)
  cases hA
  refine ⟨b, off + p, rfl, fun j u hu => ?_⟩
  have := hcell j u (by rw [List.getElem_drop] at hu; exact hu)
  rw [show off + p + i * 1 + j = off + (p + i) * 1 + j by omega]
  exact this
theorem strB {w : World} {A : Option Addr} {c : Nat} {l : List UInt8} (h : SlB w A c l) : (convert 33 9 (.slice A l.length c)).run Tryz.prog w = .ok (.string ⟨l.toArray⟩) w := by
  cases A with
  | none =>
    have hx : l = [] := by
      rcases l with _ | ⟨y, r⟩
      · rfl
      · obtain ⟨_, _, hA, _⟩ := h.at_ 0 (by simp)
        cases hA
    subst hx
    rw [run_convert_bytes_string w 33 9 5 none _ c Tryz.underlying33 Tryz.underlying5 Tryz.underlying9]
    rfl
  | some a =>
    refine run_convert_bytes_back w 33 9 5 a c l Tryz.underlying33 Tryz.underlying5 Tryz.underlying9 fun j hj => ?_
    obtain ⟨b, off, hA, _, hc⟩ := sl_b8 h j hj
    injection hA with hA
    subst hA
    unfold Addr.add
    split
    · rename_i h0; subst h0; exact hc
    · exact hc
theorem le4_get (n : Nat) (h : n < 4294967296) : ((le n 4)[0]'(by simp [le_len])).toNat + 256 * ((le n 4)[1]'(by simp [le_len])).toNat + 65536 * ((le n 4)[2]'(by simp [le_len])).toNat + 16777216 * ((le n 4)[3]'(by simp [le_len])).toNat = n := by
  simp [le, UInt8.toNat_ofNat]
  omega
set_option maxRecDepth 100000 in
set_option maxHeartbeats 1000000 in
theorem unframe_any (A : Option Addr) (c p : Nat) (B x rest : List UInt8) (w : World) (h : SlB w A c B) (hp : p ≤ B.length) (hB : B.drop p = frameB x ++ rest) (hl : x.length ≤ 1073741824) :
    Calls Tryz.prog 27 #[.slice A B.length c, .int .i64 p] w fun e w' => ∃ v, e = .returned (.tuple #[v, .int .i64 (p + x.length + 8 : Nat), .int .i64 0]) ∧ OwnB w' w.heap.size v x ∧ Keep w w' := by
  have hlen : B.length = p + x.length + 8 + rest.length := by
    have := congrArg List.length hB
    rw [List.length_drop, List.length_append, frameB_len] at this
    omega
  obtain ⟨b, off, hA⟩ : ∃ b off, A = some ⟨b, off, none⟩ := by
    obtain ⟨b, off, hA, _⟩ := h.at_ 0 (by omega)
    exact ⟨b, off, hA⟩
  subst hA
  have hs := slB_drop h p hp
  have hcap := h.cap
  have hbig := h.big
  have hbl := h.len
  have hge : p + x.length + 8 ≤ B.length := by omega
  have HX := Lib.hid (show SlB w (some ⟨b, off + p + 4, none⟩) (c - p - 4) x by
    have h4 := slB_drop hs 4 (by simp; omega)
    have := h4.cut_front x.length (by simp; omega)
    rw [show ((B.drop p).drop 4).take x.length = x by
      rw [hB, frameB, List.append_assoc, List.append_assoc, List.drop_append_of_le_length (by simp [le_len])]
      simp [le_len, List.drop_of_length_le]] at this
    exact this)
  have HF := Lib.hid (show SlB w (some ⟨b, off + p, none⟩) (c - p) (frameB x) by
    have := hs.cut_front (x.length + 8) (by simp; omega)
    rw [show (B.drop p).take (x.length + 8) = frameB x by rw [hB, ← frameB_len]; simp] at this
    exact this)
  have hd : ∀ i, (hi : i < 4) → (B.drop p)[i]'(by simp; omega) = (le x.length 4)[i]'(by simp [le_len]; omega) := fun i hi => by
    simp only [hB, frameB, List.append_assoc]
    rw [List.getElem_append_left (by simp [le_len]; omega)]
  obtain ⟨_, _, hA0, _, c0⟩ := sl_b8 hs 0 (by simp; omega)
  cases hA0
  obtain ⟨_, _, hA1, _, c1⟩ := sl_b8 hs 1 (by simp; omega)
  cases hA1
  obtain ⟨_, _, hA2, _, c2⟩ := sl_b8 hs 2 (by simp; omega)
  cases hA2
  obtain ⟨_, _, hA3, hbs, c3⟩ := sl_b8 hs 3 (by simp; omega)
  cases hA3
  rw [hd 0 (by decide)] at c0
  rw [hd 1 (by decide)] at c1
  rw [hd 2 (by decide)] at c2
  rw [hd 3 (by decide)] at c3
  have hsum := le4_get x.length (by omega)
  have u0 := ((le x.length 4)[0]'(by simp [le_len])).toNat_lt
  have u1 := ((le x.length 4)[1]'(by simp [le_len])).toNat_lt
  have u2 := ((le x.length 4)[2]'(by simp [le_len])).toNat_lt
  have u3 := ((le x.length 4)[3]'(by simp [le_len])).toNat_lt
  generalize ((le x.length 4)[0]'(by simp [le_len])).toNat = d0 at c0 hsum u0
  generalize ((le x.length 4)[1]'(by simp [le_len])).toNat = d1 at c1 hsum u1
  generalize ((le x.length 4)[2]'(by simp [le_len])).toNat = d2 at c2 hsum u2
  generalize ((le x.length 4)[3]'(by simp [le_len])).toNat = d3 at c3 hsum u3
  simp only [Nat.reducePow] at u0 u1 u2 u3
  have HSU := Lib.hid (show (d0 : Int) + 256 * (d1 : Int) + 65536 * (d2 : Int) + 16777216 * (d3 : Int) = (x.length : Int) by omega)
  replace c0 : w.cell? ⟨b, off + p, none⟩ = some (.int .u8 (d0 : Int)) := c0
  clear h hs hB hlen hd hsum
  have hbx : B.length - p ≤ c - p := by omega
  have hb0 : 0 < B.length - p := by omega
  have hb1 : 1 < B.length - p := by omega
  have hb2 : 2 < B.length - p := by omega
  have hb3 : 3 < B.length - p := by omega
  go_enter Tryz.func27, Tryz.ntmps27
  go_upto_region 6 with fail
  go_region
  rw [HSU.out]
  clear c0 c1 c2 c3
  have hcp4 : ¬ c - p = 4 := by omega
  have e4 : 4 + x.length - 4 = x.length := by omega
  go_wp2_with (at_builtin; refine Zone.hold ?_)
  refine Zone.unhold ?_
  rw [e4]
  have HE : OwnB (w.alloc (.cells #[] 5)).drew w.heap.size (.slice (some ⟨w.heap.size, 0, none⟩) 0 0) ([] : List UInt8) :=
    (own_empty (w.alloc (.cells #[] 5)) w.heap.size 5 1 b8 w.heap.size (Nat.le_refl _) (heap_alloc_new _ _)).keep (Keep.drew (Keep.refl _))
  refine wpList_app elt_u8 b8_len b8_one rfl (.tmp 53) (.tmp 57) rfl (ys := x) HE rfl rfl (HX.out.keep (by repeat (first | exact Keep.refl _ | apply Keep.alloc | apply Keep.gro | apply Keep.drew | apply Keep.drewN))) (by simp; omega) (by simp) ?_
  intro v2 w2 hown2 hg2 _
  have ⟨a1, a2, _⟩ := HE.after (w := w) hg2 (by repeat (first | exact Keep.refl _ | apply Keep.alloc | apply Keep.gro | apply Keep.drew | apply Keep.drewN)) (Nat.le_refl _)
  rw [List.nil_append] at hown2
  obtain ⟨L, A2, c2, rfl, HS2, HO2, HL2⟩ := ownB_open hown2 (by omega)
  have HA1 := Lib.hid a1
  obtain ⟨n8, hn8⟩ : ∃ n8, n8 = x.length + 8 := ⟨_, rfl⟩
  have HF2 := Lib.hid (fun W (hW : Keep w2 W) => (by have := strB ((HF.out.keep a1).keep hW); rw [frameB_len, ← hn8] at this; exact this : (convert 33 9 (.slice (some ⟨b, off + p, none⟩) n8 (c - p))).run Tryz.prog W = .ok (.string ⟨(frameB x).toArray⟩) W))
  have hwx : IntKind.i64.wrap ((x.length : Int) + 8) = (n8 : Int) := by rw [IntWalk.i64_in _ ⟨by omega, by omega⟩]; omega
  have hcc : n8 ≤ c - p := by omega
  have HN8 := Lib.hid hn8
  have HFB := Lib.hid (fun W (hW : Keep w2 W) => rframe_any A2 c2 L W (HS2.out.keep hW) (by rw [HL2.out]; exact hl))
  have hlz := frameB_len x
  have HFL := Lib.hid (show (frameB x).length ≤ 140737488355328 by rw [hlz]; omega)
  have HFE := Lib.hid (show frameB L = frameB x by rw [HL2.out])
  clear hown2 hg2 a1 a2 HE HX HF hlz hn8
  go_upto_region 12 with fail
  first | refine Zone.wp_region_all_gro (by kernel_rfl) (by kernel_rfl) ?_ | refine Zone.wp_region_all (by kernel_rfl) (by kernel_rfl) ?_
  refine Zone.wpZ_step (fun K hK => ?_)
  go_simp
  (refine hK _ _ ?_; clear hK K)
  refine Zone.wpZ_free 60 (fun u W => ∃ A c, u = .slice A (frameB x).length c ∧ SlB W A c (frameB x)) rfl (fun _ _ _ hk ⟨A, c, h1, h2⟩ => ⟨A, c, h1, h2.keep hk⟩) ?_ ?_
  · intro p
    simp only [Zone.fill, Zone.lookFs, List.filter_nil]
    go_simp
    go_at_call 64
    refine (HFB.out _ (by repeat (first | exact Keep.refl _ | apply Keep.alloc | apply Keep.gro | apply Keep.drew | apply Keep.drewN))).mono ?_
    rintro e w5 ⟨u, rfl, hown, hk⟩
    rw [HFE.out] at hown
    obtain ⟨A5, c5, hv5, hsl5⟩ := hown.sl b8_len HFL.out
    exact ⟨u, rfl, ⟨A5, c5, hv5, hsl5⟩, hk⟩
  · simp only [Zone.dropFs, List.filter_nil]
    refine Zone.wpZ_step (fun K hK => ?_)
    refine Zone.zone_free1 (.string ⟨(frameB x).toArray⟩) (d := 60) (by rfl) (fun p u hu => ?_) (hK _ _ ?_)
    · obtain ⟨A5, c5, rfl, hsl5⟩ := hu
      have hstr := strB hsl5
      go_simp
    · clear hK K
      have hss := fun q => HF2.out (w2.gro q) (below_gro w2 q)
      iterate 6
        refine Zone.wpZ_step (fun K hK => ?_)
        unfold Zone.zone Zone.stepZ
        rw [Zone.lookFs_nil (by rfl)]
        go_simp
        (refine hK _ _ ?_; clear hK K)
      clear hss
      refine Zone.wpZ_nil ?_
      intro q
      simp only [Zone.fill]
      intro u hu
      clear hu
      go_wp2
      exact bodyPost_ret (v := .tuple #[.slice A2 L.length c2, .int .i64 ((p : Int) + (x.length : Int) + 8), .int .i64 0]) (by simp [results, Tryz.results27, go_sem]) rfl
        ⟨.slice A2 L.length c2, by rw [show (((p + x.length + 8 : Nat)) : Int) = (p : Int) + (x.length : Int) + 8 by omega], by have := HO2.out.keep (below_gro w2 q); rw [HL2.out] at this ⊢; exact this, HA1.out.trans (below_gro w2 q)⟩
end Go.Proofs.YtcffcblfmlclnaaGreatDoor
