
/- segment: the sample's image, built again. -/
import Derived.WalkKit
import Derived.Lib.Hide
import Derived.WalkSpells
import Derived.WalkLawsBesides
import Derived.BigQuiet
import Derived.Shelf.Abstract
import Derived.Deep.Cut
import Derived.Deep.CutRange
import Derived.Test.YtmcaednlilhnoaaGreatDoorSi
namespace Go.Proofs.YtmcaednlilhnoaaGreatDoor
open Go.RowKit Go.Zone Go.Shelf
attribute [local go_sem] Zone.zone Zone.stepZ Zone.fill Zone.lookFs Zone.goes Zone.goesUpon Zone.dropFs Zone.cell_gro Zone.frozen_gro Zone.size_gro Zone.lt_add Zone.drew_gro Zone.tape_gro Zone.keep_refl
attribute [local go_sem] Zone.lt_add2 Zone.lt_add3 Zone.lt_add4 Zone.lt_add5 Zone.lt_add6 Zone.lt_add7 Zone.lt_add8 Zone.lt_add9 Zone.lt_add10 Zone.lt_add11 Zone.lt_add12
theorem own_own_ne {α β : Type} {w : World} {base base' k k' : Nat} {e e' : TypeId} {enc : α → List Value} {enc' : β → List Value} {v v' : Value} {xs : List α} {ys : List β} (h : Zone.Own w base e k enc v xs) (h' : Zone.Own w base' e' k' enc' v' ys) (ht : e ≠ e') (g : Nat) (hg : v.ownBlock = some g) : v'.ownBlock ≠ some g := by
  intro hg'
  rcases h.2 with ⟨rfl, _⟩ | ⟨g1, cap, cur, rfl, _, h1, _⟩
  · cases hg
  rcases h'.2 with ⟨rfl, _⟩ | ⟨g2, cap2, cur2, rfl, _, h2, _⟩
  · cases hg'
  have e1 : g1 = g := by simpa [Value.ownBlock] using hg
  have e2 : g2 = g := by simpa [Value.ownBlock] using hg'
  subst e1; subst e2
  rw [h1] at h2
  simp at h2
  exact ht h2.2
theorem secB_nb {a b : Sec} (h : nbS a = nbS b) : secB a = secB b := by
  obtain ⟨na, Aa, ca, ba⟩ := a
  obtain ⟨nb, Ab, cb, bb⟩ := b
  simp only [nbS, Prod.mk.injEq] at h
  obtain ⟨rfl, rfl⟩ := h
  rfl
theorem flat_nb : ∀ (S S' : List Sec), S.map nbS = S'.map nbS → S.flatMap secB = S'.flatMap secB
  | [], [], _ => rfl
  | [], b :: r, h => by simp at h
  | a :: r, [], h => by simp at h
  | a :: r, b :: r', h => by
    simp only [List.map_cons, List.cons.injEq] at h
    rw [List.flatMap_cons, List.flatMap_cons, secB_nb h.1, flat_nb r r' h.2]
theorem image_nb {S S' : List Sec} (h : S.map nbS = S'.map nbS) : imageB S = imageB S' := by
  have hl : S.length = S'.length := by simpa using congrArg List.length h
  unfold imageB
  rw [flat_nb S S' h, hl]
def S0K : List Sec := [⟨⟨#[115, 99, 104, 101, 109, 97]⟩, none, 0, schK⟩, ⟨⟨#[114, 111, 119, 115]⟩, none, 0, le 3 4⟩, ⟨⟨#[100, 105, 99, 116, 46, 48]⟩, none, 0, dK⟩, ⟨⟨#[102, 111, 114, 119, 97, 114, 100, 46, 48]⟩, none, 0, fK⟩]
theorem S0K_nb : S0K.map nbS = nbK := rfl
theorem imageK_len {S : List Sec} (h : S.map nbS = nbK) : (imageB S).length ≤ 1000000 := by
  rw [image_nb (h.trans S0K_nb.symm)]
  have e1 : (secB ⟨⟨#[115, 99, 104, 101, 109, 97]⟩, none, 0, schK⟩).length ≤ 100 := Nat.le_trans (secB_len (by decide)) (by rw [schK_len]; decide)
  have e2 : (secB ⟨⟨#[114, 111, 119, 115]⟩, none, 0, le 3 4⟩).length ≤ 100 := Nat.le_trans (secB_len (by decide)) (by decide)
  have e3 : (secB ⟨⟨#[100, 105, 99, 116, 46, 48]⟩, none, 0, dK⟩).length ≤ 100 := Nat.le_trans (secB_len (by decide)) (by rw [dK_len]; decide)
  have e4 : (secB ⟨⟨#[102, 111, 114, 119, 97, 114, 100, 46, 48]⟩, none, 0, fK⟩).length ≤ 100 := Nat.le_trans (secB_len (by decide)) (by rw [fK_len]; decide)
  simp only [imageB, S0K, List.flatMap_cons, List.flatMap_nil, List.length_append, le_len, List.length_cons, List.length_nil]
  omega
theorem bequal_any (A B : Option Addr) (c d : Nat) (xs ys : List UInt8) (w : World) (h : SlB w A c xs) (k : SlB w B d ys) (he : xs = ys) : Calls Tryz.prog 103 #[.slice A xs.length c, .slice B ys.length d] w fun e w' => e = .returned (.bool true) ∧ Keep w w' := by
  have h1 := strB h
  have h2 := strB k
  subst he
  have he : ((⟨xs.toArray⟩ : ByteArray).toList == (⟨xs.toArray⟩ : ByteArray).toList) = true := by simp
  generalize hs : (⟨xs.toArray⟩ : ByteArray) = s at h1 h2 he
  go_enter Tryz.func103, Tryz.ntmps103
  go_wp2
  go_ret
  exact ⟨rfl, (by repeat (first | exact Keep.refl _ | apply Keep.alloc | apply Keep.gro | apply Keep.drew | apply Keep.drewN))⟩
set_option maxRecDepth 100000 in
set_option maxHeartbeats 4000000 in
theorem whole_k {o s cb db fb : Nat} {lv : Value} {iA rA sA : Option Addr} {ic rc sc cc : Nat} {Ad : Option Addr} {cd : Nat} {Af : Option Addr} {cf : Nat} {A Ab : Option Addr} {c cbb : Nat} (S : List Sec) (w : World) (hS : S.map nbS = nbK)
    (hr : Row w o 114 [.pointer (some ⟨s, 0, none⟩), .slice Ab (imageB S).length cbb, lv]) (h : SegK w s cb db fb (.slice A 1 c) (.slice iA 1 ic) (.slice rA 1 rc) (.slice sA 0 sc) cc Ad cd Af cf)
    (hcol : Sl w 2 Col.cells A c [colK]) (hI : Sl w 1 flV iA ic [false]) (hR : Sl w 1 flV rA rc [false]) (hP : Sl w 1 i64V sA sc []) (hB : SlB w Ab cbb (imageB S)) :
    Calls Tryz.prog 51 #[.pointer (some ⟨o, 0, none⟩)] w fun e w' => e = .returned (.tuple #[]) ∧ Keep w w' := by
  have HROW := Lib.hid (fun i (hi : i < 3) W (hk : Keep w W) => srow_k i hi (h.keep hk))
  have hcf : CfgK ⟨-1, iA, ic, [false], rA, rc, [false], sA, sc, [], 1⟩ := ⟨rfl, .inr rfl, .inr rfl, rfl, rfl⟩
  have r0 := hr.cell 0 _ rfl
  have s6 := h.row.cell 6 _ rfl
  have HR := Lib.hid hr
  have HH := Lib.hid h
  have HCOL := Lib.hid hcol
  have HI := Lib.hid hI
  have HRR := Lib.hid hR
  have HP := Lib.hid hP
  have HB := Lib.hid hB
  have HS := Lib.hid hS
  have HCF := Lib.hid hcf
  have hob := hr.lt
  have hsb := h.row.lt
  obtain ⟨i0, hi0, i1, i2, i3⟩ := info_partsV info_row
  obtain ⟨W', hmk, ho, hk⟩ := own_made1 (P := Tryz.prog) (z := zRw) rw_f rfl Tryz.underlying77 hi0 i1 i2 3 w.heap.size w (by rw [i3]; omega) (by omega) (Nat.le_refl _)
  have hmk2 : Sem.run Tryz.prog (Instr.makeSlice 77 (.int .i64 3) (.int .i64 3)) w = Result.ok (.slice (some ⟨w.heap.size, 0, none⟩) 3 3) W' := hmk
  have HO := Lib.hid ho
  have HK := Lib.hid hk
  clear h hr hcol hI hR hP hB hS hcf ho hk i0 hi0 i1 i2 i3 hmk
  generalize hg : w.heap.size = g at HO hmk2
  have HG := Lib.hid hg
  clear hg
  go_enter Tryz.func51, Tryz.ntmps51
  go_wp2
  clear hmk2 r0 s6
  go_loopw [16] (fun i wr => ∃ (k : Nat) (L : List Rw), k ≤ 3 ∧ i = .int .i64 k ∧ Hid (L.length = k) ∧ Hid (L.map (·.vs) = rowsK.take k) ∧ Hid (OwnR wr g (.slice (some ⟨g, 0, none⟩) 3 3) (L ++ List.replicate (3 - k) zRw)) ∧ Hid (∀ r ∈ L, Zone.Own wr g 61 3 Val.cells (.slice r.A r.vs.length r.c) r.vs) ∧ Hid (Keep w wr)) (fun i _ => 3 - (intOf i).toNat)
  case atStart => exact ⟨0, [], Nat.zero_le _, rfl, rfl, rfl, HO.out, (fun _ h => by cases h), HK.out⟩
  case round =>
    clear HO HK
    obtain ⟨k, L, hk, rfl, HLL, HLM, HO, HNW, HK⟩ := hrel
    by_cases hlt : k < 3
    · have hlt2 : (k : Int) < 3 := by omega
      have r0 := (HR.out.keep HK.out).cell 0 _ rfl
      have hob := (HR.out.keep HK.out).lt
      go_wp2_with (go_at_call 4; refine Zone.hold ?_)
      refine Zone.unhold ?_
      refine (HROW.out k hlt _ HK.out).mono ?_
      rintro e w2 ⟨A2, c2, rfl, hown, hk2⟩
      have HK2 := Lib.hid (HK.out.trans hk2)
      have HO2 := Lib.hid (Zone.Own.keep HO.out hk2)
      have HN2 := Lib.hid (fun r hr => Zone.Own.keep (HNW.out r hr) hk2)
      have HW2 := Lib.hid (own_down hown g (by have := HK.out.size; have := HG.out; omega))
      have hlen : (L ++ List.replicate (3 - k) zRw).length = 3 := by have := HLL.out; simp; omega
      obtain ⟨d0, d1, d2, d3⟩ := HO2.out.cell1 rw_f hlen.symm k (by omega)
      have HD3 := Lib.hid d3
      have ho3 := HO2.out.set1 rw_f hlen.symm k (⟨A2, c2, [rowK k]⟩ : Rw) rfl
      have hset : (L ++ List.replicate (3 - k) zRw).set k (⟨A2, c2, [rowK k]⟩ : Rw) = (L ++ [(⟨A2, c2, [rowK k]⟩ : Rw)]) ++ List.replicate (3 - (k + 1)) zRw := by
        rw [List.set_append_right _ _ (by have := HLL.out; omega), HLL.out, Nat.sub_self, show 3 - k = (3 - (k + 1)) + 1 by omega, List.replicate_succ, List.set_cons_zero, List.append_assoc]
        rfl
      rw [hset] at ho3
      have HO3 := Lib.hid ho3
      have HTK := Lib.hid (show rowsK.take (k + 1) = rowsK.take k ++ [[rowK k]] by
        match k, hlt with
        | 0, _ => rfl
        | 1, _ => rfl
        | 2, _ => rfl)
      generalize (L ++ List.replicate (3 - k) zRw)[k]'(by omega) = y at d0
      clear hk2 hown hset ho3 hlen d3 HO HNW HK r0 hob
      go_wp2
      go_roundw
      case rel =>
        refine ⟨k + 1, L ++ [⟨A2, c2, [rowK k]⟩], by omega, by go_num, ?_, ?_, HO3, ?_, ?_⟩
        · show _ = _
          rw [List.length_append, HLL.out]; rfl
        · show _ = _
          rw [List.map_append, HLM.out, HTK.out]; rfl
        · intro r hr
          rw [List.mem_append, List.mem_singleton] at hr
          rcases hr with hr | rfl
          · exact own_setne (HN2.out r hr) (own_own_ne HO2.out (HN2.out r hr) (by decide) g rfl)
          · exact own_setne HW2.out (own_own_ne HO2.out HW2.out (by decide) g rfl)
        · exact HK2.out.setCell (by rw [HG.out]; exact Nat.le_refl _) _
      case measure => simp [intOf]; omega
    · have hkl : k = 3 := by omega
      subst hkl
      rw [Nat.sub_self, List.replicate_zero, List.append_nil] at HO
      have HLR := Lib.hid (show L.map (·.vs) = rowsK from HLM.out)
      have r0 := (HR.out.keep HK.out).cell 0 _ rfl
      have r1 := (HR.out.keep HK.out).cell 1 _ rfl
      have hob := (HR.out.keep HK.out).lt
      have hrow := HH.out.row.keep HK.out
      have s0 := hrow.cell 0 _ rfl
      have s1 := hrow.cell 1 _ rfl
      have s2 := hrow.cell 2 _ rfl
      have s3 := hrow.cell 3 _ rfl
      have s4 := hrow.cell 4 _ rfl
      have s5 := hrow.cell 5 _ rfl
      have hsb2 := hrow.lt
      clear hrow
      go_upto_region 6 with fail
      have hbuild := fun W (hk : Keep wr W) => build_plain colK ⟨-1, iA, ic, [false], rA, rc, [false], sA, sc, [], 1⟩ A (some ⟨g, 0, none⟩) c 3 L W (HCOL.out.keep (HK.out.trans hk)) HCF.out.fits rfl rfl rfl rfl rfl
        ⟨HI.out.keep (HK.out.trans hk), HRR.out.keep (HK.out.trans hk), HP.out.keep (HK.out.trans hk)⟩
        (fun bb off e => by
          obtain ⟨b', off', e', hc⟩ := (HI.out.keep (HK.out.trans hk)).at_ 0 (by decide)
          simp only at e
          rw [e] at e'
          cases e'
          exact World.block_lt_of_cell? _ _ (hc 0 _ rfl))
        (fun bb off e => by
          obtain ⟨b', off', e', hc⟩ := (HRR.out.keep (HK.out.trans hk)).at_ 0 (by decide)
          simp only at e
          rw [e] at e'
          cases e'
          exact World.block_lt_of_cell? _ _ (hc 0 _ rfl))
        (by
          obtain ⟨A9, c9, hv9, hs9⟩ := (Zone.Own.keep HO.out hk).sl (fun _ => rfl) (by have := HLL.out; omega)
          injection hv9 with e1 _ e3
          subst e1; subst e3
          exact hs9)
        (fun r hr => by
          have hr3 : r.vs.length ≤ 140737488355328 := by
            have : r.vs ∈ rowsK := by rw [← HLR.out]; exact List.mem_map_of_mem hr
            have h1 := (by decide : ∀ x ∈ [1, 1, 1], x = 1)
            simp only [rowsK, List.mem_cons, List.not_mem_nil, or_false] at this
            rcases this with e | e | e <;> rw [e] <;> decide
          obtain ⟨A9, c9, hv9, hs9⟩ := (Zone.Own.keep (HNW.out r hr) hk).sl val_len hr3
          injection hv9 with e1 _ e3
          subst e1; subst e3
          exact hs9)
        (by have := HLL.out; omega)
        (fun r hr => by
          have : r.vs ∈ rowsK := by rw [← HLR.out]; exact List.mem_map_of_mem hr
          simp only [rowsK, List.mem_cons, List.not_mem_nil, or_false] at this
          rcases this with e | e | e <;> rw [e] <;> decide)
        (by rw [HLR.out]; exact terr_k) (by rw [HLR.out]; exact derr_k)
        (fun S' h' => secs_k S' (by rw [h', HLR.out, plain_k HCF.out]))
      rw [HLL.out, HLR.out, plain_k HCF.out] at hbuild
      have HBD := Lib.hid hbuild
      clear hbuild
      go_cut [4, 5] from 32 to 50 (fun s4 s5 wx => s5 = .int .i64 0 ∧ ∃ A3 c3, s4 = .slice A3 (imageB S).length c3 ∧ Hid (SlB wx A3 c3 (imageB S)) ∧ Hid (Keep w wx))
      case first =>
        --DEVCUT
        go_region_with (go_at_call 27; refine (HBD.out _ (by repeat (first | exact Keep.refl _ | apply Keep.alloc | apply Keep.gro | apply Keep.drew | apply Keep.drewN))).mono ?_; rintro e w5 ⟨v5, S5, rfl, hnb5, hsp5, ho5, hk5⟩; have himg := image_nb (hnb5.trans HS.out.symm); rw [himg] at ho5; obtain ⟨A5, c5, rfl, hsl5⟩ := ho5.sl b8_len (by have := imageK_len HS.out; omega); have HK5 := Lib.hid (HK.out.trans (Keep.trans (show Keep wr _ from (by repeat (first | exact Keep.refl _ | apply Keep.alloc | apply Keep.gro | apply Keep.drew | apply Keep.drewN))) hk5)); have HS5 := Lib.hid hsl5; clear hnb5 hsp5 ho5 hk5 himg hsl5)
        all_goals
          go_wp2_with fail
          go_meet
          exact ⟨rfl, A5, c5, rfl, HS5.out.keep (by repeat (first | exact Keep.refl _ | apply Keep.alloc | apply Keep.gro | apply Keep.drew | apply Keep.drewN)), HK5.out.trans (by repeat (first | exact Keep.refl _ | apply Keep.alloc | apply Keep.gro | apply Keep.drew | apply Keep.drewN))⟩
        --DEVEND
      case rest =>
        rename World => w6
        obtain ⟨rfl, A3, c3, rfl, HS3, HK6⟩ := hcut
        have q1 := (HR.out.keep HK6.out).cell 1 _ rfl
        have hob6 := (HR.out.keep HK6.out).lt
        have HEQ := Lib.hid (fun W (hk : Keep w6 W) => bequal_any A3 Ab c3 cbb (imageB S) (imageB S) W (HS3.out.keep hk) (HB.out.keep (HK6.out.trans hk)) rfl)
        have HSO := Lib.hid so_ok
        clear r0 r1 s0 s1 s2 s3 s4 s5 HBD
        go_wp2_with (first | (go_at_call 103; refine (HEQ.out _ (by repeat (first | exact Keep.refl _ | apply Keep.alloc | apply Keep.gro | apply Keep.drew | apply Keep.drewN))).mono ?_; rintro e w' ⟨rfl, hk⟩; (first | obtain ⟨p, rfl⟩ := Zone.gro_of_gro _ _ hk | obtain ⟨p, rfl⟩ := Zone.gro_of_below _ hk); clear hk) | (go_at_call 50; refine (HSO.out _).mono ?_; rintro e w' ⟨rfl, rfl⟩))
        go_end0
        exact ⟨rfl, HK6.out.trans (by repeat (first | exact Keep.refl _ | apply Keep.alloc | apply Keep.gro | apply Keep.drew | apply Keep.drewN))⟩
end Go.Proofs.YtmcaednlilhnoaaGreatDoor
