
/- The contract of dict.Read. -/
import Derived.WalkKit
import Derived.Lib.Hide
import Derived.WalkSpells
import Derived.WalkLawsBesides
import Derived.BigQuiet
import Derived.Shelf.Abstract
import Derived.Test.YtmcaednlilhnoaaGreatDoorVRead2
import Derived.Test.YtmcaednlilhnoaaGreatDoorShort
import Derived.Test.YtmcaednlilhnoaaGreatDoorJg
import Derived.Test.YtmcaednlilhnoaaGreatDoorJb
namespace Go.Proofs.YtmcaednlilhnoaaGreatDoor
open Go.RowKit Go.Zone Go.Shelf
attribute [local go_sem] Zone.zone Zone.stepZ Zone.fill Zone.lookFs Zone.goes Zone.goesUpon Zone.dropFs Zone.cell_gro Zone.frozen_gro Zone.size_gro Zone.lt_add Zone.drew_gro Zone.tape_gro Zone.keep_refl
attribute [local go_sem] Zone.calm_normal
/-- n values read from a place on, rising: the place behind them and they, behind those that were there -/
def loopD (kind : Int) (bs : List UInt8) : Nat → Nat → List Val → Option (List Val × Nat)
  | 0, a, xs => some (xs, a)
  | n + 1, a, xs => if (readV kind bs a).2.1 = false then none else if xs ≠ [] ∧ 0 ≤ cmpV (xs.getLast?.getD default) (readV kind bs a).1 then none else loopD kind bs n (readV kind bs a).2.2.1 (xs ++ [(readV kind bs a).1])
def hdKind (bs : List UInt8) : Int := ((unle (someR bs 0 false 1).1 (someR bs 0 false 1).1.length : Nat) % 256 : Int)
def hdN (bs : List UInt8) (a : Nat) (bad : Bool) : Int := ((unle (someR bs a bad 4).1 (someR bs a bad 4).1.length : Nat) % 4294967296 : Int)
/-- a dictionary read: kind, values, the place behind -/
def readD (bs : List UInt8) : Option (Int × List Val × Nat) :=
  if bs.length < 5 then none else if hdKind bs ≠ 1 ∧ hdKind bs ≠ 2 then none else if 16777216 < hdN bs 1 false then none else
  (loopD (hdKind bs) bs (hdN bs 1 false).toNat 5 []).map fun r => (hdKind bs, r.1, r.2)
def ReadRes (w : World) (v : Value) (e : Int) (bs : List UInt8) : Prop :=
  (readD bs = none → e ≠ 0) ∧ ∀ k xs a, readD bs = some (k, xs, a) → (a < bs.length → e = 5) ∧ (¬ a < bs.length → e = 0 ∧ ∃ b A c, v = .pointer (some ⟨b, 0, none⟩) ∧ DictAt w b k A c xs)
theorem res_none {w : World} {v : Value} {e : Int} {bs : List UInt8} (h : readD bs = none) (he : e ≠ 0) : ReadRes w v e bs := ⟨fun _ => he, fun _ _ _ h' => by rw [h] at h'; cases h'⟩
theorem res_left {w : World} {v : Value} {bs : List UInt8} {k : Int} {xs : List Val} {a : Nat} (h : readD bs = some (k, xs, a)) (ha : a < bs.length) : ReadRes w v 5 bs := by
  refine ⟨fun h' => ?_, fun _ _ _ h' => ?_⟩
  · rw [h] at h'; cases h'
  · rw [h] at h'; cases h'
    exact ⟨fun _ => rfl, fun hh => absurd ha hh⟩
theorem res_ok {w : World} {b c : Nat} {A : Option Addr} {bs : List UInt8} {k : Int} {xs : List Val} {a : Nat} (h : readD bs = some (k, xs, a)) (ha : ¬ a < bs.length) (hd : DictAt w b k A c xs) : ReadRes w (.pointer (some ⟨b, 0, none⟩)) 0 bs := by
  refine ⟨fun h' => ?_, fun _ _ _ h' => ?_⟩
  · rw [h] at h'; cases h'
  · rw [h] at h'; cases h'
    exact ⟨fun hh => absurd hh ha, fun _ => ⟨rfl, _, _, _, rfl, hd⟩⟩
/-- what was read lies in memory from a block on -/
def NewD (base : Nat) (v : Value) (W : World) : Prop := ∀ b, v = .pointer (some ⟨b, 0, none⟩) → base ≤ b ∧ ∀ g off n c, W.cell? ⟨b, 1, none⟩ = some (.slice (some ⟨g, off, none⟩) n c) → base ≤ g
theorem newD_nil {base : Nat} {W : World} : NewD base (.pointer none) W := fun b e => by cases e
theorem newD_at {base b n c : Nat} {A : Option Addr} {W : World} (hb : base ≤ b) (hc : W.cell? ⟨b, 1, none⟩ = some (.slice A n c)) (hA : ∀ g off, A = some ⟨g, off, none⟩ → base ≤ g) : NewD base (.pointer (some ⟨b, 0, none⟩)) W := fun b' e => by
  cases e
  refine ⟨hb, fun g off n' c' h => ?_⟩
  rw [hc] at h
  cases h
  exact hA _ _ rfl
theorem readV_ok (kd : Int) (bs : List UInt8) (a : Nat) : (readV kd bs a).2.1 = true → (readV kd bs a).2.2.2 = false := by
  unfold readV
  (repeat' split) <;> simp
theorem vread_any (kd : Int) (hk : (kd == 1 || kd == 2) = true) {R c at_ : Nat} {A : Option Addr} {bs : List UInt8} (w : World) (h : Rd w R A c bs at_ false) :
    Calls Tryz.prog 158 #[.pointer (some ⟨R, 0, none⟩), .int .u8 kd] w fun e w' => e = .returned (.tuple #[(readV kd bs at_).1.v, .bool (readV kd bs at_).2.1]) ∧
    Rd w' R A c bs (readV kd bs at_).2.2.1 (readV kd bs at_).2.2.2 ∧ w.grownBy w' (some R) := by
  simp only [Bool.or_eq_true, beq_iff_eq] at hk
  rcases hk with rfl | rfl
  · exact vread_int w h
  · exact vread_text w h
set_option maxRecDepth 100000 in
set_option maxHeartbeats 2000000 in
theorem read_new (A : Option Addr) (c : Nat) (bs : List UInt8) (w : World) (h : SlB w A c bs) (hl : bs.length ≤ 1000000) :
    Calls Tryz.prog 94 #[.slice A bs.length c] w fun e w' => ∃ v err, e = .returned (.tuple #[v, .int .i64 err]) ∧ ReadRes w' v err bs ∧ NewD w.heap.size v w' ∧ Keep w w' := by
  have HNEW := Lib.hid (new_any A c bs w h)
  have HS := Lib.hid h
  clear h
  go_enter Tryz.func94, Tryz.ntmps94
  go_wp2_with (go_at_call 91; refine Zone.hold ?_)
  refine Zone.unhold ?_
  refine HNEW.out.mono ?_
  rintro e w1 ⟨R, A1, c1, rfl, hR, hrd, hk1⟩
  have HK1 := Lib.hid hk1
  have HRD1 := Lib.hid hrd
  clear hk1 hrd HNEW
  go_wp2_with (go_at_call 157; refine Zone.hold ?_)
  refine Zone.unhold ?_
  refine (u8_any _ HRD1.out).mono ?_
  rintro e w2 ⟨rfl, hrd, hg⟩
  have HG2 := Lib.hid hg
  have hz1 := HK1.out.size
  have hz2 := HG2.out.size
  clear hg
  by_cases h0 : bs.length < 1
  · have hs1 : someR bs 0 false 1 = ([], 0, true) := by unfold someR; rw [if_neg (by simp), if_neg (by omega)]
    have hs4 : someR bs 0 true 4 = ([], 0, true) := rfl
    have HN := Lib.hid (show readD bs = none by unfold readD; rw [if_pos (by omega)])
    rw [hs1] at hrd ⊢
    simp only [List.length_nil, unle] at hrd ⊢
    have HRD2 := Lib.hid hrd
    clear hrd hs1
    go_wp2_with (first | (go_at_call 150; refine (bad_any _ HRD2.out).mono ?_; rintro e w' ⟨rfl, rfl⟩) | (go_at_call 92; refine Zone.hold ?_))
    refine Zone.unhold ?_
    refine (u32_any _ HRD2.out).mono ?_
    rw [hs4]
    rintro e w3 ⟨rfl, hrd3, hg3⟩
    have HRD3 := Lib.hid hrd3
    have HK3 := Lib.hid (Keep.grown (Keep.grown HK1.out HG2.out (fun k e => by cases e; exact hR)) hg3 (fun k e => by cases e; exact hR))
    clear hrd3 hg3 hs4
    go_wp2_with (go_at_call 150; refine (bad_any _ HRD3.out).mono ?_; rintro e w' ⟨rfl, rfl⟩)
    go_ret2
    exact ⟨_, _, rfl, ⟨fun _ => by decide, fun k xs a e => by rw [HN.out] at e; cases e⟩, newD_nil, HK3.out⟩
  · have hs1 : (someR bs 0 false 1).2 = (1, false) := by unfold someR; rw [if_neg (by simp), if_pos (by omega)]
    rw [show ((unle (someR bs 0 false 1).1 (someR bs 0 false 1).1.length : Nat) % 256 : Int) = hdKind bs from rfl]
    rw [hs1] at hrd
    simp only at hrd
    have HRD2 := Lib.hid hrd
    clear hrd hs1
    have hik := fun W => isKind_any (hdKind bs) W
    cases hkk : (hdKind bs == 1 || hdKind bs == 2)
    · rw [hkk] at hik
      have HN := Lib.hid (show readD bs = none by
        unfold readD
        split
        · rfl
        · rw [if_pos (by simpa using hkk)])
      have HIK := Lib.hid hik
      have HK2 := Lib.hid (Keep.grown HK1.out HG2.out (fun k e => by cases e; exact hR))
      clear hik hkk
      generalize hdKind bs = kd at *
      go_wp2_with (first | (go_at_call 150; refine (bad_any _ HRD2.out).mono ?_; rintro e w' ⟨rfl, rfl⟩) | (go_at_call 117; refine (HIK.out _).mono ?_; rintro e w' ⟨rfl, rfl⟩))
      go_ret2
      exact ⟨_, _, rfl, ⟨fun _ => by decide, fun k xs a e => by rw [HN.out] at e; cases e⟩, newD_nil, HK2.out⟩
    · rw [hkk] at hik
      have HIK := Lib.hid hik
      have HKK := Lib.hid hkk
      clear hik hkk
      go_wp2_with (first | (go_at_call 150; refine (bad_any _ HRD2.out).mono ?_; rintro e w' ⟨rfl, rfl⟩) | (go_at_call 117; refine (HIK.out _).mono ?_; rintro e w' ⟨rfl, rfl⟩) | (go_at_call 92; refine Zone.hold ?_))
      refine Zone.unhold ?_
      refine (u32_any _ HRD2.out).mono ?_
      rw [show ((unle (someR bs 1 false 4).1 (someR bs 1 false 4).1.length : Nat) % 4294967296 : Int) = hdN bs 1 false from rfl]
      rintro e w3 ⟨rfl, hrd3, hg3⟩
      have HK3 := Lib.hid (Keep.grown (Keep.grown HK1.out HG2.out (fun k e => by cases e; exact hR)) hg3 (fun k e => by cases e; exact hR))
      clear hg3
      by_cases h5 : bs.length < 5
      · have HN := Lib.hid (show readD bs = none by unfold readD; rw [if_pos h5])
        have hs4 : (someR bs 1 false 4).2 = (1, true) := by unfold someR; rw [if_neg (by simp), if_neg (by omega)]
        rw [hs4] at hrd3
        simp only at hrd3
        have HRD3 := Lib.hid hrd3
        clear hrd3 hs4
        generalize hdN bs 1 false = nn at *
        go_wp2_with (go_at_call 150; refine (bad_any _ HRD3.out).mono ?_; rintro e w' ⟨rfl, rfl⟩)
        go_ret2
        exact ⟨_, _, rfl, ⟨fun _ => by decide, fun k xs a e => by rw [HN.out] at e; cases e⟩, newD_nil, HK3.out⟩
      · have hs4 : (someR bs 1 false 4).2 = (5, false) := by unfold someR; rw [if_neg (by simp), if_pos (by omega)]
        rw [hs4] at hrd3
        simp only at hrd3
        have HRD3 := Lib.hid hrd3
        clear hrd3 hs4
        obtain ⟨nn, hnn⟩ : ∃ nn : Nat, hdN bs 1 false = nn := ⟨(hdN bs 1 false).toNat, by unfold hdN; omega⟩
        have hnlt : (nn : Int) < 4294967296 := by rw [← hnn]; unfold hdN; omega
        rw [hnn]
        have HNN := Lib.hid hnn
        clear hnn
        have hwn : IntKind.i64.wrap (nn : Int) = (nn : Int) := IntWalk.i64_in _ ⟨by omega, by omega⟩
        by_cases hbig : 16777216 < (nn : Int)
        · have HN := Lib.hid (show readD bs = none by
            unfold readD
            rw [if_neg h5]
            split
            · rfl
            · rw [HNN.out, if_pos hbig])
          go_wp2_with (go_at_call 150; refine (bad_any _ HRD3.out).mono ?_; rintro e w' ⟨rfl, rfl⟩)
          go_ret2
          exact ⟨_, _, rfl, ⟨fun _ => by decide, fun k xs a e => by rw [HN.out] at e; cases e⟩, newD_nil, HK3.out⟩
        · have HRDD := Lib.hid (show readD bs = (loopD (hdKind bs) bs nn 5 []).map fun r => (hdKind bs, r.1, r.2) by
            unfold readD
            have hk := HKK.out
            rw [if_neg h5, if_neg (by simp only [Bool.or_eq_true, beq_iff_eq] at hk; omega), HNN.out, if_neg hbig]
            rfl)
          generalize hdKind bs = kd at *
          have hb2 : ((nn : Int) ≤ 16777216) := by omega
          clear hbig hnlt
          go_wp2_with (go_at_call 150; refine (bad_any _ HRD3.out).mono ?_; rintro e w' ⟨rfl, rfl⟩)
          have hz3 := HK3.out.size
          have hRlt := HRD3.out.lt
          have HWF := Lib.hid hwn
          clear hwn
          go_loopw [36, 8, 9, 10] (fun vi _ _ _ wr => ∃ (i a : Nat) (xs : List Val) (o : Value), i ≤ nn ∧ vi = .int .i64 i ∧ Hid (loopD kd bs (nn - i) a xs = loopD kd bs nn 5 []) ∧ Hid (Rd wr R A1 c1 bs a false) ∧ Hid (Zone.Own wr (w3.heap.size + 1) 61 3 Val.cells o xs) ∧ wr.cell? ⟨w3.heap.size, 0, none⟩ = some (.int .u8 kd) ∧ wr.cell? ⟨w3.heap.size, 1, none⟩ = some o ∧
            wr.frozen? ⟨w3.heap.size, 1, none⟩ = false ∧ w3.heap.size < wr.heap.size ∧ Hid (Keep w wr) ∧ Hid (xs.length = i)) (fun vi _ _ _ _ => nn - (intOf vi).toNat)
          case atStart => exact ⟨0, 5, [], .slice none 0 0, by omega, rfl, rfl, HRD3.out.keep (Keep.alloc (Keep.refl _) _), Own.nil_ _ _ _ _ _, by simp [go_sem], by simp [go_sem], by simp [go_sem], by simp, Keep.alloc HK3.out _, rfl⟩
          case round =>
            obtain ⟨i, a, xs, o, hi, rfl, HLP, HRD, HOWN, d0, d1, df, hdz, HKW, HXL⟩ := hrel
            by_cases hlt : i < nn
            · obtain ⟨⟨⟨vk, vn, vs⟩, ok, a', bad'⟩, hrv⟩ : ∃ r, readV kd bs a = r := ⟨_, rfl⟩
              have hvr := vread_any kd HKK.out wr HRD.out
              rw [hrv] at hvr
              have HVR := Lib.hid hvr
              have HRV := Lib.hid hrv
              have HLS := Lib.hid (show loopD kd bs (nn - i) a xs = if ok = false then none else if xs ≠ [] ∧ 0 ≤ cmpV (xs.getLast?.getD default) ⟨vk, vn, vs⟩ then none else loopD kd bs (nn - (i + 1)) a' (xs ++ [⟨vk, vn, vs⟩]) by
                rw [show nn - i = (nn - (i + 1)) + 1 by omega]
                simp only [loopD, hrv])
              clear hvr hrv
              go_wp2_with (first | (go_at_call 151; refine (at_any _ HRD.out).mono ?_; rintro e w' ⟨rfl, rfl⟩) | (go_at_call 158; refine Zone.hold ?_))
              refine Zone.unhold ?_
              refine HVR.out.mono ?_
              rintro e w2 ⟨rfl, hrd2, hg2⟩
              have hale := HRD.out.le
              have hRne : ∀ g, w3.heap.size ≤ g → some g ≠ some R := fun g hg e => by injection e with e; omega
              have e0 := hg2.cell d0 (hRne _ (Nat.le_refl _))
              have e1 := hg2.cell d1 (hRne _ (Nat.le_refl _))
              have ef : w2.frozen? ⟨w3.heap.size, 1, none⟩ = false := by
                have hb := hg2.block w3.heap.size hdz (hRne _ (Nat.le_refl _))
                unfold World.frozen? at df ⊢
                rw [hb]
                exact df
              have HOWN2 := Lib.hid (HOWN.out.grown hg2 fun j hj hv => by have := (HOWN.out.lt j hv).1; cases hj; omega)
              have HK2 := Lib.hid (HKW.out.grown hg2 fun k e => by cases e; exact hR)
              have hz2 := hg2.size
              have hw32 : w3.heap.size < w2.heap.size := by omega
              have HRD2 := Lib.hid hrd2
              clear hrd2 hg2 d0 d1 df HVR HRD HOWN
              cases ok
              · have HN := Lib.hid (show readD bs = none by
                  rw [HRDD.out, ← HLP.out, HLS.out]
                  rfl)
                cases bad'
                · go_wp2_with (go_at_call 150; refine (bad_any _ (HRD2.out.keep (by repeat (first | exact Keep.refl _ | apply Keep.alloc | apply Keep.gro | apply Keep.drew | apply Keep.drewN)))).mono ?_; rintro e w' ⟨rfl, rfl⟩)
                  go_ret2
                  exact ⟨_, _, rfl, res_none HN.out (by decide), newD_nil, HK2.out.trans (by repeat (first | exact Keep.refl _ | apply Keep.alloc | apply Keep.gro | apply Keep.drew | apply Keep.drewN))⟩
                · have hkk := HKK.out
                  simp only [Bool.or_eq_true, beq_iff_eq] at hkk
                  rcases hkk with rfl | rfl
                  · go_wp2_with (first | (go_at_call 150; refine (bad_any _ (HRD2.out.keep (by repeat (first | exact Keep.refl _ | apply Keep.alloc | apply Keep.gro | apply Keep.drew | apply Keep.drewN)))).mono ?_; rintro e w' ⟨rfl, rfl⟩) | (go_at_call 151; refine (at_any _ (HRD2.out.keep (by repeat (first | exact Keep.refl _ | apply Keep.alloc | apply Keep.gro | apply Keep.drew | apply Keep.drewN)))).mono ?_; rintro e w' ⟨rfl, rfl⟩))
                    go_ret2
                    exact ⟨_, _, rfl, res_none HN.out (by decide), newD_nil, HK2.out.trans (by repeat (first | exact Keep.refl _ | apply Keep.alloc | apply Keep.gro | apply Keep.drew | apply Keep.drewN))⟩
                  · by_cases haa : a < a'
                    · go_wp2_with (first | (go_at_call 150; refine (bad_any _ (HRD2.out.keep (by repeat (first | exact Keep.refl _ | apply Keep.alloc | apply Keep.gro | apply Keep.drew | apply Keep.drewN)))).mono ?_; rintro e w' ⟨rfl, rfl⟩) | (go_at_call 151; refine (at_any _ (HRD2.out.keep (by repeat (first | exact Keep.refl _ | apply Keep.alloc | apply Keep.gro | apply Keep.drew | apply Keep.drewN)))).mono ?_; rintro e w' ⟨rfl, rfl⟩))
                      go_ret2
                      exact ⟨_, _, rfl, res_none HN.out (by decide), newD_nil, HK2.out.trans (by repeat (first | exact Keep.refl _ | apply Keep.alloc | apply Keep.gro | apply Keep.drew | apply Keep.drewN))⟩
                    · have hle2 : a ≤ bs.length := by have := hale; omega
                      have hcap := HS.out.cap
                      rcases A with _ | ad
                      · have hb0 : bs = [] := by
                          rcases bs with _ | ⟨y, r⟩
                          · rfl
                          · obtain ⟨_, _, hA, _⟩ := HS.out.at_ 0 (by simp)
                            cases hA
                        subst hb0
                        simp at h5
                      · have HSH := Lib.hid (fun W (hk : Keep w W) => short_any _ _ _ W (sub_sl (HS.out.keep hk) a (bs.length - a) (by omega)))
                        rw [show ((bs.drop a).take (bs.length - a)).length = bs.length - a by simp] at HSH
                        by_cases hca : c = a
                        · rw [if_pos hca] at HSH
                          go_wp2_with (first | (go_at_call 150; refine (bad_any _ (HRD2.out.keep (by repeat (first | exact Keep.refl _ | apply Keep.alloc | apply Keep.gro | apply Keep.drew | apply Keep.drewN)))).mono ?_; rintro e w' ⟨rfl, rfl⟩) | (go_at_call 151; refine (at_any _ (HRD2.out.keep (by repeat (first | exact Keep.refl _ | apply Keep.alloc | apply Keep.gro | apply Keep.drew | apply Keep.drewN)))).mono ?_; rintro e w' ⟨rfl, rfl⟩) | (go_at_call 159; refine Zone.hold ?_))
                          have HSH2 := Lib.hid (show ∀ W, Keep w W → Calls Tryz.prog 159 #[.slice (some ad) (bs.length - a) 0] W fun e w' => Hid (∃ b, e = .returned (.bool b)) ∧ W = w' from by have := HSH.out; rwa [hca, Nat.sub_self] at this)
                          refine Zone.unhold ?_
                          refine (HSH2.out _ (HK2.out.trans (by repeat (first | exact Keep.refl _ | apply Keep.alloc | apply Keep.gro | apply Keep.drew | apply Keep.drewN)))).mono ?_
                          rintro e w' ⟨hb, rfl⟩
                          obtain ⟨b, rfl⟩ := hb.out
                          clear hb
                          cases b
                          all_goals go_wp2
                          all_goals go_ret2
                          all_goals exact ⟨_, _, rfl, res_none HN.out (by decide), newD_nil, HK2.out.trans (by repeat (first | exact Keep.refl _ | apply Keep.alloc | apply Keep.gro | apply Keep.drew | apply Keep.drewN))⟩
                        · rw [if_neg hca] at HSH
                          go_wp2_with (first | (go_at_call 150; refine (bad_any _ (HRD2.out.keep (by repeat (first | exact Keep.refl _ | apply Keep.alloc | apply Keep.gro | apply Keep.drew | apply Keep.drewN)))).mono ?_; rintro e w' ⟨rfl, rfl⟩) | (go_at_call 151; refine (at_any _ (HRD2.out.keep (by repeat (first | exact Keep.refl _ | apply Keep.alloc | apply Keep.gro | apply Keep.drew | apply Keep.drewN)))).mono ?_; rintro e w' ⟨rfl, rfl⟩) | (go_at_call 159; refine Zone.hold ?_))
                          have HSH2 := HSH
                          refine Zone.unhold ?_
                          refine (HSH2.out _ (HK2.out.trans (by repeat (first | exact Keep.refl _ | apply Keep.alloc | apply Keep.gro | apply Keep.drew | apply Keep.drewN)))).mono ?_
                          rintro e w' ⟨hb, rfl⟩
                          obtain ⟨b, rfl⟩ := hb.out
                          clear hb
                          cases b
                          all_goals go_wp2
                          all_goals go_ret2
                          all_goals exact ⟨_, _, rfl, res_none HN.out (by decide), newD_nil, HK2.out.trans (by repeat (first | exact Keep.refl _ | apply Keep.alloc | apply Keep.gro | apply Keep.drew | apply Keep.drewN))⟩
              · have hbad : bad' = false := by
                  have := readV_ok kd bs a
                  rw [HRV.out] at this
                  exact this rfl
                subst hbad
                obtain ⟨Ax, cx, rfl, hsl⟩ := HOWN2.out.sl val_len (by have := HXL.out; omega)
                simp only [Bool.true_eq_false, if_false] at HLS
                by_cases hx : xs = []
                · have HLN := Lib.hid (show loopD kd bs (nn - (i + 1)) a' (xs ++ [⟨vk, vn, vs⟩]) = loopD kd bs nn 5 [] by
                    rw [← HLP.out, HLS.out, if_neg (by simp [hx])])
                  have hxl0 : xs.length = 0 := by rw [hx]; rfl
                  have HE1 := Lib.hid e1
                  rw [hxl0] at e1
                  clear hx
                  go_wp2
                  first | refine Zone.wp_region_all_gro (by kernel_rfl) (by kernel_rfl) ?_ | refine Zone.wp_region_all (by kernel_rfl) (by kernel_rfl) ?_
                  repeat
                    refine Zone.wpZ_step (fun K hK => ?_)
                    go_simp
                    first
                    | (refine hK _ _ ?_; clear hK K)
                    | (apply Exists.intro
                       refine ⟨fun p => ?_, hK _ _ ?_⟩
                       (fail)
                       clear hK K)
                  refine Zone.wpZ_nil ?_
                  intro p
                  simp only [Zone.fill]
                  clear e1 hxl0
                  have e1 := HE1.out
                  go_wp2
                  first | refine Zone.wp_region_m_gro 1 7 (by kernel_rfl) (by kernel_rfl) ?_ | refine Zone.wp_region_m 1 7 (by kernel_rfl) (by kernel_rfl) ?_
                  simp only [List.take_succ_cons, List.take_zero, List.drop_succ_cons, List.drop_zero]
                  refine Zone.wpI_step _ (by rfl) (fun _ => by rfl) ?_
                  refine Zone.wpI_nil ?_
                  iterate 5
                    refine Zone.wpZ_step (fun K hK => ?_)
                    go_simp
                    (refine hK _ _ ?_; clear hK K)
                  refine Zone.wpZ_free 101 (fun u W => ∃ g, u = .slice (some ⟨g, 0, none⟩) 1 1 ∧ g < W.heap.size ∧ W.cell? ⟨g, 0, none⟩ = some (.int .u8 vk) ∧ W.cell? ⟨g, 1, none⟩ = some (.int .i64 vn) ∧ W.cell? ⟨g, 2, none⟩ = some (.string vs)) rfl (fun _ W W' hk ⟨g, h1, h2, h3, h4, h5⟩ => ⟨g, h1, Nat.lt_of_lt_of_le h2 hk.size, (hk.cell (p := ⟨g, 0, none⟩) h2).trans h3, (hk.cell (p := ⟨g, 1, none⟩) h2).trans h4, (hk.cell (p := ⟨g, 2, none⟩) h2).trans h5⟩) ?_ ?_
                  · intro p
                    simp only [Zone.fill, Zone.lookFs, List.filter_nil]
                    go_simp
                    exact Keep.alloc (Keep.refl _) _
                  refine Zone.wpZ_nil ?_
                  intro q
                  simp only [Zone.fill]
                  rintro u ⟨g, rfl, hg, hg0, hg1, hg2⟩
                  have hsl1 := sl_one (enc := Val.cells) (k := 3) (c := 1) (⟨vk, vn, vs⟩ : Val) (by omega) (by omega) (val_at (⟨vk, vn, vs⟩ : Val) hg0 hg1 hg2)
                  clear hg hg0 hg1 hg2
                  have HO1 := (HOWN2.out.keep (Keep.alloc (Keep.refl _) (.cells #[.int .u8 vk, .int .i64 vn, .string vs] 61))).keep (below_gro _ q)
                  go_wp2_with (at_builtin; refine Zone.hold ?_)
                  refine Zone.unhold ?_
                  refine wpList_app elt_val val_len val_one rfl (.tmp 99) (.tmp 101) rfl (ys := [(⟨vk, vn, vs⟩ : Val)]) HO1 rfl rfl hsl1 (by have := HXL.out; simp; omega) (by simp [size_gro]; omega) ?_
                  intro v' w4 hown4 hg4 _
                  have ⟨a1, a2, a3⟩ := HO1.after (w := w) hg4 (HK2.out.trans (by repeat (first | exact Keep.refl _ | apply Keep.alloc | apply Keep.gro | apply Keep.drew | apply Keep.drewN))) (by have := HK3.out.size; omega)
                  have hkq : Keep w2 ((w2.alloc (.cells #[.int .u8 vk, .int .i64 vn, .string vs] 61)).gro q) := (Keep.alloc (Keep.refl _) _).trans (below_gro _ q)
                  have g1 := a3 ⟨w3.heap.size, 1, none⟩ _ (by simp) ((hkq.cell (p := ⟨w3.heap.size, 1, none⟩) hw32).trans e1)
                  have g0 := a3 ⟨w3.heap.size, 0, none⟩ _ (by simp) ((hkq.cell (p := ⟨w3.heap.size, 0, none⟩) hw32).trans e0)
                  have HRW := Lib.hid hown4
                  have hrow : ∀ k, (Value.slice Ax xs.length cx).ownBlock = some k → w3.heap.size + 1 ≤ k := fun k hk => (HO1.lt k hk).1
                  have gf : w4.frozen? ⟨w3.heap.size, 1, none⟩ = false := by
                    have hb := hg4.block w3.heap.size (by simp [size_gro]; omega) (fun e => by have := hrow _ e.symm; omega)
                    have hb3 := (hkq.frozen (p := ⟨w3.heap.size, 1, none⟩) hw32).trans ef
                    unfold World.frozen? at hb3 ⊢
                    rw [hb]
                    exact hb3
                  have HBEL := Lib.hid (Bel.setCell (Bel.grown (Bel.gro (Bel.alloc (Bel.refl (n := w3.heap.size) (W0 := w2) (by omega)) _) q) hg4 (fun k e => by have := hrow k e; omega)) (a := ⟨w3.heap.size, 1, none⟩) (Nat.le_refl _) v')
                  have HA1 := Lib.hid a1
                  have hz4 : w3.heap.size < w4.heap.size := by simp [size_gro] at a2; omega
                  clear a1 a2 a3 hown4 hg4 hsl1 HO1 hkq hrow
                  obtain ⟨A4, c4, hv4, _⟩ := HRW.out.sl val_len (by simp; have := HXL.out; omega)
                  obtain ⟨n4, hn4⟩ : ∃ n, (xs ++ [(⟨vk, vn, vs⟩ : Val)]).length = n := ⟨_, rfl⟩
                  rw [hn4] at hv4
                  subst hv4
                  clear hn4
                  go_wp2
                  rw [Zone.calm_normal]
                  go_wp2
                  go_roundw
                  case rel => exact ⟨i + 1, a', xs ++ [⟨vk, vn, vs⟩], _, by omega, by go_num, HLN, HRD3.out.later HRD2.out HBEL.out, Lib.hid (HRW.out.grown (grownBy_set w4 ⟨w3.heap.size, 1, none⟩ (.slice A4 n4 c4)) (fun j hj hv => by cases hj; have h1 : w3.heap.size + 1 ≤ w3.heap.size := (HRW.out.lt _ hv).1; omega)), by rw [World.cell?_setCell_other _ _ _ _ (by simp)]; exact g0, World.cell?_setCell_same _ _ _ g1, by rw [World.frozen?_setCell]; exact gf, by simpa using hz4, HA1.out.setCell (by simp; have := HK3.out.size; omega) _, by show _ = _; simp [HXL.out]⟩
                  case measure => simp [intOf]; omega
                · obtain ⟨m, hm⟩ : ∃ m, xs.length = m + 1 := ⟨xs.length - 1, by have := List.length_pos_iff.2 hx; omega⟩
                  obtain ⟨bx, off, rfl, hbx, c0, c1, c2⟩ := sl_val hsl m (by omega)
                  have hlast : xs.getLast?.getD default = xs[m] := by
                    rw [List.getLast?_eq_getElem?, show xs.length - 1 = m by omega, List.getElem?_eq_getElem (by omega)]
                    rfl
                  rw [hlast] at HLS
                  obtain ⟨y, hy⟩ : ∃ y, xs[m] = y := ⟨_, rfl⟩
                  rw [hy] at HLS c0 c1 c2
                  have hcall := fun W => compare_any y ⟨vk, vn, vs⟩ W
                  obtain ⟨cc, hcc⟩ : ∃ cc, cmpV y ⟨vk, vn, vs⟩ = cc := ⟨_, rfl⟩
                  rw [hcc] at HLS hcall
                  have HCALL := Lib.hid hcall
                  have HE1 := Lib.hid e1
                  have HM := Lib.hid hm
                  rw [hm] at e1
                  clear hcall hcc hy hlast hm
                  have hw1 : IntKind.i64.wrap ((m : Int) + 1 - 1) = (m : Int) := by rw [IntWalk.i64_in _ ⟨by have := HXL.out; have := HM.out; omega, by have := HXL.out; have := HM.out; omega⟩]; omega
                  have hw4 : IntKind.i64.wrap (m : Int) = (m : Int) := by rw [IntWalk.i64_in _ ⟨by have := HXL.out; have := HM.out; omega, by have := HXL.out; have := HM.out; omega⟩]
                  have hw2 : (0 : Int) ≤ (m : Int) := by omega
                  have hw3 : (m : Int) < (m : Int) + 1 := by omega
                  obtain ⟨yk, yn, ys⟩ := y
                  by_cases hcmp : 0 ≤ cc
                  · have HN := Lib.hid (show readD bs = none by
                      rw [HRDD.out, ← HLP.out, HLS.out, if_pos ⟨hx, hcmp⟩]
                      rfl)
                    clear hx
                    go_wp2
                    first | refine Zone.wp_region_all_gro (by kernel_rfl) (by kernel_rfl) ?_ | refine Zone.wp_region_all (by kernel_rfl) (by kernel_rfl) ?_
                    repeat
                      refine Zone.wpZ_step (fun K hK => ?_)
                      go_simp
                      first
                      | (refine hK _ _ ?_; clear hK K)
                      | (apply Exists.intro
                         refine ⟨fun p => ?_, hK _ _ ?_⟩
                         ((go_at_call 58; exact Zone.zc (HCALL.out _)))
                         clear hK K)
                    refine Zone.wpZ_nil ?_
                    intro p
                    simp only [Zone.fill]
                    go_wp2
                    go_ret2
                    exact ⟨_, _, rfl, res_none HN.out (by decide), newD_nil, HK2.out.trans (by repeat (first | exact Keep.refl _ | apply Keep.alloc | apply Keep.gro | apply Keep.drew | apply Keep.drewN))⟩
                  · have HLN := Lib.hid (show loopD kd bs (nn - (i + 1)) a' (xs ++ [⟨vk, vn, vs⟩]) = loopD kd bs nn 5 [] by
                      rw [← HLP.out, HLS.out, if_neg (fun h => hcmp h.2)])
                    clear hx
                    go_wp2
                    first | refine Zone.wp_region_all_gro (by kernel_rfl) (by kernel_rfl) ?_ | refine Zone.wp_region_all (by kernel_rfl) (by kernel_rfl) ?_
                    repeat
                      refine Zone.wpZ_step (fun K hK => ?_)
                      go_simp
                      first
                      | (refine hK _ _ ?_; clear hK K)
                      | (apply Exists.intro
                         refine ⟨fun p => ?_, hK _ _ ?_⟩
                         ((go_at_call 58; exact Zone.zc (HCALL.out _)))
                         clear hK K)
                    refine Zone.wpZ_nil ?_
                    intro p
                    simp only [Zone.fill]
                    clear e1 hw1 hw2 hw3 hw4
                    have e1 := HE1.out
                    obtain ⟨Ax, hAx⟩ : ∃ Ax, some (⟨bx, off, none⟩ : Addr) = Ax := ⟨_, rfl⟩
                    rw [hAx] at e1 HOWN2 hsl
                    clear hAx c0 c1 c2
                    go_wp2
                    first | refine Zone.wp_region_m_gro 1 7 (by kernel_rfl) (by kernel_rfl) ?_ | refine Zone.wp_region_m 1 7 (by kernel_rfl) (by kernel_rfl) ?_
                    simp only [List.take_succ_cons, List.take_zero, List.drop_succ_cons, List.drop_zero]
                    refine Zone.wpI_step _ (by rfl) (fun _ => by rfl) ?_
                    refine Zone.wpI_nil ?_
                    iterate 5
                      refine Zone.wpZ_step (fun K hK => ?_)
                      go_simp
                      (refine hK _ _ ?_; clear hK K)
                    refine Zone.wpZ_free 101 (fun u W => ∃ g, u = .slice (some ⟨g, 0, none⟩) 1 1 ∧ g < W.heap.size ∧ W.cell? ⟨g, 0, none⟩ = some (.int .u8 vk) ∧ W.cell? ⟨g, 1, none⟩ = some (.int .i64 vn) ∧ W.cell? ⟨g, 2, none⟩ = some (.string vs)) rfl (fun _ W W' hk ⟨g, h1, h2, h3, h4, h5⟩ => ⟨g, h1, Nat.lt_of_lt_of_le h2 hk.size, (hk.cell (p := ⟨g, 0, none⟩) h2).trans h3, (hk.cell (p := ⟨g, 1, none⟩) h2).trans h4, (hk.cell (p := ⟨g, 2, none⟩) h2).trans h5⟩) ?_ ?_
                    · intro p
                      simp only [Zone.fill, Zone.lookFs, List.filter_nil]
                      go_simp
                      exact Keep.alloc (Keep.refl _) _
                    refine Zone.wpZ_nil ?_
                    intro q
                    simp only [Zone.fill]
                    rintro u ⟨g, rfl, hg, hg0, hg1, hg2⟩
                    have hsl1 := sl_one (enc := Val.cells) (k := 3) (c := 1) (⟨vk, vn, vs⟩ : Val) (by omega) (by omega) (val_at (⟨vk, vn, vs⟩ : Val) hg0 hg1 hg2)
                    clear hg hg0 hg1 hg2
                    have HO1 := (HOWN2.out.keep (Keep.alloc (Keep.refl _) (.cells #[.int .u8 vk, .int .i64 vn, .string vs] 61))).keep (below_gro _ q)
                    go_wp2_with (at_builtin; refine Zone.hold ?_)
                    refine Zone.unhold ?_
                    refine wpList_app elt_val val_len val_one rfl (.tmp 99) (.tmp 101) rfl (ys := [(⟨vk, vn, vs⟩ : Val)]) HO1 rfl rfl hsl1 (by have := HXL.out; simp; omega) (by simp [size_gro]; omega) ?_
                    intro v' w4 hown4 hg4 _
                    have ⟨a1, a2, a3⟩ := HO1.after (w := w) hg4 (HK2.out.trans (by repeat (first | exact Keep.refl _ | apply Keep.alloc | apply Keep.gro | apply Keep.drew | apply Keep.drewN))) (by have := HK3.out.size; omega)
                    have hkq : Keep w2 ((w2.alloc (.cells #[.int .u8 vk, .int .i64 vn, .string vs] 61)).gro q) := (Keep.alloc (Keep.refl _) _).trans (below_gro _ q)
                    have g1 := a3 ⟨w3.heap.size, 1, none⟩ _ (by simp) ((hkq.cell (p := ⟨w3.heap.size, 1, none⟩) hw32).trans e1)
                    have g0 := a3 ⟨w3.heap.size, 0, none⟩ _ (by simp) ((hkq.cell (p := ⟨w3.heap.size, 0, none⟩) hw32).trans e0)
                    have HRW := Lib.hid hown4
                    have hrow : ∀ k, (Value.slice Ax xs.length cx).ownBlock = some k → w3.heap.size + 1 ≤ k := fun k hk => (HO1.lt k hk).1
                    have gf : w4.frozen? ⟨w3.heap.size, 1, none⟩ = false := by
                      have hb := hg4.block w3.heap.size (by simp [size_gro]; omega) (fun e => by have := hrow _ e.symm; omega)
                      have hb3 := (hkq.frozen (p := ⟨w3.heap.size, 1, none⟩) hw32).trans ef
                      unfold World.frozen? at hb3 ⊢
                      rw [hb]
                      exact hb3
                    have HBEL := Lib.hid (Bel.setCell (Bel.grown (Bel.gro (Bel.alloc (Bel.refl (n := w3.heap.size) (W0 := w2) (by omega)) _) q) hg4 (fun k e => by have := hrow k e; omega)) (a := ⟨w3.heap.size, 1, none⟩) (Nat.le_refl _) v')
                    have HA1 := Lib.hid a1
                    have hz4 : w3.heap.size < w4.heap.size := by simp [size_gro] at a2; omega
                    clear a1 a2 a3 hown4 hg4 hsl1 HO1 hkq hrow
                    obtain ⟨A4, c4, hv4, _⟩ := HRW.out.sl val_len (by simp; have := HXL.out; omega)
                    obtain ⟨n4, hn4⟩ : ∃ n, (xs ++ [(⟨vk, vn, vs⟩ : Val)]).length = n := ⟨_, rfl⟩
                    rw [hn4] at hv4
                    subst hv4
                    clear hn4
                    go_wp2
                    rw [Zone.calm_normal]
                    go_wp2
                    go_roundw
                    case rel => exact ⟨i + 1, a', xs ++ [⟨vk, vn, vs⟩], _, by omega, by go_num, HLN, HRD3.out.later HRD2.out HBEL.out, Lib.hid (HRW.out.grown (grownBy_set w4 ⟨w3.heap.size, 1, none⟩ (.slice A4 n4 c4)) (fun j hj hv => by cases hj; have h1 : w3.heap.size + 1 ≤ w3.heap.size := (HRW.out.lt _ hv).1; omega)), by rw [World.cell?_setCell_other _ _ _ _ (by simp)]; exact g0, World.cell?_setCell_same _ _ _ g1, by rw [World.frozen?_setCell]; exact gf, by simpa using hz4, HA1.out.setCell (by simp; have := HK3.out.size; omega) _, by show _ = _; simp [HXL.out]⟩
                    case measure => simp [intOf]; omega
            · have hin : i = nn := by omega
              subst hin
              have HL := Lib.hid (show loopD kd bs i 5 [] = some (xs, a) by
                have := HLP.out
                rw [Nat.sub_self] at this
                exact this.symm)
              obtain ⟨Ax, cx, rfl, hsl⟩ := HOWN.out.sl val_len (by have := HXL.out; omega)
              have HSL := Lib.hid hsl
              clear hsl
              by_cases hleft : a < bs.length
              · have hlv : ((leftR bs a false : Nat) : Int) = ((bs.length - a : Nat) : Int) := rfl
                have hl0 : 0 < ((bs.length - a : Nat) : Int) := by omega
                have HLF := left_any _ HRD.out
                rw [hlv] at HLF
                have HLF2 := Lib.hid HLF
                clear HLF hlv
                go_wp2_with (go_at_call 154; refine (HLF2.out).mono ?_; rintro e w' ⟨rfl, hk⟩; (first | obtain ⟨p, rfl⟩ := Zone.gro_of_gro _ _ hk | obtain ⟨p, rfl⟩ := Zone.gro_of_below _ hk); clear hk)
                go_ret2
                exact ⟨_, _, rfl, res_left (HRDD.out.trans (by rw [HL.out]; rfl)) hleft, newD_nil, HKW.out.gro _⟩
              · have hlv : ((leftR bs a false : Nat) : Int) = 0 := by unfold leftR; rw [if_neg (by simp)]; omega
                have HLF := left_any _ HRD.out
                rw [hlv] at HLF
                have HLF2 := Lib.hid HLF
                clear HLF hlv
                go_wp2_with (go_at_call 154; refine (HLF2.out).mono ?_; rintro e w' ⟨rfl, hk⟩; (first | obtain ⟨p, rfl⟩ := Zone.gro_of_gro _ _ hk | obtain ⟨p, rfl⟩ := Zone.gro_of_below _ hk); clear hk)
                go_ret2
                exact ⟨_, _, rfl, res_ok (HRDD.out.trans (by rw [HL.out]; rfl)) hleft (DictAt.keep ⟨d0, d1, HSL.out⟩ (below_gro wr _)), newD_at HK3.out.size (((below_gro wr _).cell (p := ⟨w3.heap.size, 1, none⟩) (World.block_lt_of_cell? wr _ d1)).trans d1) (fun g off e => by have h1 := (HOWN.out.lt g (by rw [e]; rfl)).1; have h2 := HK3.out.size; omega), HKW.out.gro _⟩
theorem read_any (A : Option Addr) (c : Nat) (bs : List UInt8) (w : World) (h : SlB w A c bs) (hl : bs.length ≤ 1000000) :
    Calls Tryz.prog 94 #[.slice A bs.length c] w fun e w' => ∃ v err, e = .returned (.tuple #[v, .int .i64 err]) ∧ ReadRes w' v err bs ∧ Keep w w' :=
  (read_new A c bs w h hl).mono fun _ _ ⟨v, err, h1, h2, _, h4⟩ => ⟨v, err, h1, h2, h4⟩
end Go.Proofs.YtmcaednlilhnoaaGreatDoor
