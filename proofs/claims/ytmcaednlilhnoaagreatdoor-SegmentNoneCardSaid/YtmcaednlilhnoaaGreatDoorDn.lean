
/- A dimension's sections, where it has neither an inverted, a ranged nor a sorted index. -/
import Derived.WalkKit
import Derived.Lib.Hide
import Derived.WalkSpells
import Derived.WalkLawsBesides
import Derived.BigQuiet
import Derived.Shelf.Abstract
import Derived.Deep.Cut
import Derived.Deep.CutRange
import Derived.Test.YtmcaednlilhnoaaGreatDoorIt
import Derived.Test.YtmcaednlilhnoaaGreatDoorTc
import Derived.Test.YtmcaednlilhnoaaGreatDoorBn
namespace Go.Proofs.YtmcaednlilhnoaaGreatDoor
open Go.RowKit Go.Zone Go.Shelf
attribute [local go_sem] Zone.zone Zone.stepZ Zone.fill Zone.lookFs Zone.goes Zone.goesUpon Zone.dropFs Zone.cell_gro Zone.frozen_gro Zone.size_gro Zone.lt_add Zone.drew_gro Zone.tape_gro Zone.keep_refl
attribute [local go_sem] Zone.lt_add2 Zone.lt_add3 Zone.lt_add4 Zone.lt_add5 Zone.lt_add6 Zone.lt_add7 Zone.lt_add8 Zone.lt_add9 Zone.lt_add10 Zone.lt_add11 Zone.lt_add12
theorem info_i64 : (Tryz.prog.info? 3).map (fun i => (i.zero, i.size, i.bytes)) = some (some (.int .i64 0), 1, 8) := by kernel_rfl
def nameD (pre : ByteArray) (p : Nat) : ByteArray := pre ++ (⟨#[46]⟩ ++ digS p)
def sDict : ByteArray := ⟨#[100, 105, 99, 116]⟩
def sFwd : ByteArray := ⟨#[102, 111, 114, 119, 97, 114, 100]⟩
/-- a dimension's sections -/
def dimNB (k : Int) (p n : Nat) (xs : List Val) : List (ByteArray × List UInt8) := [(nameD sDict p, dBytes k (dOwn xs)), (nameD sFwd p, idxB n (dOwn xs).length (wdF (dOwn xs).length) (packB (idsOf xs) (wdF (dOwn xs).length)))]
theorem find_own {kind : Int} {xs : List Val} {v : Val} (hk : kind ≠ 0) (hv : v ∈ xs) : findV kind (dOwn xs) v = ((lower (dOwn xs) v : Int), true) := by
  simp [findV, hk, (own_place hv).1]
theorem DictAt.turn1 {w w' : World} {b : Nat} {kind : Int} {A : Option Addr} {c : Nat} {xs : List Val} {S : List Nat} (h : DictAt w b kind A c xs) (ht : Turn w w' S) (hb : b ∉ S) (hA : ∀ b off, A = some ⟨b, off, none⟩ → 0 < xs.length → b ∉ S) : DictAt w' b kind A c xs := by
  rcases xs with _ | ⟨x, r⟩
  · exact ⟨ht.cell h.k hb, ht.cell h.l hb, Sl.nil_ _ h.sl.big⟩
  · exact ⟨ht.cell h.k hb, ht.cell h.l hb, h.sl.turn ht fun b off e => hA b off e (by simp)⟩
set_option maxRecDepth 100000 in
set_option maxHeartbeats 4000000 in
theorem dim_plain {p f o M : Value} (b base gi gq : Nat) (S : List Sec) (cs : List Col) (A X : Option Addr) (n mR pl : Nat) (rows : List Rw) (s0 : Int) (iA rA : Option Addr) (ic rc : Nat) (iv rv : List Bool) (vi vq : List Value) (w : World)
    (hL : Sl w 2 Col.cells A n cs) (hX : Sl w 1 Rw.cells X mR rows) (hRA : RowsAt w rows) (hrl : rows.length ≤ 1000000) (hiv : Sl w 1 flV iA ic iv) (hrv : Sl w 1 flV rA rc rv)
    (hpl : pl < cs.length) (hp10 : pl < 10) (hni : hasP iv (pl : Int) = false) (hnr : hasP rv (pl : Int) = false) (hns : s0 ≠ (pl : Int))
    (hR : Row w b 96 (mkC (.slice A cs.length n) (.int .i64 s0) (.slice iA iv.length ic) (.slice rA rv.length rc) p f (.slice X rows.length mR) o (.slice (some ⟨gi, 0, none⟩) vi.length vi.length) (.slice (some ⟨gq, 0, none⟩) vq.length vq.length) M))
    (hgi : Row w gi 24 vi) (hgq : Row w gq 3 vq) (hpi : pl < vi.length) (hpq : pl < vq.length) (hO : OwnC w base o S) (hS : SecsO w S) (hb : b < base) (hbi : gi < base) (hbq : gq < base) (hbase : base ≤ w.heap.size) (hl : S.length ≤ 1000)
    (hd : dErr (kindT cs[pl]) (colV (rows.map (·.vs)) pl) = 0)
    (hiA : ∀ bb off, iA = some ⟨bb, off, none⟩ → bb ∉ [b, gi, gq] ∧ bb < base) (hrA : ∀ bb off, rA = some ⟨bb, off, none⟩ → bb ∉ [b, gi, gq] ∧ bb < base) :
    Calls Tryz.prog 39 #[.pointer (some ⟨b, 0, none⟩), .int .i64 pl] w fun e w' => e = .returned (.int .i64 0) ∧ ∃ o' S' X', Row w' b 96 (mkC (.slice A cs.length n) (.int .i64 s0) (.slice iA iv.length ic) (.slice rA rv.length rc) p f (.slice X rows.length mR) o' (.slice (some ⟨gi, 0, none⟩) vi.length vi.length) (.slice (some ⟨gq, 0, none⟩) vq.length vq.length) M) ∧
      Row w' gi 24 (vi.set pl X') ∧ Row w' gq 3 (vq.set pl (.int .i64 (dOwn (colV (rows.map (·.vs)) pl)).length)) ∧
      OwnC w' base o' (S ++ S') ∧ SecsO w' (S ++ S') ∧ S'.map nbS = dimNB (kindT cs[pl]) pl rows.length (colV (rows.map (·.vs)) pl) ∧ Turn w w' (b :: gi :: gq :: o.ownBlock.toList) := by
  have hxl : (colV (rows.map (·.vs)) pl).length = rows.length := by simp [colV]
  have hk0 : kindT cs[pl] ≠ 0 := by unfold kindT; split <;> decide
  have HKN := Lib.hid (show kindT cs[pl] = 1 ∨ kindT cs[pl] = 2 by unfold kindT; split <;> simp)
  have HTC := Lib.hid (fun W (hW : Keep w W) => tcol_any X mR pl rows W (hX.keep hW) (hRA.keep hW) (by omega))
  have HKC := Lib.hid (bkind_any cs[pl])
  rw [show (if cs[pl].kind = 2 then (2 : Int) else 1) = kindT cs[pl] from rfl] at HKC
  generalize colV (rows.map (·.vs)) pl = xs at hxl hd HTC ⊢
  obtain ⟨bA, off, hA, hbA, h0, h1⟩ := sl_col hL pl hpl
  generalize hcl : cs[pl] = cl at hd hk0 HKN HKC h0 h1 ⊢
  have HSM := Lib.hid (err_small hd)
  have HDS := Lib.hid (dOwn_sorted xs).1
  have HFO := Lib.hid (fun v (hv : v ∈ xs) => find_own hk0 hv)
  have HIL := Lib.hid (ids_lt xs)
  have HMF := Lib.hid (own_mayF xs (by omega))
  have hdl : (dOwn xs).length ≤ 1000000 := Nat.le_trans (dOwn_len xs) (by omega)
  have HD := Lib.hid hd
  have HR := Lib.hid hR
  have HGI := Lib.hid hgi
  have HGQ := Lib.hid hgq
  have HO := Lib.hid hO
  have HS := Lib.hid hS
  have HIV := Lib.hid hiv
  have HRV := Lib.hid hrv
  have HXL := Lib.hid hxl
  have HK0 := Lib.hid hk0
  have HIA := Lib.hid hiA
  have HRAA := Lib.hid hrA
  have hblt := hR.lt
  have x6 := hR.cell 6 _ rfl
  clear hR hgi hgq hO hS hL hX hRA hiv hrv hd hk0 hcl hiA hrA
  generalize hrn : rows.length = N at *
  subst hA
  obtain ⟨nm, kd⟩ := cl
  simp only at h0 h1
  go_enter Tryz.func39, Tryz.ntmps39
  go_wp2_with (go_at_call 62; refine Zone.hold ?_)
  refine Zone.unhold ?_
  refine (HTC.out _ (Keep.refl _)).mono ?_
  rintro e w1 ⟨g1, rfl, hrow1, hg1, hk1⟩
  have HK1 := Lib.hid hk1
  have HSL := Lib.hid (hrow1.sl_blk val_len (by rw [hxl]; omega) (Nat.le_of_eq hxl) (by omega) : Sl w1 3 Val.cells (some ⟨g1, 0, none⟩) N xs)
  have c0 := (hk1.cell (p := ⟨bA, off + pl * 2, none⟩) hbA).trans h0
  have c1 := (hk1.cell (p := ⟨bA, off + pl * 2 + 1, none⟩) hbA).trans h1
  have hbA1 := Nat.lt_of_lt_of_le hbA hk1.size
  have hR1 := HR.out.keep hk1
  have x0 := hR1.cell 0 _ rfl
  have hb1 := hR1.lt
  clear hk1 x6 hR1 hrow1 hg1 HTC h0 h1 hxl
  go_wp2_with (go_at_call 67; refine Zone.hold ?_)
  refine Zone.unhold ?_
  refine (HKC.out _).mono ?_
  rintro e w2 ⟨rfl, hk2⟩
  have HK2 := Lib.hid (HK1.out.trans hk2)
  have HSL2 := Lib.hid (HSL.out.keep hk2)
  clear hk2 c0 c1 x0 hbA1 HSL
  generalize hke : kindT ⟨nm, kd⟩ = kt at HKC HD HFO HKN HK0 ⊢
  have HKE := Lib.hid hke
  clear hke
  go_wp2_with (go_at_call 66; refine Zone.hold ?_)
  refine Zone.unhold ?_
  have hof := of_new kt (some ⟨g1, 0, none⟩) N xs w2 HSL2.out (by rw [HXL.out]; omega)
  rw [HXL.out] at hof
  refine hof.mono ?_
  clear hof
  rintro e w3 ⟨v, rfl, hdn, hk3⟩
  rw [HD.out] at hdn ⊢
  rcases hdn with ⟨h, _⟩ | ⟨_, bd, Ad, cd, rfl, hda, hbd, hfr⟩
  · exact absurd rfl h
  have HK3 := Lib.hid (HK2.out.trans hk3)
  have HSL3 := Lib.hid (HSL2.out.keep hk3)
  have HDA := Lib.hid hda
  have HBD := Lib.hid (Nat.le_trans HK2.out.size hbd)
  have HFR := Lib.hid (show ∀ bb off, Ad = some ⟨bb, off, none⟩ → 0 < (dOwn xs).length → w.heap.size ≤ bb from fun bb off e hp => Nat.le_trans HK2.out.size (hfr bb off e hp))
  clear hk3 hda hbd hfr HKC HSL2
  obtain ⟨i0, hi0, i1, i2, i3⟩ := info_partsV info_i64
  obtain ⟨W', hmk, ho, hk⟩ := own_made1 (P := Tryz.prog) (z := (0 : Nat)) n64_f rfl Tryz.underlying24 hi0 i1 i2 N w3.heap.size w3 (by rw [i3]; omega) (by omega) (Nat.le_refl _)
  have HOI := Lib.hid ho
  have HKI := Lib.hid hk
  clear ho hk i0 hi0 i1 i2 i3
  generalize hgI : w3.heap.size = gI at hmk HOI
  have HGII := Lib.hid hgI
  clear hgI
  go_wp2
  clear hmk
  go_loopw [47] (fun i wr => ∃ k : Nat, k ≤ N ∧ i = .int .i64 k ∧ Hid (Own wr gI 3 1 n64V (.slice (some ⟨gI, 0, none⟩) N N) ((idsOf xs).take k ++ List.replicate (N - k) 0)) ∧ Hid (Keep w3 wr)) (fun i _ => N - (intOf i).toNat)
  case atStart => exact ⟨0, Nat.zero_le _, rfl, HOI.out, HKI.out⟩
  case round =>
    clear HOI HKI
    obtain ⟨k, hk, rfl, HOI, HKI⟩ := hrel
    by_cases hlt : k < N
    · --DEVCUT
      have hltx : k < xs.length := by rw [HXL.out]; exact hlt
      obtain ⟨b2, off2, hA2, hb2, c0, c1, c2⟩ := sl_val (HSL3.out.keep HKI.out) k hltx
      cases hA2
      simp only [Nat.zero_add] at c0 c1 c2
      have hfd := fun W (hW : Keep w3 W) => find_at xs[k] W (HDA.out.keep hW) HDS.out
      rw [HFO.out xs[k] (List.getElem_mem hltx)] at hfd
      have HFD := Lib.hid hfd
      have hidl : k < (idsOf xs).length := by rw [idsOf, List.length_map]; exact hltx
      have HTK := Lib.hid (show (idsOf xs).take (k + 1) = (idsOf xs).take k ++ [lower (dOwn xs) xs[k]] by rw [List.take_succ_eq_append_getElem hidl]; simp [idsOf])
      have hlen : ((idsOf xs).take k ++ List.replicate (N - k) 0).length = N := by simp; omega
      have hset : ((idsOf xs).take k ++ List.replicate (N - k) 0).set k (lower (dOwn xs) xs[k]) = (idsOf xs).take (k + 1) ++ List.replicate (N - (k + 1)) 0 := by
        rw [List.set_append_right _ _ (by rw [List.length_take]; omega), List.length_take, Nat.min_eq_left (by omega), Nat.sub_self, show N - k = (N - (k + 1)) + 1 by omega, List.replicate_succ, List.set_cons_zero, HTK.out, List.append_assoc]; rfl
      have HSET := Lib.hid hset
      have HLEN := Lib.hid hlen
      obtain ⟨d0, d1, d2, d3⟩ := HOI.out.cell1 n64_f hlen.symm k (by omega)
      generalize ((idsOf xs).take k ++ List.replicate (N - k) 0)[k]'(by rw [hlen]; exact hlt) = y at d0
      generalize xs[k] = x at c0 c1 c2 hfd HFD HTK hset HSET
      generalize lower (dOwn xs) x = q at HFD HTK HSET
      obtain ⟨xk, xn, xst⟩ := x
      simp only at c0 c1 c2
      have HD3 := Lib.hid (show w3.heap.size ≤ gI from Nat.le_of_eq HGII.out)
      clear hfd hset hlen hidl d3
      go_wp2_with (go_at_call 68; refine (HFD.out _ (HKI.out.trans (by repeat (first | exact Keep.refl _ | apply Keep.alloc | apply Keep.gro | apply Keep.drew | apply Keep.drewN)))).mono ?_; rintro e w' ⟨rfl, hk'⟩; obtain ⟨p, rfl⟩ := Zone.gro_of_below _ hk'; clear hk')
      go_roundw
      case rel =>
        refine ⟨k + 1, by omega, by go_num, ?_, (HKI.out.trans (by repeat (first | exact Keep.refl _ | apply Keep.alloc | apply Keep.gro | apply Keep.drew | apply Keep.drewN))).setCell HD3.out _⟩
        have hk5 : Keep wr ((wr.alloc (.cells #[.int .u8 xk, .int .i64 xn, .string xst] 61)).gro p) := (by repeat (first | exact Keep.refl _ | apply Keep.alloc | apply Keep.gro | apply Keep.drew | apply Keep.drewN))
        have h1 := (HOI.out.keep hk5).set1 n64_f HLEN.out.symm k q rfl
        rw [HSET.out] at h1
        exact h1
      case measure => simp [intOf]; omega
      --DEVEND
    · have hkl : k = N := by omega
      subst hkl
      rw [Nat.sub_self, List.replicate_zero, List.append_nil] at HOI
      have hil : (idsOf xs).length = k := by rw [idsOf, List.length_map]; exact HXL.out
      rw [← hil, List.take_length, hil] at HOI
      have HIDL := Lib.hid hil
      clear hil
      have HK4 := Lib.hid (HK3.out.trans HKI.out)
      generalize hwr : wr = w4 at *
      clear hwr
      go_upto_region 11 with fail
      have HL3 := Lib.hid (show ∀ W, DictAt W bd kt Ad cd (dOwn xs) → Calls Tryz.prog 69 #[.pointer (some ⟨bd, 0, none⟩)] W fun e w' => e = .returned (.int .i64 (dOwn xs).length) ∧ W = w' from fun W hW => by
        have := len_at W hW
        rwa [if_neg HK0.out] at this)
      have HDA4 := Lib.hid (HDA.out.keep HKI.out)
      have HRI := Lib.hid (HGI.out.keep HK4.out)
      have HRQ := Lib.hid (HGQ.out.keep HK4.out)
      have hR4 := HR.out.keep HK4.out
      have x8 := hR4.cell 8 _ rfl
      have x9 := hR4.cell 9 _ rfl
      have z0 := HRI.out.cell pl _ (List.getElem?_eq_getElem hpi)
      have z1 := HRQ.out.cell pl _ (List.getElem?_eq_getElem hpq)
      have hb4 := hR4.lt
      have hi4 := HRI.out.lt
      have hq4 := HRQ.out.lt
      have q0 := HRI.out.soft pl
      have q1 := HRQ.out.soft pl
      have hne := row_ne HRI.out HRQ.out (by decide)
      have hne2 : gq ≠ gi := fun e => hne e.symm
      have HZ4 := Lib.hid HK4.out.size
      generalize vi[pl] = zi at z0
      generalize vq[pl] = zq at z1
      have HNA := Lib.hid (show ∀ bb off, Ad = some ⟨bb, off, none⟩ → 0 < (dOwn xs).length → bb ∉ [gi, gq] from fun bb off e hp hm => by have := HFR.out bb off e hp; simp at hm; omega)
      have HNI := Lib.hid (show bd ∉ [gi, gq] from fun e => by have := HBD.out; simp at e; omega)
      have HDT := Lib.hid (fun W (hT : Turn w4 W [gi, gq]) => HDA4.out.turn1 hT HNI.out HNA.out)
      clear hR4
      go_cut [] from 62 to 76 (fun wx => Hid (Turn w4 wx [gi, gq]) ∧ Hid (Row wx gi 24 (vi.set pl (.slice (some ⟨gI, 0, none⟩) k k))) ∧ Hid (Row wx gq 3 (vq.set pl (.int .i64 (dOwn xs).length))))
      case first =>
        --DEVCUT
        go_region_with (go_at_call 69; refine (HL3.out _ (HDT.out _ (by repeat (first | exact Turn.refl _ _ | apply Turn.alloc | apply Turn.gro | apply Turn.drew | apply Turn.drewN | (refine Turn.setc ?_ (by simp) _))))).mono ?_; rintro e w' ⟨rfl, rfl⟩)
        all_goals
          go_wp2_with fail
          go_meet
          exact ⟨(by repeat (first | exact Turn.refl _ _ | apply Turn.alloc | apply Turn.gro | apply Turn.drew | apply Turn.drewN | (refine Turn.setc ?_ (by simp) _))), (HRI.out.set pl _).other pl _ hne2, (HRQ.out.other pl _ hne).set pl _⟩
        --DEVEND
      case rest =>
        rename World => w5
        obtain ⟨HT5, HGI5, HGQ5⟩ := hcut
        have HTA := Lib.hid ((Turn.keep HK4.out [gi, gq]).trans HT5.out)
        have hbg : b ∉ [gi, gq] := fun e => by
          simp only [List.mem_cons, List.not_mem_nil, or_false] at e
          rcases e with e | e
          · exact row_ne HR.out HGI.out (by decide) e
          · exact row_ne HR.out HGQ.out (by decide) e
        have HBG := Lib.hid hbg
        have HOX := Lib.hid HO.out
        have HR5 := Lib.hid (HTA.out.row HR.out hbg)
        have HO5 := Lib.hid (show OwnC w5 base o S from Own.turn HO.out HTA.out fun i hi e => by
          have := (HO.out.lt _ e).1
          simp at hi
          omega)
        have HS5 := Lib.hid (HS.out.turn HTA.out fun i hi _ => by
          simp only [List.mem_cons, List.not_mem_nil, or_false] at hi
          rcases hi with rfl | rfl
          · exact Row.noU8 HGI.out (by decide)
          · exact Row.noU8 HGQ.out (by decide))
        have HDA5 := Lib.hid (HDT.out _ HT5.out)
        have HSZ5 := Lib.hid HTA.out.size
        have HIS := Lib.hid (show Sl w5 1 n64V (some ⟨gI, 0, none⟩) k (idsOf xs) by
          obtain ⟨A8, c8, hv8, hsl⟩ := HOI.out.sl (fun _ => rfl) (by have := HIDL.out; omega)
          injection hv8 with hv8 _ hc8
          subst hv8; subst hc8
          exact hsl.turn HT5.out fun bb off e hm => by
            injection e with e
            injection e with e1 e2
            have := HGII.out
            have := HK3.out.size
            simp at hm
            omega)
        have HFD := Lib.hid (fof_any (some ⟨gI, 0, none⟩) k (dOwn xs).length (idsOf xs))
        rw [HIDL.out] at HFD HMF
        clear x8 x9 z0 z1 hb4 hi4 hq4 q0 q1 hne hne2 HT5 HRI HRQ HDA4 HDA HGI HGQ HO HS HK3 HK2 HK1 hbg HOI HKI HDT HSL3
        go_wp2_with (first | (go_at_call 64; refine (itoa_dig pl hp10 _).mono ?_; rintro e w' ⟨rfl, hk⟩; (first | obtain ⟨p, rfl⟩ := Zone.gro_of_gro _ _ hk | obtain ⟨p, rfl⟩ := Zone.gro_of_below _ hk); clear hk) | (go_at_call 69; refine (HL3.out _ (HDA5.out.keep (by repeat (first | exact Keep.refl _ | apply Keep.alloc | apply Keep.gro | apply Keep.drew | apply Keep.drewN)))).mono ?_; rintro e w' ⟨rfl, rfl⟩) | (go_at_call 70; refine Zone.hold ?_))
        refine Zone.unhold ?_
        refine (HFD.out _ (HIS.out.keep (by repeat (first | exact Keep.refl _ | apply Keep.alloc | apply Keep.gro | apply Keep.drew | apply Keep.drewN))) HMF.out (by omega) HIL.out).mono ?_
        rintro e w6 ⟨bf, Af, cf, rfl, hix, hbf, hfa, hk6⟩
        have HK6 := Lib.hid (show Keep w5 w6 from Keep.trans (Keep.gro (Keep.refl _) _) hk6)
        have HIX := Lib.hid hix
        have HBF := Lib.hid (show w5.heap.size ≤ bf from Nat.le_trans (by simp [size_gro]) hbf)
        have HFA := Lib.hid (show ∀ bb off, Af = some ⟨bb, off, none⟩ → w5.heap.size ≤ bb from fun bb off e => Nat.le_trans (by simp [size_gro]) (hfa bb off e))
        have HDB := Lib.hid (fun W (hW : DictAt W bd kt Ad cd (dOwn xs)) => bytes_at kt W hW (by rcases HKN.out with e | e <;> omega) (by rcases HKN.out with e | e <;> omega) hdl (fun x hx => by have := HSM.out x hx; omega))
        clear hk6 hix hbf hfa HFD HIS HL3 HIL HMF HFO
        have hfl : (packB (idsOf xs) (wdF (dOwn xs).length)).length ≤ 100000000 := by
          have h1 : (idsOf xs).length * wdF (dOwn xs).length ≤ 1000000 * 24 := Nat.mul_le_mul (by have := HIDL.out; omega) (wdF_hi _ (by omega))
          simp only [packB, le_len]
          omega
        have hwd := wdF_lo (dOwn xs).length
        have hwd2 := wdF_hi (dOwn xs).length (by omega)
        have HWD := Lib.hid hwd
        have HWD2 := Lib.hid hwd2
        generalize hdb : dBytes kt (dOwn xs) = DB at HDB
        have HDBE := Lib.hid hdb
        have hdbl : DB.length ≤ 100000000000 := by
          rw [← hdb]
          have h1 := flat_vB (dOwn xs) 65535 HSM.out
          have h2 : (dOwn xs).length * (65535 + 10) ≤ 1000000 * (65535 + 10) := Nat.mul_le_mul_right _ hdl
          simp [dBytes, le_len] at h1 ⊢
          omega
        have HDBL := Lib.hid hdbl
        generalize hfb : packB (idsOf xs) (wdF (dOwn xs).length) = FB at HIX hfl
        have HFBE := Lib.hid hfb
        have HFL := Lib.hid hfl
        clear hfb hdb hfl hwd hwd2 hdbl
        generalize hwe : wdF (dOwn xs).length = wd at HIX HFBE HWD HWD2
        have HWE := Lib.hid hwe
        clear hwe
        have hds : (digS pl).size = 1 := rfl
        go_wp2_with (go_at_call 71; refine Zone.hold ?_)
        refine Zone.unhold ?_
        refine (HDB.out _ (HDA5.out.keep HK6.out)).mono ?_
        rintro e w7 ⟨vb, rfl, hob, hk7⟩
        obtain ⟨A7, c7, rfl, _⟩ := hob.sl b8_len (by have := HDBL.out; omega)
        have HK7 := Lib.hid (HK6.out.trans hk7)
        have HB7 := Lib.hid (hob.base_mono (Nat.zero_le _))
        have HI7 := Lib.hid (HIX.out.keep hk7)
        clear hk7 hob HK6 HIX HDB
        go_wp2_with (go_at_call 35; refine Zone.hold ?_)
        refine Zone.unhold ?_
        refine (put_secs b base S _ A7 c7 DB _ (HR5.out.keep HK7.out) (HO5.out.keep HK7.out) hb (Nat.le_trans hbase (Nat.le_trans HSZ5.out HK7.out.size)) (by omega) (HS5.out.keep HK7.out) HB7.out).mono ?_
        rintro e w8 ⟨rfl, o1, hR8, hO8, hS8, hT8, hd8⟩
        have hoz : ∀ g, o.ownBlock = some g → g < w5.heap.size := fun g e => (HO5.out.lt g e).2
        have hout : ∀ i, w5.heap.size ≤ i → i ∉ b :: o.ownBlock.toList := fun i hi e => by
          have := HSZ5.out
          rw [List.mem_cons, Option.mem_toList] at e
          rcases e with e | e
          · omega
          · have := hoz _ e; omega
        have HIF := Lib.hid (HI7.out.turn hT8 (hout _ HBF.out) (fun bb off e => hout _ (HFA.out bb off e)))
        have HT8 := Lib.hid hT8
        have HR8 := Lib.hid hR8
        have HO8 := Lib.hid hO8
        have HS8 := Lib.hid hS8
        have HD8 := Lib.hid hd8
        have HZ8 := Lib.hid (show base ≤ w8.heap.size from Nat.le_trans hbase (Nat.le_trans HSZ5.out (Nat.le_trans HK7.out.size hT8.size)))
        clear hR8 hO8 hS8 hT8 hd8 hoz hout HI7 HB7 HR5 HO5 HS5
        have hds : (digS pl).size = 1 := rfl
        go_wp2_with (go_at_call 72; refine Zone.hold ?_)
        refine Zone.unhold ?_
        have hib := ibytes_any _ HIF.out HWD.out (by have := HWD2.out; omega) (by omega) (by omega) (by have := HFL.out; omega)
        refine hib.mono ?_
        clear hib
        rintro e w9 ⟨vb, rfl, hob, hk9⟩
        obtain ⟨A9, c9, rfl, _⟩ := hob.sl b8_len (by have := HFL.out; simp [idxB, le_len]; omega)
        have HK9 := Lib.hid hk9
        have HB9 := Lib.hid (hob.base_mono (Nat.zero_le _))
        clear hk9 hob HIF
        go_wp2_with (go_at_call 35; refine Zone.hold ?_)
        refine Zone.unhold ?_
        refine (put_secs b base _ _ A9 c9 _ _ (HR8.out.keep HK9.out) (HO8.out.keep HK9.out) hb (Nat.le_trans HZ8.out HK9.out.size) (by simp; omega) (HS8.out.keep HK9.out) HB9.out).mono ?_
        rintro e w10 ⟨rfl, o2, hR10, hO10, hS10, hT10, hd10⟩
        have HOw := HOX.out
        have HTX : Turn w5 w10 (b :: o.ownBlock.toList) := ((Turn.keep HK7.out _).trans (HT8.out.trans (Turn.keep HK9.out _))).trans2 hT10 fun i hi => by
          rw [List.mem_cons, Option.mem_toList] at hi
          rcases hi with h | h
          · exact .inl (by simp [h])
          · rcases HD8.out with e | ⟨g, e, hg⟩
            · rw [e] at h
              exact .inl (by simp only [List.mem_cons, Option.mem_toList]; exact .inr h)
            · rw [e] at h
              injection h with h
              subst h
              exact .inr (Nat.le_trans HK7.out.size hg)
        have hob : ∀ i, i < base → i ≠ b → i ∉ b :: o.ownBlock.toList := fun i hi hn e => by
          rw [List.mem_cons, Option.mem_toList] at e
          rcases e with e | e
          · exact hn e
          · have := (HOw.lt _ e).1; omega
        have hgb : gi ≠ b := fun e => HBG.out (by simp [e])
        have hqb : gq ≠ b := fun e => HBG.out (by simp [e])
        have HGI10 := Lib.hid (HTX.row HGI5.out (hob gi hbi hgb))
        have HGQ10 := Lib.hid (HTX.row HGQ5.out (hob gq hbq hqb))
        have HT10 := Lib.hid (show Turn w w10 (b :: gi :: gq :: o.ownBlock.toList) from (HTA.out.mono (fun i hi => .inl (by simp at hi ⊢; omega))).trans (HTX.mono fun i hi => .inl (by rw [List.mem_cons] at hi; rcases hi with h | h <;> simp [h])))
        have hfl : ∀ bb, (bb ∉ [b, gi, gq] ∧ bb < base) → bb ∉ b :: gi :: gq :: o.ownBlock.toList := fun bb h e => by
          simp only [List.mem_cons, List.not_mem_nil, or_false, Option.mem_toList, not_or] at e h
          rcases e with e | e | e | e
          · exact h.1.1 e
          · exact h.1.2.1 e
          · exact h.1.2.2 e
          · have := (HOw.lt _ e).1; omega
        have HIV10 := Lib.hid (fun W (hW : Keep w10 W) => has_any iA ic iv (pl : Int) W ((HIV.out.turn HT10.out (fun bb off e => hfl bb (HIA.out bb off e))).keep hW))
        have HRV10 := Lib.hid (fun W (hW : Keep w10 W) => has_any rA rc rv (pl : Int) W ((HRV.out.turn HT10.out (fun bb off e => hfl bb (HRAA.out bb off e))).keep hW))
        rw [hni] at HIV10
        rw [hnr] at HRV10
        have x1 := hR10.cell 1 _ rfl
        have x2 := hR10.cell 2 _ rfl
        have x3 := hR10.cell 3 _ rfl
        have hb10 := hR10.lt
        have HR10 := Lib.hid hR10
        have HO10 := Lib.hid hO10
        have HS10 := Lib.hid hS10
        have hns2 : (s0 == (pl : Int)) = false := by simpa using hns
        clear hR10 hO10 hS10 hT10 hd10 HB9 HR8 HO8 HS8 HTX hob hfl hni hnr
        go_wp2_with (go_at_call 60; refine Zone.hold ?_)
        refine Zone.unhold ?_
        refine (HIV10.out _ (Keep.refl _)).mono ?_
        rintro e w11 ⟨rfl, hk11⟩
        have HK11 := Lib.hid hk11
        have y1 := (hk11.cell (p := ⟨b, 1, none⟩) hb10).trans x1
        have y3 := (hk11.cell (p := ⟨b, 3, none⟩) hb10).trans x3
        have hb11 := Nat.lt_of_lt_of_le hb10 hk11.size
        clear hk11 x1 x2 x3
        go_wp2_with (go_at_call 60; refine Zone.hold ?_)
        refine Zone.unhold ?_
        refine (HRV10.out _ HK11.out).mono ?_
        rintro e w12 ⟨rfl, hk12⟩
        have HK12 := Lib.hid (HK11.out.trans hk12)
        have z1 := (hk12.cell (p := ⟨b, 1, none⟩) hb11).trans y1
        have hb12 := Nat.lt_of_lt_of_le hb11 hk12.size
        clear hk12 y1 y3
        go_wp2
        go_ret
        refine ⟨rfl, o2, [⟨nameD sDict pl, A7, c7, DB⟩, ⟨nameD sFwd pl, A9, c9, idxB k (dOwn xs).length wd FB⟩], .slice (some ⟨gI, 0, none⟩) k k, HR10.out.keep HK12.out, HGI10.out.keep HK12.out, HGQ10.out.keep HK12.out, ?_, ?_, ?_, HT10.out.keep_ HK12.out⟩
        · have := HO10.out.keep HK12.out
          rwa [List.append_assoc] at this
        · have := HS10.out.keep HK12.out
          rwa [List.append_assoc] at this
        · simp only [List.map_cons, List.map_nil, nbS, dimNB]
          rw [HKE.out, HDBE.out, HWE.out, HFBE.out]
end Go.Proofs.YtmcaednlilhnoaaGreatDoor
