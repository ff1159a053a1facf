
/- A reader's steps where numbers stand; schema.columns. -/
import Derived.WalkKit
import Derived.Lib.Hide
import Derived.WalkSpells
import Derived.WalkLawsBesides
import Derived.BigQuiet
import Derived.Shelf.Abstract
import Derived.Deep.Cut
import Derived.Deep.CutRange
import Derived.Test.YtmcaednlilhnoaaGreatDoorUint
import Derived.Test.YtmcaednlilhnoaaGreatDoorJk
import Derived.Test.YtmcaednlilhnoaaGreatDoorBy
namespace Go.Proofs.YtmcaednlilhnoaaGreatDoor
open Go.RowKit Go.Zone Go.Shelf
attribute [local go_sem] Zone.zone Zone.stepZ Zone.fill Zone.lookFs Zone.goes Zone.goesUpon Zone.dropFs Zone.cell_gro Zone.frozen_gro Zone.size_gro Zone.lt_add Zone.drew_gro Zone.tape_gro Zone.keep_refl
attribute [local go_sem] Zone.lt_add2 Zone.lt_add3 Zone.lt_add4 Zone.lt_add5 Zone.lt_add6 Zone.lt_add7 Zone.lt_add8 Zone.lt_add9 Zone.lt_add10 Zone.lt_add11 Zone.lt_add12
section
variable {w : World} {R c a : Nat} {A : Option Addr} {bs rest : List UInt8}
theorem u16_any (w : World) {bad : Bool} (h : Rd w R A c bs a bad) : Calls Tryz.prog 202 #[.pointer (some ⟨R, 0, none⟩)] w fun e w' => e = .returned (.int .u16 ((unle (someR bs a bad 2).1 (someR bs a bad 2).1.length : Nat) % 65536 : Int)) ∧
    Rd w' R A c bs (someR bs a bad 2).2.1 (someR bs a bad 2).2.2 ∧ w.grownBy w' (some R) := by
  have HN := Lib.hid (number_any w 2 (by omega) h)
  clear h
  go_enter Tryz.func202, Tryz.ntmps202
  go_wp2_with (go_at_call 155; refine Zone.hold ?_)
  refine Zone.unhold ?_
  refine HN.out.mono ?_
  rintro e w1 ⟨rfl, hrd, hg⟩
  go_wp2
  go_ret
  exact ⟨by simp [IntKind.wrap, IntKind.signed, IntKind.bits], hrd, hg⟩
theorem u8_at (w : World) (x : Nat) (hx : x < 256) (h : Rd w R A c bs a false) (hd : bs.drop a = [UInt8.ofNat x] ++ rest) : Calls Tryz.prog 157 #[.pointer (some ⟨R, 0, none⟩)] w fun e w' => e = .returned (.int .u8 (x : Int)) ∧ Rd w' R A c bs (a + 1) false ∧ w.grownBy w' (some R) := by
  have hu := u8_any w h
  rw [someR_at (X := [UInt8.ofNat x]) (n := 1) hd rfl h.le] at hu
  have e : ((unle [UInt8.ofNat x] 1 : Nat) % 256 : Int) = (x : Int) := by simp [unle]; omega
  simp only [List.length_singleton] at hu
  rw [e] at hu
  exact hu
theorem u16_at (w : World) (x : Nat) (hx : x < 65536) (h : Rd w R A c bs a false) (hd : bs.drop a = le x 2 ++ rest) : Calls Tryz.prog 202 #[.pointer (some ⟨R, 0, none⟩)] w fun e w' => e = .returned (.int .u16 (x : Int)) ∧ Rd w' R A c bs (a + 2) false ∧ w.grownBy w' (some R) := by
  have hu := u16_any w h
  rw [someR_at (X := le x 2) (n := 2) hd (le_len _ _) h.le] at hu
  have e : ((unle (le x 2) (le x 2).length : Nat) % 65536 : Int) = (x : Int) := by rw [le_len, unle_le]; omega
  simp only at hu
  rw [e] at hu
  exact hu
theorem u32_at (w : World) (x : Nat) (hx : x < 4294967296) (h : Rd w R A c bs a false) (hd : bs.drop a = le x 4 ++ rest) : Calls Tryz.prog 92 #[.pointer (some ⟨R, 0, none⟩)] w fun e w' => e = .returned (.int .u32 (x : Int)) ∧ Rd w' R A c bs (a + 4) false ∧ w.grownBy w' (some R) := by
  have hu := u32_any w h
  rw [someR_at (X := le x 4) (n := 4) hd (le_len _ _) h.le] at hu
  have e : ((unle (le x 4) (le x 4).length : Nat) % 4294967296 : Int) = (x : Int) := by rw [le_len, unle_le]; omega
  simp only at hu
  rw [e] at hu
  exact hu
theorem bytes_rd (w : World) (X : List UInt8) (hx : X.length ≤ 1000000) (h : Rd w R A c bs a false) (hd : bs.drop a = X ++ rest) : Calls Tryz.prog 149 #[.pointer (some ⟨R, 0, none⟩), .int .i64 X.length] w fun e w' => ∃ A' c', e = .returned (.slice A' X.length c') ∧ OwnB w' w.heap.size (.slice A' X.length c') X ∧ Rd w' R A c bs (a + X.length) false ∧ w.grownBy w' (some R) := by
  have hu := rbytes_own w X.length hx h
  rw [someR_at (X := X) (n := X.length) hd rfl h.le] at hu
  exact hu
end
theorem flat_split {α β : Type} (f : α → List β) (l : List α) (k : Nat) (h : k < l.length) : l.flatMap f = (l.take k).flatMap f ++ (f l[k] ++ (l.drop (k + 1)).flatMap f) := by
  have e := List.take_append_drop k l
  rw [List.drop_eq_getElem_cons h] at e
  rw [← List.flatMap_cons, ← List.flatMap_append, e]
theorem grown_up {w W W' : World} {R : Nat} {row : Option Nat} (h : w.grownBy W (some R)) (k : W.grownBy W' row) (hr : ∀ j, row = some j → w.heap.size ≤ j) : w.grownBy W' (some R) :=
  ⟨k.os.trans h.os, k.tape.trans h.tape, k.output.trans h.output, Nat.le_trans h.size k.size, fun i hi hn => (k.block i (Nat.lt_of_lt_of_le hi h.size) (fun e => by have := hr i e.symm; omega)).trans (h.block i hi hn)⟩
theorem info_col : (Tryz.prog.info? 68).map (fun i => (i.zero, i.size, i.bytes)) = some (some (.agg #[.string ⟨#[]⟩, .int .u8 0]), 2, 24) := by kernel_rfl
theorem elt_col : Elt Tryz.prog 22 68 2 24 := by
  have h := info_col
  cases hi : Tryz.prog.info? 68 with
  | none => rw [hi] at h; cases h
  | some i =>
    rw [hi] at h
    simp only [Option.map_some, Option.some.injEq, Prod.mk.injEq] at h
    exact ⟨i, _, Tryz.underlying22, hi, h.1, h.2.1, h.2.2, rfl, by decide, by decide⟩
theorem col_len (x : Col) : x.cells.length = 2 := rfl
theorem col_one (x : Col) : ∀ u ∈ x.cells, u.oneCell' = true := by simp [Col.cells, Value.oneCell']
theorem colB_len (cl : Col) : (colB cl).length = 2 + cl.name.size := by
  have : cl.name.data.toList.length = cl.name.size := by rw [Lib.size_eq]
  simp only [colB, List.length_append, List.length_cons, List.length_nil, this]
set_option maxRecDepth 100000 in
set_option maxHeartbeats 4000000 in
theorem columns_any {R c a : Nat} {A : Option Addr} {bs rest : List UInt8} (cs : List Col) (w : World) (h : Rd w R A c bs a false) (hd : bs.drop a = le cs.length 2 ++ (cs.flatMap colB ++ rest)) (hm : MayP cs) :
    Calls Tryz.prog 152 #[.pointer (some ⟨R, 0, none⟩)] w fun e w' => ∃ v, e = .returned (.tuple #[v, .bool true]) ∧ Own w' w.heap.size 68 2 Col.cells v cs ∧ Rd w' R A c bs (a + 2 + (cs.flatMap colB).length) false ∧ w.grownBy w' (some R) := by
  have hn : cs.length ≤ 256 := hm.hi
  have HM := Lib.hid hm
  have HU := Lib.hid (u16_at w cs.length (by omega) h hd)
  have hd2 : bs.drop (a + 2) = cs.flatMap colB ++ rest := by
    have := drop_step hd
    rwa [le_len] at this
  have HD2 := Lib.hid hd2
  have hRl := h.lt
  have HRL := Lib.hid hRl
  have HRD0 := Lib.hid h
  clear h hd hd2 hm
  go_enter Tryz.func152, Tryz.ntmps152
  go_wp2_with (go_at_call 202; refine Zone.hold ?_)
  refine Zone.unhold ?_
  refine HU.out.mono ?_
  rintro e w1 ⟨rfl, hrd1, hg1⟩
  have HRD1 := Lib.hid hrd1
  have HG1 := Lib.hid hg1
  have hd9 : decide ((256 : Int) < (cs.length : Int)) = false := by simp; omega
  clear hrd1 hg1 HU
  go_wp2
  go_loopw [2, 13] (fun v i wr => ∃ (k : Nat) (o : Value), k ≤ cs.length ∧ i = .int .i64 k ∧ o = v ∧ Hid (Own wr w.heap.size 68 2 Col.cells o (cs.take k)) ∧ Hid (Rd wr R A c bs (a + 2 + ((cs.take k).flatMap colB).length) false) ∧ Hid (w.grownBy wr (some R))) (fun _ i _ => cs.length - (intOf i).toNat)
  case atStart => exact ⟨0, _, Nat.zero_le _, rfl, rfl, Own.nil_ _ _ _ _ _, (by show Rd _ _ _ _ _ _ _; simpa using HRD1.out), HG1.out⟩
  case round =>
    clear HRD1 HG1
    obtain ⟨k, o, hk, rfl, rfl, HO, HRD, HG⟩ := hrel
    by_cases hlt : k < cs.length
    · have hkd := HM.out.kind k hlt
      have hnm := (HM.out.name k hlt).hi
      have hcd : bs.drop (a + 2 + ((cs.take k).flatMap colB).length) = colB cs[k] ++ ((cs.drop (k + 1)).flatMap colB ++ rest) := by
        have h2 := HD2.out
        rw [flat_split colB cs k hlt, List.append_assoc] at h2
        rw [drop_step h2, List.append_assoc]
      have HTK := Lib.hid (show cs.take (k + 1) = cs.take k ++ [cs[k]] from List.take_succ_eq_append_getElem hlt)
      have HTL := Lib.hid (show ((cs.take (k + 1)).flatMap colB).length = ((cs.take k).flatMap colB).length + (2 + cs[k].name.size) by rw [List.take_succ_eq_append_getElem hlt, List.flatMap_append]; simp [colB_len])
      generalize cs[k] = cl at hkd hnm hcd HTK HTL
      obtain ⟨nm, kd⟩ := cl
      simp only at hkd hnm hcd HTL
      obtain ⟨kn, rfl⟩ : ∃ kn : Nat, kd = (kn : Int) := ⟨kd.toNat, by omega⟩
      have hkn : 1 ≤ kn ∧ kn ≤ 3 := by omega
      obtain ⟨hk1, hk3⟩ := hkn
      generalize hpe : a + 2 + ((cs.take k).flatMap colB).length = p at HRD hcd
      have HPE := Lib.hid hpe
      clear hpe
      simp only [colB, Int.toNat_natCast] at hcd
      have hcd1 : bs.drop p = [UInt8.ofNat kn] ++ ([UInt8.ofNat nm.size] ++ (nm.data.toList ++ ((cs.drop (k + 1)).flatMap colB ++ rest))) := by rw [hcd]; simp
      have hcd2 := drop_step hcd1
      have hcd3 := drop_step hcd2
      simp only [List.length_singleton] at hcd2 hcd3
      have hnl : nm.data.toList.length = nm.size := by rw [Lib.size_eq]
      have HNL := Lib.hid hnl
      have HD3 := Lib.hid hcd3
      have HD2' := Lib.hid hcd2
      have HU1 := Lib.hid (u8_at wr kn (by omega) HRD.out hcd1)
      have hg1 : decide ((3 : Int) < (kn : Int)) = false := by simp; omega
      have hg2 : ((kn : Int) == 0) = false := by simp; omega
      have hg3 : decide ((64 : Int) < (nm.size : Int)) = false := by simp; omega
      clear hcd hcd1 hcd2 hcd3 hkd hnl
      go_wp2_with (go_at_call 157; refine Zone.hold ?_)
      refine Zone.unhold ?_
      refine HU1.out.mono ?_
      rintro e w2 ⟨rfl, hrd2, hg2'⟩
      have HU2 := Lib.hid (u8_at w2 nm.size (by omega) hrd2 HD2'.out)
      have HG2 := Lib.hid (grownBy_trans HG.out hg2')
      have HO2 := Lib.hid (HO.out.grown hg2' fun j e h => by injection e with e; subst e; have := (HO.out.lt _ h).1; omega)
      clear hrd2 hg2' HU1 HRD HG HO
      go_wp2_with (go_at_call 157; refine Zone.hold ?_)
      refine Zone.unhold ?_
      refine HU2.out.mono ?_
      rintro e w3 ⟨rfl, hrd3, hg3'⟩
      have hu := bytes_rd w3 nm.data.toList (by rw [HNL.out]; omega) hrd3 HD3.out
      rw [HNL.out] at hu
      have HU3 := Lib.hid hu
      have HG3 := Lib.hid (grownBy_trans HG2.out hg3')
      have HO3 := Lib.hid (HO2.out.grown hg3' fun j e h => by injection e with e; subst e; have := (HO2.out.lt _ h).1; omega)
      clear hrd3 hg3' HU2 hu HG2 HO2
      go_wp2_with (go_at_call 149; refine Zone.hold ?_)
      refine Zone.unhold ?_
      refine HU3.out.mono ?_
      rintro e w4 ⟨A4, c4, rfl, hown4, hrd4, hg4⟩
      have HG4 := Lib.hid (grownBy_trans HG3.out hg4)
      have HO4 := Lib.hid (HO3.out.grown hg4 fun j e h => by injection e with e; subst e; have := (HO3.out.lt _ h).1; omega)
      have HRD4 := Lib.hid hrd4
      have hcv : (convert 74 9 (.slice A4 nm.size c4)).run Tryz.prog w4 = .ok (.string nm) w4 := by
        rw [← HNL.out] at hown4 ⊢
        obtain ⟨A9, c9, hv9, hsl9⟩ := hown4.sl b8_len (by rw [HNL.out]; omega)
        injection hv9 with hv9 _ hc9
        subst hv9; subst hc9
        exact strB hsl9
      have hz4 := HG4.out.size
      clear hown4 hrd4 hg4 HU3 HG3 HO3
      go_wp2_with (at_builtin; refine Zone.hold ?_)
      refine Zone.unhold ?_
      have hke : Keep w4 (w4.alloc (.cells #[.string nm, .int .u8 (kn : Int)] 68)) := (by repeat (first | exact Keep.refl _ | apply Keep.alloc | apply Keep.gro | apply Keep.drew | apply Keep.drewN))
      have HO7 : Own (w4.alloc (.cells #[.string nm, .int .u8 (kn : Int)] 68)) w.heap.size 68 2 Col.cells o (cs.take k) := HO4.out.keep hke
      refine wpList_app elt_col col_len col_one rfl (.tmp 33) (.tmp 40) rfl (ys := [(⟨nm, (kn : Int)⟩ : Col)]) HO7 rfl rfl (sl_one _ (by omega) (by omega) (fun j u hu => by
        match j, hu with
        | 0, hu => cases hu; simp [go_sem]
        | 1, hu => cases hu; simp [go_sem])) (by simp; omega) (by simp; omega) ?_
      intro v8 w8 hown8 hg8 hd8
      have hor : ∀ j, o.ownBlock = some j → w.heap.size ≤ j := fun j hj => (HO7.lt j hj).1
      have HG8 := Lib.hid (grown_up (grownBy_trans HG4.out (grownBy_keep hke)) hg8 hor)
      have HO8 := Lib.hid hown8
      have HRD8 := Lib.hid (Rd.later HRD0.out HRD4.out (Bel.grown (Bel.keep (Bel.refl hz4) hke) hg8 hor))
      clear hown8 hg8 hd8 HO7 hke hor HG4 HO4 HRD4 hcv
      go_wp2
      go_roundw
      case rel => exact ⟨k + 1, v8, by omega, by go_num, rfl, (by show Own _ _ _ _ _ _ _; rw [HTK.out]; exact HO8.out), (by
        show Rd _ _ _ _ _ _ _
        rw [HTL.out]
        have := HRD8.out
        have e : a + 2 + (((cs.take k).flatMap colB).length + (2 + nm.size)) = p + 1 + 1 + nm.size := by have := HPE.out; omega
        rw [e]
        exact this), HG8.out⟩
      case measure => simp [intOf]; omega
    · have hkl : k = cs.length := by omega
      subst hkl
      rw [List.take_length] at HO HRD
      go_wp2
      exact bodyPost_ret (v := .tuple #[o, .bool true]) (by simp [results, Tryz.results152, go_sem]) rfl ⟨o, rfl, HO.out, HRD.out, HG.out⟩
end Go.Proofs.YtmcaednlilhnoaaGreatDoor
