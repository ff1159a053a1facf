
/- sections: isName, Find, may. -/
import Derived.WalkKit
import Derived.Lib.Hide
import Derived.WalkSpells
import Derived.WalkLawsBesides
import Derived.BigQuiet
import Derived.Shelf.Abstract
import Derived.Laws.RangeAny
import Derived.LoopTactic
import Derived.Test.YtmcaednlilhnoaaGreatDoorJe
import Derived.Test.YtmcaednlilhnoaaGreatDoorJi
import Derived.Lib.SlBytesConst
namespace Go.Proofs.YtmcaednlilhnoaaGreatDoor
open Go.RowKit Go.Zone Go.Shelf
attribute [local go_sem] Zone.zone Zone.stepZ Zone.fill Zone.lookFs Zone.goes Zone.goesUpon Zone.dropFs Zone.cell_gro Zone.frozen_gro Zone.size_gro Zone.lt_add Zone.drew_gro Zone.tape_gro Zone.keep_refl
attribute [local go_sem] Zone.lt_add2 Zone.lt_add3 Zone.lt_add4 Zone.lt_add5 Zone.lt_add6 Zone.lt_add7 Zone.lt_add8 Zone.lt_add9 Zone.lt_add10 Zone.lt_add11 Zone.lt_add12
def okS (b : Nat) : Bool := !((decide (b < 97) || decide (122 < b)) && (decide (b < 48) || decide (57 < b)) && !(decide (b = 46)))
structure NameS (s : ByteArray) : Prop where
  ok : ∀ i, (h : i < s.size) → okS (s[i]'h).toNat = true
  lo : 1 ≤ s.size
  hi : s.size ≤ 20
/-- A section. -/
structure Sec where
  name : ByteArray
  A : Option Addr
  c : Nat
  bs : List UInt8
def Sec.cells (s : Sec) : List Value := [.string s.name, .slice s.A s.bs.length s.c]
@[reducible] def Sec.v (s : Sec) : Value := .agg #[.string s.name, .slice s.A s.bs.length s.c]
def isSec (n : ByteArray) (s : Sec) : Bool := s.name.toList == n.toList
def SecsAt (w : World) (l : List Sec) : Prop := ∀ s ∈ l, SlB w s.A s.c s.bs
theorem SecsAt.keep {w w' : World} {l : List Sec} (h : SecsAt w l) (hk : Keep w w') : SecsAt w' l := fun s hs => (h s hs).keep hk
/-- sections that may be -/
structure SecsP (l : List Sec) : Prop where
  name : ∀ i, (h : i < l.length) → NameS l[i].name
  small : ∀ i, (h : i < l.length) → l[i].bs.length ≤ 1073741824
  one : ∀ i k, (h : i < l.length) → (hk : k < i) → (l[k]'(by omega)).name.toList ≠ l[i].name.toList
  few : l.length ≤ 2000
theorem sl_sec {w : World} {c : Nat} {A : Option Addr} {xs : List Sec} (h : Sl w 2 Sec.cells A c xs) (i : Nat) (hi : i < xs.length) : ∃ b off, A = some ⟨b, off, none⟩ ∧ b < w.heap.size ∧ w.cell? ⟨b, off + i * 2, none⟩ = some (.string xs[i].name) ∧
    w.cell? ⟨b, off + i * 2 + 1, none⟩ = some (.slice xs[i].A xs[i].bs.length xs[i].c) := by
  obtain ⟨b, off, hA, hc⟩ := h.at_ i hi
  have h0 := hc 0 _ rfl
  exact ⟨b, off, hA, World.block_lt_of_cell? w _ h0, h0, hc 1 _ rfl⟩
theorem sfind_first (l : List Sec) (i : Nat) (h : i < l.length) : idxP (isSec l[i].name) l 0 = (i : Int) ↔ ∀ k, (hk : k < i) → (l[k]'(by omega)).name.toList ≠ l[i].name.toList := by
  constructor
  · intro he k hk heq
    have := idxP_le (isSec l[i].name) l 0 k (by omega) (by simp [isSec, heq])
    omega
  · intro hall
    have := idxP_first (isSec l[i].name) l 0 i h (by simp [isSec]) fun j hj => by simpa [isSec] using hall j hj
    simpa using this
theorem okS_no {n : Nat} (h : 128 ≤ n) : okS n = false := by unfold okS; simp; omega
/-- what a step of a range gives: an ASCII byte itself, or a number that is no name's -/
theorem okNS (s : ByteArray) (pos : Nat) (h : pos < s.size) : okS (Utf8.decode s pos).1 = okS (s[pos]'h).toNat ∧ (okS (Utf8.decode s pos).1 = true → (Utf8.decode s pos).2 = 1) ∧ 1 ≤ (Utf8.decode s pos).2 := by
  by_cases ha : (s[pos]'h).toNat < 128
  · rw [decode_ascii s pos h ha]
    exact ⟨rfl, fun _ => rfl, Nat.le_refl _⟩
  · have hd := decode_high s pos h (by omega)
    have h1 := okS_no hd.1
    refine ⟨by rw [h1, okS_no (by omega)], fun h => ?_, hd.2⟩
    rw [h1] at h
    cases h
theorem badNS {s : ByteArray} {pos r k : Nat} (_ : ∀ i, (h : i < s.size) → i < pos → okS (s[i]'h).toNat = true) (h : pos < s.size) (hr : okS r = okS (s[pos]'h).toNat ∧ (okS r = true → k = 1) ∧ 1 ≤ k) (hb : okS r = false) : ¬ NameS s := fun hn => by
  have := hn.ok pos h
  rw [← hr.1, hb] at this
  cases this
theorem okS_spec (r : Nat) : okS r = true ↔ (97 ≤ r ∧ r ≤ 122) ∨ (48 ≤ r ∧ r ≤ 57) ∨ r = 46 := by
  unfold okS
  simp
  omega
theorem goodNS {s : ByteArray} {pos r k : Nat} (H : ∀ i, (h : i < s.size) → i < pos → okS (s[i]'h).toNat = true) (h : pos < s.size) (hr : okS r = okS (s[pos]'h).toNat ∧ (okS r = true → k = 1) ∧ 1 ≤ k) (hb : okS r = true) : ∀ i, (h : i < s.size) → i < pos + k → okS (s[i]'h).toNat = true := fun i hi hk => by
  rw [hr.2.1 hb] at hk
  by_cases e : i = pos
  · subst e; rw [← hr.1, hb]
  · exact H i hi (by omega)
set_option maxRecDepth 100000 in
set_option maxHeartbeats 1000000 in
theorem secName_any (s : ByteArray) (w : World) (hz : s.size ≤ 140737488355328) : Calls Tryz.prog 145 #[.string s] w fun e w' => e = .returned (.bool (pB (NameS s))) ∧ Keep w w' := by
  go_enter Tryz.func145, Tryz.ntmps145
  go_wp2
  go_loopw [4] (fun _ wr => ∃ pos : Nat, wr = w.iter s pos ∧ Hid (∀ i, (h : i < s.size) → i < pos → okS (s[i]'h).toNat = true)) (fun _ wr => s.size - wr.iterPos w.heap.size)
  case atStart => exact ⟨0, rfl, fun i h hi => absurd hi (Nat.not_lt_zero _)⟩
  case round =>
    obtain ⟨pos, rfl, HP⟩ := hrel
    by_cases hp : pos < s.size
    · have hnx := fun ty => run_next_any (P := Tryz.prog) w s pos ty hp
      have HR := Lib.hid (okNS s pos hp)
      generalize Utf8.decode s pos = d at hnx HR ⊢
      obtain ⟨r, k⟩ := d
      simp only at hnx HR
      go_wp2
      all_goals first
      | (have hb : okS r = false := by
          rw [Bool.eq_false_iff, ne_eq, okS_spec]
          try simp only [bne_iff_ne, ne_eq] at *
          omega
         go_ret
         exact ⟨ret_bool (pB_no (badNS HP.out hp HR.out hb)).symm, (by repeat (first | exact Keep.refl _ | apply Keep.alloc | apply Keep.gro | apply Keep.drew | apply Keep.drewN))⟩)
      | (have hb : okS r = true := by
          rw [okS_spec]
          try simp only [bne_eq_false_iff_eq] at *
          omega
         go_roundw
         case rel => exact ⟨pos + k, rfl, goodNS HP.out hp HR.out hb⟩
         case measure =>
           have := HR.out.2.2
           simp
           omega)
    · have hnx := fun ty => run_next_end (P := Tryz.prog) w s pos ty hp
      go_wp2
      · go_ret
        exact ⟨by
          by_cases h64 : (s.size : Int) ≤ 20
          · rw [pB_yes ⟨fun i h => HP.out i h (by omega), by omega, by omega⟩]; simp [h64]
          · rw [pB_no fun hn => h64 (by have := hn.hi; omega)]; simp [h64], (by repeat (first | exact Keep.refl _ | apply Keep.alloc | apply Keep.gro | apply Keep.drew | apply Keep.drewN))⟩
      · go_ret
        exact ⟨ret_bool (pB_no fun hn => by have := hn.lo; omega).symm, (by repeat (first | exact Keep.refl _ | apply Keep.alloc | apply Keep.gro | apply Keep.drew | apply Keep.drewN))⟩
set_option maxHeartbeats 400000 in
theorem indexSec_any (A : Option Addr) (c : Nat) (xs : List Sec) (g : Nat) (lb : Array Value) (p : Sec → Bool) (w : World) (eg : ∀ args w, (callFunc g args).run Tryz.prog w = .ok (.enter g args) w)
    (h : Sl w 2 Sec.cells A c xs) (hp : PredOk Tryz.prog g lb Sec.v p w) :
    Calls Tryz.prog 147 #[.slice A xs.length c, .func (.func g) #[] lb] w fun e w' => e = .returned (.int .i64 (idxP p xs 0)) ∧ Keep w w' := by
  have hl := sl_len h
  have HP := Lib.hid hp; clear hp
  go_enter Tryz.func147, Tryz.ntmps147
  go_wp2
  go_loopw [5, 8] (fun _ i wr => ∃ k : Nat, k ≤ xs.length ∧ i = .int .i64 k ∧ Hid (Keep w wr) ∧ Hid (∀ j, (h : j < xs.length) → j < k → p xs[j] = false)) (fun _ i _ => xs.length - (intOf i).toNat)
  case atStart => exact ⟨0, Nat.zero_le _, rfl, Keep.refl _, fun j _ hj => absurd hj (Nat.not_lt_zero _)⟩
  case round =>
    obtain ⟨k, hk, rfl, HK, HR⟩ := hrel
    by_cases hlt : k < xs.length
    · have hcall := HP.out wr xs[k] HK.out
      obtain ⟨b, off, rfl, hb, h0, h1⟩ := sl_sec (h.keep HK.out) k hlt
      clear h
      by_cases hq : p xs[k] = true
      · rw [hq] at hcall
        have HC := Lib.hid hcall
        have HQ := Lib.hid hq
        clear hcall hq
        go_wp2_with (go_at_fn g; refine HC.out.mono ?_; rintro e w' ⟨rfl, hk'⟩)
        go_ret
        exact ⟨ret_int (by rw [idxP_at p xs 0 k HR.out, List.drop_eq_getElem_cons hlt]; simp [idxP, HQ.out]), HK.out.trans hk'⟩
      · have hq' : p xs[k] = false := by simpa using hq
        rw [hq'] at hcall
        have HC := Lib.hid hcall
        have HQ := Lib.hid hq'
        clear hcall hq hq'
        go_wp2_with (go_at_fn g; refine HC.out.mono ?_; rintro e w' ⟨rfl, hk'⟩)
        go_roundw
        case rel => exact ⟨k + 1, by omega, by go_num, HK.out.trans hk', fun j hj hjk => by
          by_cases e : j = k
          · subst e; exact HQ.out
          · exact HR.out j hj (by omega)⟩
        case measure => simp [intOf]; omega
    · go_wp2
      go_ret
      exact ⟨ret_int (by rw [idxP_at p xs 0 xs.length fun j hj _ => HR.out j hj (by omega)]; simp [idxP]), HK.out⟩

theorem secf1_any (c : Sec) (n : ByteArray) (b : Nat) (w : World) (h : w.cell? ⟨b, 0, none⟩ = some (.string n)) (hb : b < w.heap.size) : Calls Tryz.prog 148 #[c.v, .pointer (some ⟨b, 0, none⟩)] w fun e w' => e = .returned (.bool (isSec n c)) ∧ Keep w w' := by
  obtain ⟨n', A', c', b'⟩ := c
  simp only [Sec.v]
  go_enter Tryz.func148, Tryz.ntmps148
  go_wp2
  go_ret
  exact ⟨rfl, (by repeat (first | exact Keep.refl _ | apply Keep.alloc | apply Keep.gro | apply Keep.drew | apply Keep.drewN))⟩
theorem secf_any (A : Option Addr) (c : Nat) (cs : List Sec) (n : ByteArray) (w : World) (h : Sl w 2 Sec.cells A c cs) :
    Calls Tryz.prog 87 #[.slice A cs.length c, .string n] w fun e w' => e = .returned (.int .i64 (idxP (isSec n) cs 0)) ∧ Keep w w' := by
  have HS := Lib.hid h
  clear h
  go_enter Tryz.func87, Tryz.ntmps87
  go_wp2_with (go_at_call 147; refine Zone.hold ?_)
  refine Zone.unhold ?_
  refine (indexSec_any A c cs 148 #[.pointer (some ⟨w.heap.size, 0, none⟩)] (isSec n) _ (enters_of Tryz.func148 (by kernel_rfl) rfl) (HS.out.keep (by repeat (first | exact Keep.refl _ | apply Keep.alloc | apply Keep.gro | apply Keep.drew | apply Keep.drewN))) (fun W x hW => secf1_any x n _ W ((hW.cell (p := ⟨w.heap.size, 0, none⟩) (by simp [go_sem])).trans (by simp [go_sem])) (Nat.lt_of_lt_of_le (by simp [go_sem]) hW.size))).mono ?_
  rintro e w' ⟨rfl, hk⟩
  obtain ⟨p, rfl⟩ := gro_of_below _ hk
  clear HS hk
  go_wp2
  go_ret
  exact ⟨rfl, (by repeat (first | exact Keep.refl _ | apply Keep.alloc | apply Keep.gro | apply Keep.drew | apply Keep.drewN))⟩
set_option maxRecDepth 100000 in
set_option maxHeartbeats 1000000 in
theorem secmay_any (A : Option Addr) (c : Nat) (l : List Sec) (w : World) (h : Sl w 2 Sec.cells A c l) (hp : SecsP l) :
    Calls Tryz.prog 84 #[.slice A l.length c] w fun e w' => e = .returned (.int .i64 0) ∧ Keep w w' := by
  have hl := sl_len h
  have H := Lib.hid h
  have HP := Lib.hid hp
  have hf := hp.few
  clear h hp
  go_enter Tryz.func84, Tryz.ntmps84
  go_wp2
  go_loopw [3, 8] (fun e i wr => ∃ k : Nat, k ≤ l.length ∧ i = .int .i64 k ∧ e = .int .i64 0 ∧ Hid (Keep w wr)) (fun _ i _ => l.length - (intOf i).toNat)
  case atStart => exact ⟨0, Nat.zero_le _, rfl, rfl, Keep.refl _⟩
  case round =>
    obtain ⟨k, hk, rfl, rfl, HK⟩ := hrel
    by_cases hlt : k < l.length
    · obtain ⟨b, off, hA, hb, h0, h1⟩ := sl_sec (H.out.keep HK.out) k hlt
      have hn := pB_yes (HP.out.name k hlt)
      have hsm := HP.out.small k hlt
      have HN := Lib.hid (secName_any l[k].name)
      have HZ := Lib.hid (show l[k].name.size ≤ 140737488355328 by have := (HP.out.name k hlt).hi; omega)
      have HF := Lib.hid (secf_any A c l l[k].name)
      have hfi := (sfind_first l k hlt).2 fun j hj => HP.out.one k j hlt hj
      subst hA
      go_wp2_with (first | (go_at_call 145; refine (HN.out _ HZ.out).mono ?_; rintro e w' ⟨rfl, hk⟩; (first | obtain ⟨p, rfl⟩ := Zone.gro_of_gro _ _ hk | obtain ⟨p, rfl⟩ := Zone.gro_of_below _ hk); clear hk) | (go_at_call 87; refine (HF.out _ (H.out.keep (HK.out.trans (by repeat (first | exact Keep.refl _ | apply Keep.alloc | apply Keep.gro | apply Keep.drew | apply Keep.drewN))))).mono ?_; rintro e w' ⟨rfl, hk⟩; (first | obtain ⟨p, rfl⟩ := Zone.gro_of_gro _ _ hk | obtain ⟨p, rfl⟩ := Zone.gro_of_below _ hk); clear hk))
      go_roundw
      case rel => exact ⟨k + 1, by omega, by go_num, rfl, HK.out.trans (by repeat (first | exact Keep.refl _ | apply Keep.alloc | apply Keep.gro | apply Keep.drew | apply Keep.drewN))⟩
      case measure => simp [intOf]; omega
    · go_wp2
      go_ret
      exact ⟨rfl, HK.out⟩
end Go.Proofs.YtmcaednlilhnoaaGreatDoor
namespace Go.Proofs.YtmcaednlilhnoaaGreatDoor
open Go.RowKit Go.Zone Go.Shelf
attribute [local go_sem] Zone.zone Zone.stepZ Zone.fill Zone.lookFs Zone.goes Zone.goesUpon Zone.dropFs Zone.cell_gro Zone.frozen_gro Zone.size_gro Zone.lt_add Zone.drew_gro Zone.tape_gro Zone.keep_refl
attribute [local go_sem] Zone.lt_add2 Zone.lt_add3 Zone.lt_add4 Zone.lt_add5 Zone.lt_add6 Zone.lt_add7 Zone.lt_add8 Zone.lt_add9 Zone.lt_add10 Zone.lt_add11 Zone.lt_add12
/-- a section's bytes in an image -/
def secB (s : Sec) : List UInt8 := [UInt8.ofNat s.name.size] ++ s.name.data.toList ++ frameB s.bs
def imageB (l : List Sec) : List UInt8 := [73, 83, 71, 76] ++ le l.length 2 ++ l.flatMap secB
theorem secB_len {s : Sec} (h : s.name.size ≤ 20) : (secB s).length ≤ s.bs.length + 29 := by
  have hs : s.name.data.toList.length = s.name.size := by rw [Lib.size_eq]
  simp only [secB, List.length_append, frameB_len, List.length_singleton]
  omega
theorem secs_len (l : List Sec) (h : ∀ s ∈ l, s.name.size ≤ 20 ∧ s.bs.length ≤ 1073741824) : (l.flatMap secB).length ≤ l.length * 1073741853 := by
  induction l with
  | nil => simp
  | cons s r ih =>
    have h1 := ih fun y hy => h y (by simp [hy])
    have h2 := h s (by simp)
    have h3 := secB_len h2.1
    simp only [List.flatMap_cons, List.length_append, List.length_cons, Nat.add_mul]
    omega
theorem SecsP.at_ {l : List Sec} (h : SecsP l) : ∀ s ∈ l, s.name.size ≤ 20 ∧ s.bs.length ≤ 1073741824 := fun s hs => by
  obtain ⟨i, hi, rfl⟩ := List.getElem_of_mem hs
  exact ⟨(h.name i hi).hi, h.small i hi⟩
set_option maxRecDepth 100000 in
set_option maxHeartbeats 2000000 in
theorem write_any (A : Option Addr) (c : Nat) (l : List Sec) (w : World) (h : Sl w 2 Sec.cells A c l) (hs : SecsAt w l) (hp : SecsP l) :
    Calls Tryz.prog 43 #[.slice A l.length c] w fun e w' => ∃ v, e = .returned (.tuple #[v, .int .i64 0]) ∧ OwnB w' w.heap.size v (imageB l) ∧ Keep w w' := by
  have hl := sl_len h
  have H := Lib.hid h
  have HS := Lib.hid hs
  have HP := Lib.hid hp
  have hf := hp.few
  have HM := Lib.hid (fun W (hW : Keep w W) => secmay_any A c l W (h.keep hW) hp)
  clear h hs hp
  have kc := fun (w : World) (C : Array Value) (n c : Nat) => Lib.run_convert_bytes_const (P := Tryz.prog) w 74 5 C n c Tryz.underlying74 Tryz.underlying5
  go_enter Tryz.func43, Tryz.ntmps43
  go_wp2_with (go_at_call 84; refine Zone.hold ?_)
  refine Zone.unhold ?_
  refine (HM.out _ (by repeat (first | exact Keep.refl _ | apply Keep.alloc | apply Keep.gro | apply Keep.drew | apply Keep.drewN))).mono ?_
  rintro e w1 ⟨rfl, hk1⟩
  have HK1 := Lib.hid hk1
  clear hk1 HM
  go_wp2_with (go_at_call 59; refine Zone.hold ?_)
  refine Zone.unhold ?_
  have hs4 : SlB (w1.alloc (.cells #[.int .u8 73, .int .u8 83, .int .u8 71, .int .u8 76] 5 (4, 5))) (some ⟨w1.heap.size, 0, none⟩) 4 [73, 83, 71, 76] := by
    refine ⟨by decide, by decide, by decide, fun i hi => ⟨w1.heap.size, 0, rfl, fun j u hu => ?_⟩⟩
    match i, hi, j, hu with
    | 0, _, 0, hu => cases hu; exact (cell_of_row _ _ _ _ _ _ (heap_alloc_new _ _)).trans rfl
    | 1, _, 0, hu => cases hu; exact (cell_of_row _ _ _ _ _ _ (heap_alloc_new _ _)).trans rfl
    | 2, _, 0, hu => cases hu; exact (cell_of_row _ _ _ _ _ _ (heap_alloc_new _ _)).trans rfl
    | 3, _, 0, hu => cases hu; exact (cell_of_row _ _ _ _ _ _ (heap_alloc_new _ _)).trans rfl
  refine (app16_any _ 4 [73, 83, 71, 76] l.length (by omega) _ hs4 (by decide)).mono ?_
  rintro e w2 ⟨v2, rfl, hown2, hk2⟩
  have HK2 := Lib.hid (HK1.out.trans (Keep.trans (Keep.alloc (Keep.refl _) _) hk2))
  have HO2 := Lib.hid (hown2.base_mono (by simp; exact Nat.le_succ_of_le HK1.out.size) : OwnB w2 w.heap.size v2 _)
  clear hs4 hown2 hk2 kc HK1
  go_wp2
  go_loopw [5, 21] (fun v i wr => ∃ (k : Nat) (o : Value) (pre : List UInt8), k ≤ l.length ∧ i = .int .i64 k ∧ o = v ∧ Hid (OwnB wr w.heap.size o pre) ∧ Hid (pre = [73, 83, 71, 76] ++ le l.length 2 ++ (l.take k).flatMap secB) ∧ pre.length ≤ 6 + k * 1073741853 ∧ Hid (Keep w wr)) (fun _ i _ => l.length - (intOf i).toNat)
  case atStart => exact ⟨0, _, _, Nat.zero_le _, rfl, rfl, HO2.out, (by show _ = _; simp), by simp [le_len], HK2.out⟩
  case round =>
    clear HO2 HK2
    obtain ⟨k, o, pre, hk, rfl, rfl, HO, HPR, hpl, HK⟩ := hrel
    by_cases hlt : k < l.length
    · obtain ⟨b, off, hA, hb, h0, h1⟩ := sl_sec (H.out.keep HK.out) k hlt
      have hz := HP.out.at_ l[k] (List.getElem_mem hlt)
      obtain ⟨hz1, hz2⟩ := hz
      have HSB := Lib.hid (HS.out l[k] (List.getElem_mem hlt))
      subst hA
      have HT := Lib.hid (show (l.take (k + 1)).flatMap secB = (l.take k).flatMap secB ++ secB l[k] by rw [List.take_succ_eq_append_getElem hlt, List.flatMap_append]; simp)
      generalize l[k] = s at h0 h1 hz1 hz2 HSB HT
      obtain ⟨nm, sA, sc, sb⟩ := s
      simp only at h0 h1 hz1 hz2 HSB HT
      have HSZ := Lib.hid (show nm.data.toList.length = nm.size by rw [Lib.size_eq])
      have hke : Hid (Keep wr ((wr.alloc (.cells #[.string nm, .slice sA sb.length sc] 126)).alloc (.cells #[.int .u8 (nm.size : Int)] 5))) := (by repeat (first | exact Keep.refl _ | apply Keep.alloc | apply Keep.gro | apply Keep.drew | apply Keep.drewN))
      go_wp2_with (at_builtin; refine Zone.hold ?_)
      refine Zone.unhold ?_
      have HO3 : OwnB ((wr.alloc (.cells #[.string nm, .slice sA sb.length sc] 126)).alloc (.cells #[.int .u8 (nm.size : Int)] 5)) w.heap.size o pre := HO.out.keep hke.out
      have hwz := HK.out.size
      refine wpList_app elt_u8 b8_len b8_one rfl (.tmp 25) (.tmp 30) rfl (ys := [UInt8.ofNat nm.size]) HO3 rfl rfl (sl_one _ (by omega) (by omega) (b8_at _ (by rw [u8_nat, show (nm.size : Int) % 256 = nm.size by omega]; simp [go_sem]))) (by simp; omega) (by simp; omega) ?_
      intro v3 w3 hown3 hg3 hd3
      have ⟨a1, a2, _⟩ := HO3.after (w := w) hg3 (HK.out.trans hke.out) (Nat.le_refl _)
      have hol := HO.out.lt
      have hne : v3.ownBlock ≠ some wr.heap.size := by
        rcases hd3 with e | e
        · rw [e]
          intro e2
          have := (hol _ e2).2
          omega
        · rw [e]
          simp
          omega
      have c0 : w3.cell? ⟨wr.heap.size, 0, none⟩ = some (.string nm) := hg3.cell (by simp [go_sem]) fun hj => by have := (hol _ hj.symm).2; simp at this
      have c1 : w3.cell? ⟨wr.heap.size, 1, none⟩ = some (.slice sA sb.length sc) := hg3.cell (by simp [go_sem]) fun hj => by have := (hol _ hj.symm).2; simp at this
      have hb3 : wr.heap.size < w3.heap.size := block_lt_of_cell c0
      have HA3 := Lib.hid a1
      have HO4 := Lib.hid hown3
      have HC1 := Lib.hid c1
      have HNE := Lib.hid hne
      clear hown3 hg3 hd3 a1 a2 HO3 hol hne c1 h0 h1
      go_wp2_with (at_builtin; refine Zone.hold ?_)
      refine Zone.unhold ?_
      refine wpList_appS rfl (.tmp 32) (.tmp 34) rfl rfl HO4.out nm rfl (by simp; omega) HA3.out.size ?_
      intro v4 w4 hown4 hg4
      have ⟨a1, a2, _⟩ := HO4.out.after (w := w) hg4 HA3.out (Nat.le_refl _)
      have c1 := hg4.cell HC1.out fun hj => HNE.out hj.symm
      have hb4 : wr.heap.size < w4.heap.size := block_lt_of_cell c1
      have HA4 := Lib.hid a1
      have HO5 := Lib.hid hown4
      clear hown4 hg4 a1 a2 HO4 HC1 HNE c0
      have HFR := Lib.hid (frame_any sA sc sb w4 (HSB.out.keep HA4.out) hz2)
      go_wp2_with (go_at_call 85; refine Zone.hold ?_)
      refine Zone.unhold ?_
      refine HFR.out.mono ?_
      rintro e w5 ⟨v5, rfl, hown5, hk5⟩
      obtain ⟨L, A5, c5, rfl, HS5, _, HL5⟩ := ownB_open hown5 (by rw [frameB_len]; omega)
      have HLL := Lib.hid (show L.length = sb.length + 8 by rw [HL5.out, frameB_len])
      have HO6 := Lib.hid (HO5.out.keep hk5)
      have HA5 := Lib.hid (HA4.out.trans hk5)
      clear hown5 hk5 HO5 HFR c1
      go_wp2_with (at_builtin; refine Zone.hold ?_)
      refine Zone.unhold ?_
      refine wpList_app elt_u8 b8_len b8_one rfl (.tmp 36) (.tmp 39) rfl (ys := L) HO6.out rfl rfl HS5.out (by have := HLL.out; have := HSZ.out; simp only [List.length_append, List.length_singleton]; omega) HA5.out.size ?_
      intro v6 w6 hown6 hg6 _
      have ⟨a1, a2, _⟩ := HO6.out.after (w := w) hg6 HA5.out (Nat.le_refl _)
      have HO7 := Lib.hid hown6
      have HA6 := Lib.hid a1
      clear hown6 hg6 a1 a2 HO6
      go_wp2
      go_roundw
      case rel => exact ⟨k + 1, _, _, by omega, by go_num, rfl, HO7.out, (by
        show _ = _
        rw [HT.out, HPR.out, HL5.out]
        simp [secB]), (by
        have := HLL.out
        have := HSZ.out
        simp only [List.length_append, List.length_singleton]
        omega), HA6.out⟩
      case measure => simp [intOf]; omega
    · have hkl : k = l.length := by omega
      subst hkl
      rw [List.take_length] at HPR
      go_wp2
      exact bodyPost_ret (v := .tuple #[o, .int .i64 0]) (by simp [results, Tryz.results43, go_sem]) rfl ⟨o, rfl, by have := HO.out; rw [HPR.out] at this; exact this, HK.out⟩
end Go.Proofs.YtmcaednlilhnoaaGreatDoor
namespace Go.Proofs.YtmcaednlilhnoaaGreatDoor
open Go.RowKit Go.Zone Go.Shelf
attribute [local go_sem] Zone.zone Zone.stepZ Zone.fill Zone.lookFs Zone.goes Zone.goesUpon Zone.dropFs Zone.cell_gro Zone.frozen_gro Zone.size_gro Zone.lt_add Zone.drew_gro Zone.tape_gro Zone.keep_refl
attribute [local go_sem] Zone.lt_add2 Zone.lt_add3 Zone.lt_add4 Zone.lt_add5 Zone.lt_add6 Zone.lt_add7 Zone.lt_add8 Zone.lt_add9 Zone.lt_add10 Zone.lt_add11 Zone.lt_add12
/-- where a section begins -/
def posB (S : List Sec) (k : Nat) : Nat := 6 + ((S.take k).flatMap secB).length
theorem image_drop (S : List Sec) (k : Nat) : (imageB S).drop (posB S k) = (S.drop k).flatMap secB := by
  have h : imageB S = ([73, 83, 71, 76] ++ le S.length 2 ++ (S.take k).flatMap secB) ++ (S.drop k).flatMap secB := by
    conv => lhs; unfold imageB; rw [← List.take_append_drop k S, List.flatMap_append]
    simp
  rw [h, List.drop_left' (by simp [posB, le_len]; omega)]
theorem posB_succ (S : List Sec) (k : Nat) (h : k < S.length) : posB S (k + 1) = posB S k + (S[k].name.size + S[k].bs.length + 9) := by
  have hs : S[k].name.data.toList.length = S[k].name.size := by rw [Lib.size_eq]
  simp only [posB]
  rw [List.take_succ_eq_append_getElem h, List.flatMap_append, List.length_append]
  simp only [List.flatMap_cons, List.flatMap_nil, List.append_nil, secB, List.length_append, frameB_len, List.length_singleton]
  omega
theorem posB_end (S : List Sec) : posB S S.length = (imageB S).length := by
  simp [posB, imageB, le_len]; omega
/-- what stands at a section -/
theorem at_sec (S : List Sec) (k : Nat) (h : k < S.length) : ∃ rest, (imageB S).drop (posB S k) = [UInt8.ofNat S[k].name.size] ++ (S[k].name.data.toList ++ (frameB S[k].bs ++ rest)) := by
  refine ⟨(S.drop (k + 1)).flatMap secB, ?_⟩
  rw [image_drop, List.drop_eq_getElem_cons h, List.flatMap_cons]
  simp [secB]
theorem info_sec : (Tryz.prog.info? 126).map (fun i => (i.zero, i.size, i.bytes)) = some (some (.agg #[.string ⟨#[]⟩, .slice none 0 0]), 2, 40) := by kernel_rfl
theorem elt_sec : Elt Tryz.prog 93 126 2 40 := by
  obtain ⟨i, hi, h1, h2, h3⟩ := info_parts info_sec
  exact ⟨i, _, Tryz.underlying93, hi, h1, h2, h3, rfl, by decide, by decide⟩
theorem sec_len (x : Sec) : x.cells.length = 2 := rfl
theorem sec_one (x : Sec) : ∀ u ∈ x.cells, u.oneCell' = true := by simp [Sec.cells, Value.oneCell']
abbrev OwnC (w : World) (base : Nat) (v : Value) (l : List Sec) : Prop := Own w base 126 2 Sec.cells v l
theorem ownC_apart {w : World} {b1 b2 : Nat} {v v2 : Value} {l : List Sec} {xs : List UInt8} (h : OwnC w b1 v l) (h2 : OwnB w b2 v2 xs) : ∀ j, v.ownBlock = some j → v2.ownBlock ≠ some j := by
  intro j hj e
  rcases h.2 with ⟨rfl, _⟩ | ⟨g, cap, cur, rfl, _, hg, _⟩
  · cases hj
  rcases h2.2 with ⟨rfl, _⟩ | ⟨g2, cap2, cur2, rfl, _, hg2, _⟩
  · cases e
  simp only [Value.ownBlock, Option.map_some, Option.some.injEq] at hj e
  subst hj; subst e
  rw [hg] at hg2
  injection hg2 with hg2
  injection hg2 with _ h3 _
  exact absurd h3 (by decide)
def nbS (s : Sec) : ByteArray × List UInt8 := (s.name, s.bs)
/-- bytes of a text's beginning -/
def preS (n : ByteArray) (i : Nat) : ByteArray := ⟨(n.data.toList.take i).toArray⟩
theorem preS_succ (n : ByteArray) (i : Nat) (h : i < n.data.toList.length) : preS n i ++ ⟨[n.data.toList[i]].toArray⟩ = preS n (i + 1) := by
  apply ByteArray.ext
  simp only [preS, ByteArray.data_append, List.append_toArray, List.take_succ_eq_append_getElem h]
theorem preS_all (n : ByteArray) : preS n n.size = n := by
  apply ByteArray.ext
  simp only [preS]
  rw [List.take_of_length_le (by rw [Lib.size_eq]; exact Nat.le_refl _)]
end Go.Proofs.YtmcaednlilhnoaaGreatDoor
