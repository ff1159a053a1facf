
/- sections: isName, Find, may. -/
import Derived.WalkKit
import Derived.Lib.Hide
import Derived.WalkSpells
import Derived.WalkLawsBesides
import Derived.BigQuiet
import Derived.Shelf.Abstract
import Derived.Laws.RangeAny
import Derived.LoopTactic
import Derived.Test.YtcffcblfmlclnaaGreatDoorBs3
import Derived.Test.YtcffcblfmlclnaaGreatDoorBf2
namespace Go.Proofs.YtcffcblfmlclnaaGreatDoor
open Go.RowKit Go.Zone Go.Shelf
attribute [local go_sem] Zone.zone Zone.stepZ Zone.fill Zone.lookFs Zone.goes Zone.goesUpon Zone.dropFs Zone.cell_gro Zone.frozen_gro Zone.size_gro Zone.lt_add Zone.drew_gro Zone.tape_gro Zone.keep_refl
attribute [local go_sem] Zone.lt_add2 Zone.lt_add3 Zone.lt_add4 Zone.lt_add5 Zone.lt_add6 Zone.lt_add7 Zone.lt_add8 Zone.lt_add9 Zone.lt_add10 Zone.lt_add11 Zone.lt_add12
def okS (b : Nat) : Bool := !((decide (b < 97) || decide (122 < b)) && (decide (b < 48) || decide (57 < b)) && !(decide (b = 46)))
structure NameS (s : ByteArray) : Prop where
  ok : ∀ i, (h : i < s.size) → okS (s[i]'h).toNat = true
  lo : 1 ≤ s.size
  hi : s.size ≤ 20
/-- A section. -/
structure Sec where
  name : ByteArray
  A : Option Addr
  c : Nat
  bs : List UInt8
def Sec.cells (s : Sec) : List Value := [.string s.name, .slice s.A s.bs.length s.c]
@[reducible] def Sec.v (s : Sec) : Value := .agg #[.string s.name, .slice s.A s.bs.length s.c]
def isSec (n : ByteArray) (s : Sec) : Bool := s.name.toList == n.toList
def SecsAt (w : World) (l : List Sec) : Prop := ∀ s ∈ l, SlB w s.A s.c s.bs
theorem SecsAt.keep {w w' : World} {l : List Sec} (h : SecsAt w l) (hk : Keep w w') : SecsAt w' l := fun s hs => (h s hs).keep hk
/-- sections that may be -/
structure SecsP (l : List Sec) : Prop where
  name : ∀ i, (h : i < l.length) → NameS l[i].name
  small : ∀ i, (h : i < l.length) → l[i].bs.length ≤ 1073741824
  one : ∀ i k, (h : i < l.length) → (hk : k < i) → (l[k]'(by omega)).name.toList ≠ l[i].name.toList
  few : l.length ≤ 2000
theorem sl_sec {w : World} {c : Nat} {A : Option Addr} {xs : List Sec} (h : Sl w 2 Sec.cells A c xs) (i : Nat) (hi : i < xs.length) : ∃ b off, A = some ⟨b, off, none⟩ ∧ b < w.heap.size ∧ w.cell? ⟨b, off + i * 2, none⟩ = some (.string xs[i].name) ∧
    w.cell? ⟨b, off + i * 2 + 1, none⟩ = some (.slice xs[i].A xs[i].bs.length xs[i].c) := by
  obtain ⟨b, off, hA, hc⟩ := h.at_ i hi
  have h0 := hc 0 _ rfl
  exact ⟨b, off, hA, World.block_lt_of_cell? w _ h0, h0, hc 1 _ rfl⟩
theorem sfind_first (l : List Sec) (i : Nat) (h : i < l.length) : idxP (isSec l[i].name) l 0 = (i : Int) ↔ ∀ k, (hk : k < i) → (l[k]'(by omega)).name.toList ≠ l[i].name.toList := by
  constructor
  · intro he k hk heq
    have := idxP_le (isSec l[i].name) l 0 k (by omega) (by simp [isSec, heq])
    omega
  · intro hall
    have := idxP_first (isSec l[i].name) l 0 i h (by simp [isSec]) fun j hj => by simpa [isSec] using hall j hj
    simpa using this
theorem okS_no {n : Nat} (h : 128 ≤ n) : okS n = false := by unfold okS; simp; omega
/-- what a step of a range gives: an ASCII byte itself, or a number that is no name's -/
theorem okNS (s : ByteArray) (pos : Nat) (h : pos < s.size) : okS (Utf8.decode s pos).1 = okS (s[pos]'h).toNat ∧ (okS (Utf8.decode s pos).1 = true → (Utf8.decode s pos).2 = 1) ∧ 1 ≤ (Utf8.decode s pos).2 := by
  by_cases ha : (s[pos]'h).toNat < 128
  · rw [decode_ascii s pos h ha]
    exact ⟨rfl, fun _ => rfl, Nat.le_refl _⟩
  · have hd := decode_high s pos h (by omega)
    have h1 := okS_no hd.1
    refine ⟨by rw [h1, okS_no (by omega)], fun h => ?_, hd.2⟩
    rw [h1] at h
    cases h
theorem badNS {s : ByteArray} {pos r k : Nat} (_ : ∀ i, (h : i < s.size) → i < pos → okS (s[i]'h).toNat = true) (h : pos < s.size) (hr : okS r = okS (s[pos]'h).toNat ∧ (okS r = true → k = 1) ∧ 1 ≤ k) (hb : okS r = false) : ¬ NameS s := fun hn => by
  have := hn.ok pos h
  rw [← hr.1, hb] at this
  cases this
theorem okS_spec (r : Nat) : okS r = true ↔ (97 ≤ r ∧ r ≤ 122) ∨ (48 ≤ r ∧ r ≤ 57) ∨ r = 46 := by
  unfold okS
  simp
  omega
theorem goodNS {s : ByteArray} {pos r k : Nat} (H : ∀ i, (h : i < s.size) → i < pos → okS (s[i]'h).toNat = true) (h : pos < s.size) (hr : okS r = okS (s[pos]'h).toNat ∧ (okS r = true → k = 1) ∧ 1 ≤ k) (hb : okS r = true) : ∀ i, (h : i < s.size) → i < pos + k → okS (s[i]'h).toNat = true := fun i hi hk => by
  rw [hr.2.1 hb] at hk
  by_cases e : i = pos
  · subst e; rw [← hr.1, hb]
  · exact H i hi (by omega)
set_option maxRecDepth 100000 in
set_option maxHeartbeats 1000000 in
theorem secName_any (s : ByteArray) (w : World) (hz : s.size ≤ 140737488355328) : Calls Tryz.prog 110 #[.string s] w fun e w' => e = .returned (.bool (pB (NameS s))) ∧ Keep w w' := by
  go_enter Tryz.func110, Tryz.ntmps110
  go_wp2
  go_loopw [4] (fun _ wr => ∃ pos : Nat, wr = w.iter s pos ∧ Hid (∀ i, (h : i < s.size) → i < pos → okS (s[i]'h).toNat = true)) (fun _ wr => s.size - wr.iterPos w.heap.size)
  case atStart => exact ⟨0, rfl, fun i h hi => absurd hi (Nat.not_lt_zero _)⟩
  case round =>
    obtain ⟨pos, rfl, HP⟩ := hrel
    by_cases hp : pos < s.size
    · have hnx := fun ty => run_next_any (P := Tryz.prog) w s pos ty hp
      have HR := Lib.hid (okNS s pos hp)
      generalize Utf8.decode s pos = d at hnx HR ⊢
      obtain ⟨r, k⟩ := d
      simp only at hnx HR
      go_wp2
      all_goals first
      | (have hb : okS r = false := by
          rw [Bool.eq_false_iff, ne_eq, okS_spec]
          try simp only [bne_iff_ne, ne_eq] at *
          omega
         go_ret
         exact ⟨ret_bool (pB_no (badNS HP.out hp HR.out hb)).symm, (by repeat (first | exact Keep.refl _ | apply Keep.alloc | apply Keep.gro | apply Keep.drew | apply Keep.drewN))⟩)
      | (have hb : okS r = true := by
          rw [okS_spec]
          try simp only [bne_eq_false_iff_eq] at *
          omega
         go_roundw
         case rel => exact ⟨pos + k, rfl, goodNS HP.out hp HR.out hb⟩
         case measure =>
           have := HR.out.2.2
           simp
           omega)
    · have hnx := fun ty => run_next_end (P := Tryz.prog) w s pos ty hp
      go_wp2
      · go_ret
        exact ⟨by
          by_cases h64 : (s.size : Int) ≤ 20
          · rw [pB_yes ⟨fun i h => HP.out i h (by omega), by omega, by omega⟩]; simp [h64]
          · rw [pB_no fun hn => h64 (by have := hn.hi; omega)]; simp [h64], (by repeat (first | exact Keep.refl _ | apply Keep.alloc | apply Keep.gro | apply Keep.drew | apply Keep.drewN))⟩
      · go_ret
        exact ⟨ret_bool (pB_no fun hn => by have := hn.lo; omega).symm, (by repeat (first | exact Keep.refl _ | apply Keep.alloc | apply Keep.gro | apply Keep.drew | apply Keep.drewN))⟩
set_option maxHeartbeats 400000 in
theorem indexSec_any (A : Option Addr) (c : Nat) (xs : List Sec) (g : Nat) (lb : Array Value) (p : Sec → Bool) (w : World) (eg : ∀ args w, (callFunc g args).run Tryz.prog w = .ok (.enter g args) w)
    (h : Sl w 2 Sec.cells A c xs) (hp : PredOk Tryz.prog g lb Sec.v p w) :
    Calls Tryz.prog 148 #[.slice A xs.length c, .func (.func g) #[] lb] w fun e w' => e = .returned (.int .i64 (idxP p xs 0)) ∧ Keep w w' := by
  have hl := sl_len h
  have HP := Lib.hid hp; clear hp
  go_enter Tryz.func148, Tryz.ntmps148
  go_wp2
  go_loopw [5, 8] (fun _ i wr => ∃ k : Nat, k ≤ xs.length ∧ i = .int .i64 k ∧ Hid (Keep w wr) ∧ Hid (∀ j, (h : j < xs.length) → j < k → p xs[j] = false)) (fun _ i _ => xs.length - (intOf i).toNat)
  case atStart => exact ⟨0, Nat.zero_le _, rfl, Keep.refl _, fun j _ hj => absurd hj (Nat.not_lt_zero _)⟩
  case round =>
    obtain ⟨k, hk, rfl, HK, HR⟩ := hrel
    by_cases hlt : k < xs.length
    · have hcall := HP.out wr xs[k] HK.out
      obtain ⟨b, off, rfl, hb, h0, h1⟩ := sl_sec (h.keep HK.out) k hlt
      clear h
      by_cases hq : p xs[k] = true
      · rw [hq] at hcall
        have HC := Lib.hid hcall
        have HQ := Lib.hid hq
        clear hcall hq
        go_wp2_with (go_at_fn g; refine HC.out.mono ?_; rintro e w' ⟨rfl, hk'⟩)
        go_ret
        exact ⟨ret_int (by rw [idxP_at p xs 0 k HR.out, List.drop_eq_getElem_cons hlt]; simp [idxP, HQ.out]), HK.out.trans hk'⟩
      · have hq' : p xs[k] = false := by simpa using hq
        rw [hq'] at hcall
        have HC := Lib.hid hcall
        have HQ := Lib.hid hq'
        clear hcall hq hq'
        go_wp2_with (go_at_fn g; refine HC.out.mono ?_; rintro e w' ⟨rfl, hk'⟩)
        go_roundw
        case rel => exact ⟨k + 1, by omega, by go_num, HK.out.trans hk', fun j hj hjk => by
          by_cases e : j = k
          · subst e; exact HQ.out
          · exact HR.out j hj (by omega)⟩
        case measure => simp [intOf]; omega
    · go_wp2
      go_ret
      exact ⟨ret_int (by rw [idxP_at p xs 0 xs.length fun j hj _ => HR.out j hj (by omega)]; simp [idxP]), HK.out⟩

theorem secf1_any (c : Sec) (n : ByteArray) (b : Nat) (w : World) (h : w.cell? ⟨b, 0, none⟩ = some (.string n)) (hb : b < w.heap.size) : Calls Tryz.prog 149 #[c.v, .pointer (some ⟨b, 0, none⟩)] w fun e w' => e = .returned (.bool (isSec n c)) ∧ Keep w w' := by
  obtain ⟨n', A', c', b'⟩ := c
  simp only [Sec.v]
  go_enter Tryz.func149, Tryz.ntmps149
  go_wp2
  go_ret
  exact ⟨rfl, (by repeat (first | exact Keep.refl _ | apply Keep.alloc | apply Keep.gro | apply Keep.drew | apply Keep.drewN))⟩
theorem secf_any (A : Option Addr) (c : Nat) (cs : List Sec) (n : ByteArray) (w : World) (h : Sl w 2 Sec.cells A c cs) :
    Calls Tryz.prog 111 #[.slice A cs.length c, .string n] w fun e w' => e = .returned (.int .i64 (idxP (isSec n) cs 0)) ∧ Keep w w' := by
  have HS := Lib.hid h
  clear h
  go_enter Tryz.func111, Tryz.ntmps111
  go_wp2_with (go_at_call 148; refine Zone.hold ?_)
  refine Zone.unhold ?_
  refine (indexSec_any A c cs 149 #[.pointer (some ⟨w.heap.size, 0, none⟩)] (isSec n) _ (enters_of Tryz.func149 (by kernel_rfl) rfl) (HS.out.keep (by repeat (first | exact Keep.refl _ | apply Keep.alloc | apply Keep.gro | apply Keep.drew | apply Keep.drewN))) (fun W x hW => secf1_any x n _ W ((hW.cell (p := ⟨w.heap.size, 0, none⟩) (by simp [go_sem])).trans (by simp [go_sem])) (Nat.lt_of_lt_of_le (by simp [go_sem]) hW.size))).mono ?_
  rintro e w' ⟨rfl, hk⟩
  obtain ⟨p, rfl⟩ := gro_of_below _ hk
  clear HS hk
  go_wp2
  go_ret
  exact ⟨rfl, (by repeat (first | exact Keep.refl _ | apply Keep.alloc | apply Keep.gro | apply Keep.drew | apply Keep.drewN))⟩
set_option maxRecDepth 100000 in
set_option maxHeartbeats 1000000 in
theorem secmay_any (A : Option Addr) (c : Nat) (l : List Sec) (w : World) (h : Sl w 2 Sec.cells A c l) (hp : SecsP l) :
    Calls Tryz.prog 62 #[.slice A l.length c] w fun e w' => e = .returned (.int .i64 0) ∧ Keep w w' := by
  have hl := sl_len h
  have H := Lib.hid h
  have HP := Lib.hid hp
  have hf := hp.few
  clear h hp
  go_enter Tryz.func62, Tryz.ntmps62
  go_wp2
  go_loopw [3, 8] (fun e i wr => ∃ k : Nat, k ≤ l.length ∧ i = .int .i64 k ∧ e = .int .i64 0 ∧ Hid (Keep w wr)) (fun _ i _ => l.length - (intOf i).toNat)
  case atStart => exact ⟨0, Nat.zero_le _, rfl, rfl, Keep.refl _⟩
  case round =>
    obtain ⟨k, hk, rfl, rfl, HK⟩ := hrel
    by_cases hlt : k < l.length
    · obtain ⟨b, off, hA, hb, h0, h1⟩ := sl_sec (H.out.keep HK.out) k hlt
      have hn := pB_yes (HP.out.name k hlt)
      have hsm := HP.out.small k hlt
      have HN := Lib.hid (secName_any l[k].name)
      have HZ := Lib.hid (show l[k].name.size ≤ 140737488355328 by have := (HP.out.name k hlt).hi; omega)
      have HF := Lib.hid (secf_any A c l l[k].name)
      have hfi := (sfind_first l k hlt).2 fun j hj => HP.out.one k j hlt hj
      subst hA
      go_wp2_with (first | (go_at_call 110; refine (HN.out _ HZ.out).mono ?_; rintro e w' ⟨rfl, hk⟩; (first | obtain ⟨p, rfl⟩ := Zone.gro_of_gro _ _ hk | obtain ⟨p, rfl⟩ := Zone.gro_of_below _ hk); clear hk) | (go_at_call 111; refine (HF.out _ (H.out.keep (HK.out.trans (by repeat (first | exact Keep.refl _ | apply Keep.alloc | apply Keep.gro | apply Keep.drew | apply Keep.drewN))))).mono ?_; rintro e w' ⟨rfl, hk⟩; (first | obtain ⟨p, rfl⟩ := Zone.gro_of_gro _ _ hk | obtain ⟨p, rfl⟩ := Zone.gro_of_below _ hk); clear hk))
      go_roundw
      case rel => exact ⟨k + 1, by omega, by go_num, rfl, HK.out.trans (by repeat (first | exact Keep.refl _ | apply Keep.alloc | apply Keep.gro | apply Keep.drew | apply Keep.drewN))⟩
      case measure => simp [intOf]; omega
    · go_wp2
      go_ret
      exact ⟨rfl, HK.out⟩
end Go.Proofs.YtcffcblfmlclnaaGreatDoor
