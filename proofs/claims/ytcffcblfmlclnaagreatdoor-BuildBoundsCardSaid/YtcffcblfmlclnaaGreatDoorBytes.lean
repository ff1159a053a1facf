
/- Contracts of what makes bytes: slices.Clone of bytes, cursor.fixed, AppendU32, AppendU64, AppendUint. -/
import Derived.WalkKit
import Derived.Lib.Hide
import Derived.WalkSpells
import Derived.WalkLawsBesides
import Derived.BigQuiet
import Derived.Shelf.Abstract
import Derived.Lib.SliceRun
import Derived.Test.YtcffcblfmlclnaaGreatDoorPut
import Derived.Test.YtcffcblfmlclnaaGreatDoorCompact
namespace Go.Proofs.YtcffcblfmlclnaaGreatDoor
open Go.RowKit Go.Zone Go.Shelf
attribute [local go_sem] Zone.zone Zone.stepZ Zone.fill Zone.lookFs Zone.goes Zone.goesUpon Zone.dropFs Zone.cell_gro Zone.frozen_gro Zone.size_gro Zone.lt_add Zone.drew_gro Zone.tape_gro Zone.keep_refl
def b8 (b : UInt8) : List Value := [.int .u8 (b.toNat : Int)]
theorem info_u8 : (Tryz.prog.info? 5).map (fun i => (i.zero, i.size, i.bytes)) = some (some (.int .u8 0), 1, 1) := by kernel_rfl
theorem elt_u8 : Elt Tryz.prog 33 5 1 1 := by
  obtain ⟨i, hi, h1, h2, h3⟩ := info_parts info_u8
  exact ⟨i, _, Tryz.underlying33, hi, h1, h2, h3, rfl, by decide, by decide⟩
theorem b8_len (x : UInt8) : (b8 x).length = 1 := rfl
theorem b8_one (x : UInt8) : ∀ u ∈ b8 x, u.oneCell' = true := by simp [b8, Value.oneCell']
theorem b8_at (x : UInt8) {w : World} {g : Nat} (h0 : w.cell? ⟨g, 0, none⟩ = some (.int .u8 (x.toNat : Int))) : ∀ j u, (b8 x)[j]? = some u → w.cell? ⟨g, j, none⟩ = some u
  | 0, u, hu => by cases hu; exact h0
abbrev OwnB (w : World) (base : Nat) (v : Value) (bs : List UInt8) : Prop := Own w base 5 1 b8 v bs
abbrev SlB (w : World) (A : Option Addr) (c : Nat) (bs : List UInt8) : Prop := Sl w 1 b8 A c bs
set_option maxRecDepth 100000 in
set_option maxHeartbeats 1000000 in
theorem clone8_any (A : Option Addr) (c : Nat) (xs : List UInt8) (w : World) (h : SlB w A c xs) :
    Calls Tryz.prog 76 #[.slice A xs.length c] w fun e w' => ∃ A' c', e = .returned (.slice A' xs.length c') ∧ OwnB w' w.heap.size (.slice A' xs.length c') xs ∧ Keep w w' := by
  have hn := fun W : World => Lib.run_eql_slice_nil W 33 5 A xs.length c 0 0 Tryz.underlying33
  have hl := h.len
  cases A with
  | none =>
    have hx : xs = [] := by
      rcases xs with _ | ⟨y, r⟩
      · rfl
      · obtain ⟨_, _, hA, _⟩ := h.at_ 0 (by simp)
        cases hA
    subst hx
    simp only [List.length_nil, Option.isNone_none] at hn ⊢
    go_enter Tryz.func76, Tryz.ntmps76
    go_wp2
    go_ret
    exact ⟨none, 0, rfl, Own.nil_ _ _ _ _ _, Keep.refl _⟩
  | some ad =>
    have H := Lib.hid h; clear h
    go_enter Tryz.func76, Tryz.ntmps76
    go_wp2_with (at_builtin; refine Zone.hold ?_)
    refine Zone.unhold ?_
    have HO1 : OwnB (w.alloc (.cells #[] 5)) w.heap.size (.slice (some ⟨w.heap.size, 0, none⟩) 0 0) ([] : List UInt8) := World.ownsRow_made w #[] 0 (Nat.le_refl _) (by unfold maxLen; omega) rfl
    refine wpList_app elt_u8 b8_len b8_one rfl (.tmp 5) (.tmp 6) rfl (ys := xs) HO1 rfl rfl (H.out.keep (by repeat (first | exact Keep.refl _ | apply Keep.alloc | apply Keep.gro | apply Keep.drew | apply Keep.drewN))) (by simp; omega) (by simp) ?_
    intro v1 w1 hown1 hg1 _
    have ⟨a1, a2, a3⟩ := HO1.after (w := w) hg1 (by repeat (first | exact Keep.refl _ | apply Keep.alloc | apply Keep.gro | apply Keep.drew | apply Keep.drewN)) (Nat.le_refl _)
    clear hn a2 a3
    go_wp2
    go_ret
    simp only [List.nil_append] at hown1
    obtain ⟨A', c', hv⟩ := own_form hown1
    exact ⟨A', c', by rw [← hv]; rfl, by rw [← hv]; exact hown1, a1⟩

/-- a number's k lowest bytes, the lowest first -/
def le (n : Nat) : Nat → List UInt8
  | 0 => []
  | k + 1 => le n k ++ [UInt8.ofNat (n / 256 ^ k)]
theorem le_len (n : Nat) : ∀ k, (le n k).length = k
  | 0 => rfl
  | k + 1 => by simp [le, le_len n k]
theorem u8_nat (n : Nat) : ((UInt8.ofNat n).toNat : Int) = (n : Int) % 256 := by
  simp [UInt8.toNat_ofNat]
theorem own_keepB {w w' : World} {base : Nat} {v : Value} {xs : List UInt8} (h : OwnB w base v xs) (hk : Keep w w') : OwnB w' base v xs := h.keep hk
set_option maxRecDepth 100000 in
set_option maxHeartbeats 1000000 in
theorem fixed_any (A : Option Addr) (c : Nat) (xs : List UInt8) (n sz : Nat) (hn : n < 18446744073709551616) (hsz : sz ≤ 8) (w : World) (h : SlB w A c xs) (hl : xs.length ≤ 140000000000000) :
    Calls Tryz.prog 39 #[.slice A xs.length c, .int .u64 n, .int .i64 sz] w fun e w' => ∃ v, e = .returned v ∧ OwnB w' w.heap.size v (xs ++ le n sz) ∧ Keep w w' := by
  have HC := Lib.hid (clone8_any A c xs w h)
  clear h
  go_enter Tryz.func39, Tryz.ntmps39
  go_wp2_with (go_at_call 76; refine Zone.hold ?_)
  refine Zone.unhold ?_
  refine HC.out.mono ?_
  rintro e w1 ⟨A1, c1, rfl, hown1, hk1⟩
  have HO := Lib.hid hown1
  have HK1 := Lib.hid hk1
  clear hown1 hk1 HC
  go_wp2
  go_loopw [10, 0, 1] (fun vi vb vn wr => ∃ (k m : Nat) (o : Value), k ≤ sz ∧ m < 18446744073709551616 ∧ vi = .int .i64 k ∧ o = vb ∧ Hid (OwnB wr w.heap.size o (xs ++ le n k)) ∧ vn = .int .u64 m ∧ Hid (m = n / 256 ^ k) ∧ Hid (Keep w wr) ∧ w.heap.size ≤ wr.heap.size) (fun vi _ _ _ => sz - (intOf vi).toNat)
  case atStart => exact ⟨0, n, _, by omega, hn, rfl, rfl, (by show OwnB _ _ _ _; simp only [le, List.append_nil]; exact HO.out), rfl, (by show _ = _; simp), HK1.out, HK1.out.size⟩
  case round =>
    obtain ⟨k, m, o, hk, hm, rfl, rfl, HO2, rfl, HM, HK2, hz⟩ := hrel
    by_cases hlt : k < sz
    · go_wp2_with (at_builtin; refine Zone.hold ?_)
      refine Zone.unhold ?_
      have HO3 : OwnB (wr.alloc (.cells #[.int .u8 ((m : Int) % 256)] 5)) w.heap.size o (xs ++ le n k) := HO2.out.keep (Keep.alloc (Keep.refl _) _)
      refine wpList_app elt_u8 b8_len b8_one rfl (.tmp 12) (.tmp 15) rfl (ys := [UInt8.ofNat m]) HO3 rfl rfl (sl_one _ (by omega) (by omega) (b8_at _ (by rw [u8_nat]; simp [go_sem]))) (by simp [le_len]; omega) (by simp; omega) ?_
      intro v1 w2 hown2 hg2 _
      have ⟨a1, a2, a3⟩ := HO3.after hg2 (HK2.out.trans (by repeat (first | exact Keep.refl _ | apply Keep.alloc | apply Keep.gro | apply Keep.drew | apply Keep.drewN))) (Nat.le_refl _)
      have HO4 := Lib.hid hown2
      have HA1 := Lib.hid a1
      clear hown2 hg2 HO3 a3
      have hm2 : m / 256 < 18446744073709551616 := by omega
      go_wp2
      go_roundw
      case rel => exact ⟨k + 1, m / 256, _, by omega, hm2, by go_num, rfl, (by show OwnB _ _ _ _; have := HO4.out; rw [HM.out, List.append_assoc] at this; exact this), by go_num, (by show _ = _; rw [HM.out, Nat.div_div_eq_div_mul, Nat.pow_succ]), HA1.out, by simp at a2; omega⟩
      case measure => simp [intOf]; omega
    · have hks : k = sz := by omega
      subst hks
      go_wp2
      go_ret
      exact ⟨_, rfl, HO2.out, HK2.out⟩
theorem app32_any (A : Option Addr) (c : Nat) (xs : List UInt8) (n : Nat) (hn : n < 4294967296) (w : World) (h : SlB w A c xs) (hl : xs.length ≤ 140000000000000) :
    Calls Tryz.prog 18 #[.slice A xs.length c, .int .u32 n] w fun e w' => ∃ v, e = .returned v ∧ OwnB w' w.heap.size v (xs ++ le n 4) ∧ Keep w w' := by
  have HF := Lib.hid (fixed_any A c xs n 4 (by omega) (by omega) w h hl)
  clear h
  go_enter Tryz.func18, Tryz.ntmps18
  go_wp2_with (go_at_call 39; refine Zone.hold ?_)
  refine Zone.unhold ?_
  refine HF.out.mono ?_
  rintro e w1 ⟨v, rfl, hown, hk⟩
  go_wp2
  go_ret
  exact ⟨v, rfl, hown, hk⟩
theorem app64_any (A : Option Addr) (c : Nat) (xs : List UInt8) (n : Nat) (hn : n < 18446744073709551616) (w : World) (h : SlB w A c xs) (hl : xs.length ≤ 140000000000000) :
    Calls Tryz.prog 130 #[.slice A xs.length c, .int .u64 n] w fun e w' => ∃ v, e = .returned v ∧ OwnB w' w.heap.size v (xs ++ le n 8) ∧ Keep w w' := by
  have HF := Lib.hid (fixed_any A c xs n 8 hn (by omega) w h hl)
  clear h
  go_enter Tryz.func130, Tryz.ntmps130
  go_wp2_with (go_at_call 39; refine Zone.hold ?_)
  refine Zone.unhold ?_
  refine HF.out.mono ?_
  rintro e w1 ⟨v, rfl, hown, hk⟩
  go_wp2
  go_ret
  exact ⟨v, rfl, hown, hk⟩
/-- a number as a short one: seven bits a byte -/
def vu : Nat → Nat → List UInt8
  | 0, n => [UInt8.ofNat n]
  | f + 1, n => if 127 < n then UInt8.ofNat (n % 128 + 128) :: vu f (n / 128) else [UInt8.ofNat n]
theorem vu_len : ∀ f n, (vu f n).length ≤ f + 1
  | 0, _ => by simp [vu]
  | f + 1, n => by
    have := vu_len f (n / 128)
    simp only [vu]
    split <;> simp <;> omega
theorem u8_or (n : Nat) : bits .or .u8 ((n : Int) % 256) 128 = ((UInt8.ofNat (n % 128 + 128)).toNat : Int) := by
  rw [u8_nat]
  have h : ∀ k : Fin 256, bits .or .u8 ((k.val : Nat) : Int) 128 = ((k.val % 128 + 128 : Nat) : Int) % 256 := by decide +kernel
  have := h ⟨n % 256, Nat.mod_lt _ (by decide)⟩
  simp only at this
  rw [show ((n : Int) % 256) = ((n % 256 : Nat) : Int) by omega, this]
  omega
set_option maxRecDepth 100000 in
set_option maxHeartbeats 1000000 in
theorem appUint_any (A : Option Addr) (c : Nat) (xs : List UInt8) (n : Nat) (hn : n < 18446744073709551616) (w : World) (h : SlB w A c xs) (hl : xs.length ≤ 140000000000000) :
    Calls Tryz.prog 131 #[.slice A xs.length c, .int .u64 n] w fun e w' => ∃ v, e = .returned v ∧ OwnB w' w.heap.size v (xs ++ vu 9 n) ∧ Keep w w' := by
  have HC := Lib.hid (clone8_any A c xs w h)
  clear h
  go_enter Tryz.func131, Tryz.ntmps131
  go_wp2_with (go_at_call 76; refine Zone.hold ?_)
  refine Zone.unhold ?_
  refine HC.out.mono ?_
  rintro e w1 ⟨A1, c1, rfl, hown1, hk1⟩
  have HO := Lib.hid hown1
  have HK1 := Lib.hid hk1
  clear hown1 hk1 HC
  go_wp2
  go_loopw [0, 1] (fun vb vn wr => ∃ (f m : Nat) (o : Value) (p : List UInt8), m < 18446744073709551616 ∧ o = vb ∧ vn = .int .u64 m ∧ Hid (OwnB wr w.heap.size o (xs ++ p)) ∧ Hid (p ++ vu f m = vu 9 n) ∧ p.length + f = 9 ∧ Hid (m < 128 ^ (f + 1)) ∧ Hid (Keep w wr) ∧ w.heap.size ≤ wr.heap.size) (fun _ vn _ => (intOf vn).toNat)
  case atStart => exact ⟨9, n, _, [], hn, rfl, rfl, (by show OwnB _ _ _ _; simp only [List.append_nil]; exact HO.out), rfl, rfl, (by show _ < _; omega), HK1.out, HK1.out.size⟩
  case round =>
    obtain ⟨f, m, o, p, hm, rfl, rfl, HO2, HP, hpl, HM, HK2, hz⟩ := hrel
    by_cases hgt : 127 < (m : Int)
    · obtain ⟨f', rfl⟩ : ∃ f', f = f' + 1 := ⟨f - 1, by
        rcases f with _ | f
        · have := HM.out; omega
        · rfl⟩
      have HP2 : Hid ((p ++ [UInt8.ofNat (m % 128 + 128)]) ++ vu f' (m / 128) = vu 9 n) := by
        show _ = _
        rw [← HP.out, vu, if_pos (by omega), List.append_assoc]
        rfl
      have HM2 : Hid (m / 128 < 128 ^ (f' + 1)) := by
        show _ < _
        have := HM.out
        rw [Nat.pow_succ] at this
        exact Nat.div_lt_of_lt_mul (by rw [Nat.mul_comm]; exact this)
      go_wp2_with (at_builtin; refine Zone.hold ?_)
      refine Zone.unhold ?_
      have HO3 : OwnB (wr.alloc (.cells #[.int .u8 (bits .or .u8 ((m : Int) % 256) 128)] 5)) w.heap.size o (xs ++ p) := HO2.out.keep (Keep.alloc (Keep.refl _) _)
      refine wpList_app elt_u8 b8_len b8_one rfl (.tmp 11) (.tmp 15) rfl (ys := [UInt8.ofNat (m % 128 + 128)]) HO3 rfl rfl (sl_one _ (by omega) (by omega) (b8_at _ (by rw [← u8_or]; simp [go_sem]))) (by simp; omega) (by simp; omega) ?_
      intro v1 w2 hown2 hg2 _
      have ⟨a1, a2, a3⟩ := HO3.after hg2 (HK2.out.trans (by repeat (first | exact Keep.refl _ | apply Keep.alloc | apply Keep.gro | apply Keep.drew | apply Keep.drewN))) (Nat.le_refl _)
      have HO4 := Lib.hid hown2
      have HA1 := Lib.hid a1
      clear hown2 hg2 HO3 a3
      have hm2 : m / 128 < 18446744073709551616 := by omega
      go_wp2
      go_roundw
      case rel => exact ⟨f', m / 128, _, _, hm2, rfl, by go_num, (by show OwnB _ _ _ _; have := HO4.out; rw [List.append_assoc] at this; exact this), HP2, by simp; omega, HM2, HA1.out, by simp at a2; omega⟩
      case measure => simp [intOf]; omega
    · have HP2 : Hid (p ++ [UInt8.ofNat m] = vu 9 n) := by
        show _ = _
        rw [← HP.out]
        cases f
        · rfl
        · rw [vu, if_neg (by omega)]
      go_wp2_with (at_builtin; refine Zone.hold ?_)
      refine Zone.unhold ?_
      have HO3 : OwnB (wr.alloc (.cells #[.int .u8 (m : Int)] 5)) w.heap.size o (xs ++ p) := HO2.out.keep (Keep.alloc (Keep.refl _) _)
      refine wpList_app elt_u8 b8_len b8_one rfl (.tmp 17) (.tmp 20) rfl (ys := [UInt8.ofNat m]) HO3 rfl rfl (sl_one _ (by omega) (by omega) (b8_at _ (by rw [u8_nat, show (m : Int) % 256 = m by omega]; simp [go_sem]))) (by simp; omega) (by simp; omega) ?_
      intro v1 w2 hown2 hg2 _
      have ⟨a1, a2, a3⟩ := HO3.after hg2 (HK2.out.trans (by repeat (first | exact Keep.refl _ | apply Keep.alloc | apply Keep.gro | apply Keep.drew | apply Keep.drewN))) (Nat.le_refl _)
      have HO4 := Lib.hid hown2
      have HA1 := Lib.hid a1
      clear hown2 hg2 HO3 a3
      go_wp2
      go_ret
      exact ⟨_, rfl, (by have := HO4.out; rw [List.append_assoc, HP2.out] at this; exact this), HA1.out⟩
end Go.Proofs.YtcffcblfmlclnaaGreatDoor
