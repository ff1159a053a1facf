
/- Contracts of what makes bytes: slices.Clone of bytes, cursor.fixed, AppendU32, AppendU64, AppendUint. -/
import Derived.WalkKit
import Derived.Lib.Hide
import Derived.WalkSpells
import Derived.WalkLawsBesides
import Derived.BigQuiet
import Derived.Shelf.Abstract
import Derived.Lib.SliceRun
import Derived.Test.YtmcaednlilhnoaaGreatDoorJc
import Derived.Test.YtmcaednlilhnoaaGreatDoorJf
import Derived.Lib.AppendStr
import Derived.Test.YtmcaednlilhnoaaGreatDoorJa
import Derived.Test.YtmcaednlilhnoaaGreatDoorJg
import Derived.Laws.MakeOwn
import Derived.Laws.OwnMore
import Derived.Laws.CopyOwn
import Derived.Test.YtmcaednlilhnoaaGreatDoorJd
import Derived.Deep.Cut
import Derived.Deep.CutRange
import Derived.Deep.RegionLaw
namespace Go.Proofs.YtmcaednlilhnoaaGreatDoor
open Go.RowKit Go.Zone Go.Shelf
attribute [local go_sem] Zone.zone Zone.stepZ Zone.fill Zone.lookFs Zone.goes Zone.goesUpon Zone.dropFs Zone.cell_gro Zone.frozen_gro Zone.size_gro Zone.lt_add Zone.drew_gro Zone.tape_gro Zone.keep_refl
def b8 (b : UInt8) : List Value := [.int .u8 (b.toNat : Int)]
theorem info_u8 : (Tryz.prog.info? 5).map (fun i => (i.zero, i.size, i.bytes)) = some (some (.int .u8 0), 1, 1) := by kernel_rfl
theorem elt_u8 : Elt Tryz.prog 74 5 1 1 := by
  obtain ⟨i, hi, h1, h2, h3⟩ := info_parts info_u8
  exact ⟨i, _, Tryz.underlying74, hi, h1, h2, h3, rfl, by decide, by decide⟩
theorem b8_len (x : UInt8) : (b8 x).length = 1 := rfl
theorem b8_one (x : UInt8) : ∀ u ∈ b8 x, u.oneCell' = true := by simp [b8, Value.oneCell']
theorem b8_at (x : UInt8) {w : World} {g : Nat} (h0 : w.cell? ⟨g, 0, none⟩ = some (.int .u8 (x.toNat : Int))) : ∀ j u, (b8 x)[j]? = some u → w.cell? ⟨g, j, none⟩ = some u
  | 0, u, hu => by cases hu; exact h0
abbrev OwnB (w : World) (base : Nat) (v : Value) (bs : List UInt8) : Prop := Own w base 5 1 b8 v bs
abbrev SlB (w : World) (A : Option Addr) (c : Nat) (bs : List UInt8) : Prop := Sl w 1 b8 A c bs
set_option maxRecDepth 100000 in
set_option maxHeartbeats 1000000 in
theorem clone8_any (A : Option Addr) (c : Nat) (xs : List UInt8) (w : World) (h : SlB w A c xs) :
    Calls Tryz.prog 114 #[.slice A xs.length c] w fun e w' => ∃ A' c', e = .returned (.slice A' xs.length c') ∧ OwnB w' w.heap.size (.slice A' xs.length c') xs ∧ Keep w w' := by
  have hn := fun W : World => Lib.run_eql_slice_nil W 74 5 A xs.length c 0 0 Tryz.underlying74
  have hl := h.len
  cases A with
  | none =>
    have hx : xs = [] := by
      rcases xs with _ | ⟨y, r⟩
      · rfl
      · obtain ⟨_, _, hA, _⟩ := h.at_ 0 (by simp)
        cases hA
    subst hx
    simp only [List.length_nil, Option.isNone_none] at hn ⊢
    go_enter Tryz.func114, Tryz.ntmps114
    go_wp2
    go_ret
    exact ⟨none, 0, rfl, Own.nil_ _ _ _ _ _, Keep.refl _⟩
  | some ad =>
    have H := Lib.hid h; clear h
    go_enter Tryz.func114, Tryz.ntmps114
    go_wp2_with (at_builtin; refine Zone.hold ?_)
    refine Zone.unhold ?_
    have HO1 : OwnB (w.alloc (.cells #[] 5)) w.heap.size (.slice (some ⟨w.heap.size, 0, none⟩) 0 0) ([] : List UInt8) := World.ownsRow_made w #[] 0 (Nat.le_refl _) (by unfold maxLen; omega) rfl
    refine wpList_app elt_u8 b8_len b8_one rfl (.tmp 5) (.tmp 6) rfl (ys := xs) HO1 rfl rfl (H.out.keep (by repeat (first | exact Keep.refl _ | apply Keep.alloc | apply Keep.gro | apply Keep.drew | apply Keep.drewN))) (by simp; omega) (by simp) ?_
    intro v1 w1 hown1 hg1 _
    have ⟨a1, a2, a3⟩ := HO1.after (w := w) hg1 (by repeat (first | exact Keep.refl _ | apply Keep.alloc | apply Keep.gro | apply Keep.drew | apply Keep.drewN)) (Nat.le_refl _)
    clear hn a2 a3
    go_wp2
    go_ret
    simp only [List.nil_append] at hown1
    obtain ⟨A', c', hv⟩ := own_form hown1
    exact ⟨A', c', by rw [← hv]; rfl, by rw [← hv]; exact hown1, a1⟩

/-- a number's k lowest bytes, the lowest first -/
def le (n : Nat) : Nat → List UInt8
  | 0 => []
  | k + 1 => le n k ++ [UInt8.ofNat (n / 256 ^ k)]
theorem le_len (n : Nat) : ∀ k, (le n k).length = k
  | 0 => rfl
  | k + 1 => by simp [le, le_len n k]
theorem u8_nat (n : Nat) : ((UInt8.ofNat n).toNat : Int) = (n : Int) % 256 := by
  simp [UInt8.toNat_ofNat]
theorem own_keepB {w w' : World} {base : Nat} {v : Value} {xs : List UInt8} (h : OwnB w base v xs) (hk : Keep w w') : OwnB w' base v xs := h.keep hk
set_option maxRecDepth 100000 in
set_option maxHeartbeats 1000000 in
theorem fixed_any (A : Option Addr) (c : Nat) (xs : List UInt8) (n sz : Nat) (hn : n < 18446744073709551616) (hsz : sz ≤ 8) (w : World) (h : SlB w A c xs) (hl : xs.length ≤ 140000000000000) :
    Calls Tryz.prog 61 #[.slice A xs.length c, .int .u64 n, .int .i64 sz] w fun e w' => ∃ v, e = .returned v ∧ OwnB w' w.heap.size v (xs ++ le n sz) ∧ Keep w w' := by
  have HC := Lib.hid (clone8_any A c xs w h)
  clear h
  go_enter Tryz.func61, Tryz.ntmps61
  go_wp2_with (go_at_call 114; refine Zone.hold ?_)
  refine Zone.unhold ?_
  refine HC.out.mono ?_
  rintro e w1 ⟨A1, c1, rfl, hown1, hk1⟩
  have HO := Lib.hid hown1
  have HK1 := Lib.hid hk1
  clear hown1 hk1 HC
  go_wp2
  go_loopw [10, 0, 1] (fun vi vb vn wr => ∃ (k m : Nat) (o : Value), k ≤ sz ∧ m < 18446744073709551616 ∧ vi = .int .i64 k ∧ o = vb ∧ Hid (OwnB wr w.heap.size o (xs ++ le n k)) ∧ vn = .int .u64 m ∧ Hid (m = n / 256 ^ k) ∧ Hid (Keep w wr) ∧ w.heap.size ≤ wr.heap.size) (fun vi _ _ _ => sz - (intOf vi).toNat)
  case atStart => exact ⟨0, n, _, by omega, hn, rfl, rfl, (by show OwnB _ _ _ _; simp only [le, List.append_nil]; exact HO.out), rfl, (by show _ = _; simp), HK1.out, HK1.out.size⟩
  case round =>
    obtain ⟨k, m, o, hk, hm, rfl, rfl, HO2, rfl, HM, HK2, hz⟩ := hrel
    by_cases hlt : k < sz
    · go_wp2_with (at_builtin; refine Zone.hold ?_)
      refine Zone.unhold ?_
      have HO3 : OwnB (wr.alloc (.cells #[.int .u8 ((m : Int) % 256)] 5)) w.heap.size o (xs ++ le n k) := HO2.out.keep (Keep.alloc (Keep.refl _) _)
      refine wpList_app elt_u8 b8_len b8_one rfl (.tmp 12) (.tmp 15) rfl (ys := [UInt8.ofNat m]) HO3 rfl rfl (sl_one _ (by omega) (by omega) (b8_at _ (by rw [u8_nat]; simp [go_sem]))) (by simp [le_len]; omega) (by simp; omega) ?_
      intro v1 w2 hown2 hg2 _
      have ⟨a1, a2, a3⟩ := HO3.after hg2 (HK2.out.trans (by repeat (first | exact Keep.refl _ | apply Keep.alloc | apply Keep.gro | apply Keep.drew | apply Keep.drewN))) (Nat.le_refl _)
      have HO4 := Lib.hid hown2
      have HA1 := Lib.hid a1
      clear hown2 hg2 HO3 a3
      have hm2 : m / 256 < 18446744073709551616 := by omega
      go_wp2
      go_roundw
      case rel => exact ⟨k + 1, m / 256, _, by omega, hm2, by go_num, rfl, (by show OwnB _ _ _ _; have := HO4.out; rw [HM.out, List.append_assoc] at this; exact this), by go_num, (by show _ = _; rw [HM.out, Nat.div_div_eq_div_mul, Nat.pow_succ]), HA1.out, by simp at a2; omega⟩
      case measure => simp [intOf]; omega
    · have hks : k = sz := by omega
      subst hks
      go_wp2
      go_ret
      exact ⟨_, rfl, HO2.out, HK2.out⟩
theorem app32_any (A : Option Addr) (c : Nat) (xs : List UInt8) (n : Nat) (hn : n < 4294967296) (w : World) (h : SlB w A c xs) (hl : xs.length ≤ 140000000000000) :
    Calls Tryz.prog 36 #[.slice A xs.length c, .int .u32 n] w fun e w' => ∃ v, e = .returned v ∧ OwnB w' w.heap.size v (xs ++ le n 4) ∧ Keep w w' := by
  have HF := Lib.hid (fixed_any A c xs n 4 (by omega) (by omega) w h hl)
  clear h
  go_enter Tryz.func36, Tryz.ntmps36
  go_wp2_with (go_at_call 61; refine Zone.hold ?_)
  refine Zone.unhold ?_
  refine HF.out.mono ?_
  rintro e w1 ⟨v, rfl, hown, hk⟩
  go_wp2
  go_ret
  exact ⟨v, rfl, hown, hk⟩
theorem app64_any (A : Option Addr) (c : Nat) (xs : List UInt8) (n : Nat) (hn : n < 18446744073709551616) (w : World) (h : SlB w A c xs) (hl : xs.length ≤ 140000000000000) :
    Calls Tryz.prog 182 #[.slice A xs.length c, .int .u64 n] w fun e w' => ∃ v, e = .returned v ∧ OwnB w' w.heap.size v (xs ++ le n 8) ∧ Keep w w' := by
  have HF := Lib.hid (fixed_any A c xs n 8 hn (by omega) w h hl)
  clear h
  go_enter Tryz.func182, Tryz.ntmps182
  go_wp2_with (go_at_call 61; refine Zone.hold ?_)
  refine Zone.unhold ?_
  refine HF.out.mono ?_
  rintro e w1 ⟨v, rfl, hown, hk⟩
  go_wp2
  go_ret
  exact ⟨v, rfl, hown, hk⟩
/-- a number as a short one: seven bits a byte -/
def vu : Nat → Nat → List UInt8
  | 0, n => [UInt8.ofNat n]
  | f + 1, n => if 127 < n then UInt8.ofNat (n % 128 + 128) :: vu f (n / 128) else [UInt8.ofNat n]
theorem vu_len : ∀ f n, (vu f n).length ≤ f + 1
  | 0, _ => by simp [vu]
  | f + 1, n => by
    have := vu_len f (n / 128)
    simp only [vu]
    split <;> simp <;> omega
theorem u8_or (n : Nat) : bits .or .u8 ((n : Int) % 256) 128 = ((UInt8.ofNat (n % 128 + 128)).toNat : Int) := by
  rw [u8_nat]
  have h : ∀ k : Fin 256, bits .or .u8 ((k.val : Nat) : Int) 128 = ((k.val % 128 + 128 : Nat) : Int) % 256 := by decide +kernel
  have := h ⟨n % 256, Nat.mod_lt _ (by decide)⟩
  simp only at this
  rw [show ((n : Int) % 256) = ((n % 256 : Nat) : Int) by omega, this]
  omega
set_option maxRecDepth 100000 in
set_option maxHeartbeats 1000000 in
theorem appUint_any (A : Option Addr) (c : Nat) (xs : List UInt8) (n : Nat) (hn : n < 18446744073709551616) (w : World) (h : SlB w A c xs) (hl : xs.length ≤ 140000000000000) :
    Calls Tryz.prog 183 #[.slice A xs.length c, .int .u64 n] w fun e w' => ∃ v, e = .returned v ∧ OwnB w' w.heap.size v (xs ++ vu 9 n) ∧ Keep w w' := by
  have HC := Lib.hid (clone8_any A c xs w h)
  clear h
  go_enter Tryz.func183, Tryz.ntmps183
  go_wp2_with (go_at_call 114; refine Zone.hold ?_)
  refine Zone.unhold ?_
  refine HC.out.mono ?_
  rintro e w1 ⟨A1, c1, rfl, hown1, hk1⟩
  have HO := Lib.hid hown1
  have HK1 := Lib.hid hk1
  clear hown1 hk1 HC
  go_wp2
  go_loopw [0, 1] (fun vb vn wr => ∃ (f m : Nat) (o : Value) (p : List UInt8), m < 18446744073709551616 ∧ o = vb ∧ vn = .int .u64 m ∧ Hid (OwnB wr w.heap.size o (xs ++ p)) ∧ Hid (p ++ vu f m = vu 9 n) ∧ p.length + f = 9 ∧ Hid (m < 128 ^ (f + 1)) ∧ Hid (Keep w wr) ∧ w.heap.size ≤ wr.heap.size) (fun _ vn _ => (intOf vn).toNat)
  case atStart => exact ⟨9, n, _, [], hn, rfl, rfl, (by show OwnB _ _ _ _; simp only [List.append_nil]; exact HO.out), rfl, rfl, (by show _ < _; omega), HK1.out, HK1.out.size⟩
  case round =>
    obtain ⟨f, m, o, p, hm, rfl, rfl, HO2, HP, hpl, HM, HK2, hz⟩ := hrel
    by_cases hgt : 127 < (m : Int)
    · obtain ⟨f', rfl⟩ : ∃ f', f = f' + 1 := ⟨f - 1, by
        rcases f with _ | f
        · have := HM.out; omega
        · rfl⟩
      have HP2 : Hid ((p ++ [UInt8.ofNat (m % 128 + 128)]) ++ vu f' (m / 128) = vu 9 n) := by
        show _ = _
        rw [← HP.out, vu, if_pos (by omega), List.append_assoc]
        rfl
      have HM2 : Hid (m / 128 < 128 ^ (f' + 1)) := by
        show _ < _
        have := HM.out
        rw [Nat.pow_succ] at this
        exact Nat.div_lt_of_lt_mul (by rw [Nat.mul_comm]; exact this)
      go_wp2_with (at_builtin; refine Zone.hold ?_)
      refine Zone.unhold ?_
      have HO3 : OwnB (wr.alloc (.cells #[.int .u8 (bits .or .u8 ((m : Int) % 256) 128)] 5)) w.heap.size o (xs ++ p) := HO2.out.keep (Keep.alloc (Keep.refl _) _)
      refine wpList_app elt_u8 b8_len b8_one rfl (.tmp 11) (.tmp 15) rfl (ys := [UInt8.ofNat (m % 128 + 128)]) HO3 rfl rfl (sl_one _ (by omega) (by omega) (b8_at _ (by rw [← u8_or]; simp [go_sem]))) (by simp; omega) (by simp; omega) ?_
      intro v1 w2 hown2 hg2 _
      have ⟨a1, a2, a3⟩ := HO3.after hg2 (HK2.out.trans (by repeat (first | exact Keep.refl _ | apply Keep.alloc | apply Keep.gro | apply Keep.drew | apply Keep.drewN))) (Nat.le_refl _)
      have HO4 := Lib.hid hown2
      have HA1 := Lib.hid a1
      clear hown2 hg2 HO3 a3
      have hm2 : m / 128 < 18446744073709551616 := by omega
      go_wp2
      go_roundw
      case rel => exact ⟨f', m / 128, _, _, hm2, rfl, by go_num, (by show OwnB _ _ _ _; have := HO4.out; rw [List.append_assoc] at this; exact this), HP2, by simp; omega, HM2, HA1.out, by simp at a2; omega⟩
      case measure => simp [intOf]; omega
    · have HP2 : Hid (p ++ [UInt8.ofNat m] = vu 9 n) := by
        show _ = _
        rw [← HP.out]
        cases f
        · rfl
        · rw [vu, if_neg (by omega)]
      go_wp2_with (at_builtin; refine Zone.hold ?_)
      refine Zone.unhold ?_
      have HO3 : OwnB (wr.alloc (.cells #[.int .u8 (m : Int)] 5)) w.heap.size o (xs ++ p) := HO2.out.keep (Keep.alloc (Keep.refl _) _)
      refine wpList_app elt_u8 b8_len b8_one rfl (.tmp 17) (.tmp 20) rfl (ys := [UInt8.ofNat m]) HO3 rfl rfl (sl_one _ (by omega) (by omega) (b8_at _ (by rw [u8_nat, show (m : Int) % 256 = m by omega]; simp [go_sem]))) (by simp; omega) (by simp; omega) ?_
      intro v1 w2 hown2 hg2 _
      have ⟨a1, a2, a3⟩ := HO3.after hg2 (HK2.out.trans (by repeat (first | exact Keep.refl _ | apply Keep.alloc | apply Keep.gro | apply Keep.drew | apply Keep.drewN))) (Nat.le_refl _)
      have HO4 := Lib.hid hown2
      have HA1 := Lib.hid a1
      clear hown2 hg2 HO3 a3
      go_wp2
      go_ret
      exact ⟨_, rfl, (by have := HO4.out; rw [List.append_assoc, HP2.out] at this; exact this), HA1.out⟩
end Go.Proofs.YtmcaednlilhnoaaGreatDoor
namespace Go.Proofs.YtmcaednlilhnoaaGreatDoor
open Go.RowKit Go.Zone Go.Shelf
attribute [local go_sem] Zone.zone Zone.stepZ Zone.fill Zone.lookFs Zone.goes Zone.goesUpon Zone.dropFs Zone.cell_gro Zone.frozen_gro Zone.size_gro Zone.lt_add Zone.drew_gro Zone.tape_gro Zone.keep_refl
/-- a number of 64 bits, as the program takes it out of an int64 -/
def u64 (n : Int) : Nat := (n % 18446744073709551616).toNat
theorem u64_lt (n : Int) : u64 n < 18446744073709551616 := by unfold u64; omega
theorem u64_eq (n : Int) : IntKind.u64.wrap n = ((u64 n : Nat) : Int) := by unfold u64; simp [IntKind.wrap, IntKind.signed, IntKind.bits]; omega
/-- a value's bytes -/
def vB (x : Val) : List UInt8 := if x.k == 1 then le (u64 x.n) 8 else if x.k == 2 then vu 9 x.s.size ++ x.s.data.toList else []
theorem strCells_b8 (s : ByteArray) : Lib.strCells s = s.data.toList.flatMap b8 := by
  unfold Lib.strCells b8
  generalize s.data.toList = l
  induction l with
  | nil => rfl
  | cons x r ih => simp [List.flatMap_cons, ← ih]
theorem wpList_appS {ops : Array Oper} {rest : List Oper} {o : Oper} {a : Act} {w : World} {Q : Exit → Act → World → Prop} (hgd : o.guard = none) (sl x : Operand)
    (ho : o.op = .call { callee := .builtin .append, args := #[sl, x], argTypes := #[74, 9] })
    {base : Nat} {v : Value} {bs : List UInt8} (hs : a.eval sl = v) (hown : OwnB w base v bs) (s : ByteArray) (hx : a.eval x = .string s)
    (hbytes : bs.length + s.size ≤ 140737488355328) (hbase : base ≤ w.heap.size)
    (h : ∀ v' w', OwnB w' base v' (bs ++ s.data.toList) → w.grownBy w' v.ownBlock → wpList Tryz.prog ops Q rest (a.put o.dst v') w') : wpList Tryz.prog ops Q (o :: rest) a w := by
  obtain ⟨i, hi, h1, h2, h3⟩ := info_parts info_u8
  refine Lib.wpList_append_own_string _ hgd sl x 74 9 ho base 5 i Tryz.underlying74 Tryz.underlying9 hi h1 h2 h3 v bs.length (bs.flatMap b8) hs hown s hx (by unfold maxLen; omega) hbytes hbase ?_
  intro v' w' hr hg _
  refine h v' w' ?_ hg
  unfold OwnB Own
  rw [List.length_append, List.flatMap_append, ← strCells_b8]
  exact hr
set_option maxRecDepth 100000 in
set_option maxHeartbeats 1000000 in
theorem vapp_any (A : Option Addr) (c : Nat) (xs : List UInt8) (v : Val) (w : World) (h : SlB w A c xs) (hl : xs.length ≤ 130000000000000) (hv : (v.s.size : Int) ≤ 1000000000000) :
    Calls Tryz.prog 128 #[.slice A xs.length c, v.v] w fun e w' => ∃ u, e = .returned u ∧ OwnB w' w.heap.size u (xs ++ vB v) ∧ Keep w w' := by
  have HH := Lib.hid h; clear h
  obtain ⟨k0, n0, s0⟩ := v
  simp only at hv
  cases h1 : (k0 == 1)
  · cases h2 : (k0 == 2)
    · have HV : Hid (vB ⟨k0, n0, s0⟩ = []) := by show _ = _; simp [vB, h1, h2]
      go_enter Tryz.func128, Tryz.ntmps128
      go_wp2_with (go_at_call 114; refine Zone.hold ?_)
      refine Zone.unhold ?_
      refine (clone8_any A c xs _ (HH.out.keep (by repeat (first | exact Keep.refl _ | apply Keep.alloc | apply Keep.gro | apply Keep.drew | apply Keep.drewN)))).mono ?_
      rintro e w1 ⟨A1, c1, rfl, hown, hk⟩
      go_wp2
      go_ret
      exact ⟨_, rfl, by rw [HV.out, List.append_nil]; exact hown.base_mono (by simp), Keep.trans (Keep.alloc (Keep.refl _) _) hk⟩
    · have hws : IntKind.u64.wrap (s0.size : Int) = (s0.size : Int) := by rw [u64_eq]; unfold u64; omega
      go_enter Tryz.func128, Tryz.ntmps128
      go_wp2
      first | refine Zone.wp_region_gro 8 (by kernel_rfl) (by kernel_rfl) ?_ | refine Zone.wp_region 8 (by kernel_rfl) (by kernel_rfl) ?_
      simp only [List.take_succ_cons, List.take_zero, List.drop_succ_cons, List.drop_zero]
      iterate 5
        refine Zone.wpZ_step (fun K hK => ?_)
        go_simp
        (refine hK _ _ ?_; clear hK K)
      refine Zone.wpZ_free 21 (fun u W => OwnB W (w.heap.size + 1) u (xs ++ vu 9 s0.size)) rfl (fun _ _ _ hk h => Own.keep h hk) ?_ ?_
      · intro p
        simp only [Zone.fill, Zone.lookFs, List.filter_nil]
        go_simp
        go_at_call 183
        refine (appUint_any A c xs s0.size (by omega) _ (HH.out.keep (by repeat (first | exact Keep.refl _ | apply Keep.alloc | apply Keep.gro | apply Keep.drew | apply Keep.drewN))) (by omega)).mono ?_
        rintro e w1 ⟨u, rfl, hown, hk⟩
        exact ⟨u, rfl, hown.base_mono (by simp [size_gro]), hk⟩
      · simp only [Zone.dropFs, List.filter_nil]
        refine Zone.wpZ_step (fun K hK => ?_)
        unfold Zone.zone Zone.stepZ
        rw [Zone.lookFs_nil (by rfl)]
        go_simp
        (refine hK _ _ ?_; clear hK K)
        refine Zone.wpZ_step (fun K hK => ?_)
        unfold Zone.zone Zone.stepZ
        rw [Zone.lookFs_nil (by rfl)]
        go_simp
        (refine hK _ _ ?_; clear hK K)
        refine Zone.wpZ_nil ?_
        intro p
        simp only [Zone.fill]
        intro u hu
        have HU := Lib.hid hu
        clear hu
        have HV : Hid (vB ⟨k0, n0, s0⟩ = vu 9 s0.size ++ s0.data.toList) := by show _ = _; simp [vB, h1, h2]
        have hlv := vu_len 9 s0.size
        refine wpList_appS rfl (.tmp 21) (.tmp 23) rfl rfl HU.out s0 rfl (by simp; omega) (by simp [size_gro]) ?_
        intro v1 w2 hown2 hg2
        have ⟨a1, a2, a3⟩ := HU.out.after (w := w) hg2 (by repeat (first | exact Keep.refl _ | apply Keep.alloc | apply Keep.gro | apply Keep.drew | apply Keep.drewN)) (Nat.le_succ _)
        have HO4 := Lib.hid hown2
        have HA1 := Lib.hid a1
        clear hown2 hg2 a3 a2
        go_wp2
        go_ret
        exact ⟨_, rfl, (by have := HO4.out; rw [List.append_assoc, ← HV.out] at this; exact Own.base_mono this (by omega)), HA1.out⟩
  · have HV : Hid (vB ⟨k0, n0, s0⟩ = le (u64 n0) 8) := by show _ = _; simp [vB, h1]
    have HU := u64_eq n0
    have HL := u64_lt n0
    go_enter Tryz.func128, Tryz.ntmps128
    go_wp2_with (go_at_call 182; refine Zone.hold ?_)
    refine Zone.unhold ?_
    refine (app64_any A c xs (u64 n0) HL _ (HH.out.keep (by repeat (first | exact Keep.refl _ | apply Keep.alloc | apply Keep.gro | apply Keep.drew | apply Keep.drewN))) (by omega)).mono ?_
    rintro e w1 ⟨u, rfl, hown, hk⟩
    go_wp2
    go_ret
    exact ⟨_, rfl, by rw [HV.out]; exact hown.base_mono (by simp), Keep.trans (Keep.alloc (Keep.refl _) _) hk⟩
/-- a dictionary's bytes -/
def dBytes (kind : Int) (xs : List Val) : List UInt8 := [UInt8.ofNat kind.toNat] ++ le xs.length 4 ++ xs.flatMap vB
theorem vB_len (x : Val) : (vB x).length ≤ x.s.size + 10 := by
  unfold vB
  have := vu_len 9 x.s.size
  have hs : x.s.data.toList.length = x.s.size := by rw [Lib.size_eq]
  split
  · simp [le_len]
  · split
    · rw [List.length_append]; omega
    · simp
theorem flat_vB (xs : List Val) (m : Nat) (h : ∀ x ∈ xs, x.s.size ≤ m) : (xs.flatMap vB).length ≤ xs.length * (m + 10) := by
  induction xs with
  | nil => simp
  | cons x r ih =>
    have h1 := ih fun y hy => h y (by simp [hy])
    have h2 := vB_len x
    have h3 := h x (by simp)
    simp only [List.flatMap_cons, List.length_append, List.length_cons, Nat.add_mul]
    omega
theorem bytes_nil (w : World) : Calls Tryz.prog 71 #[.pointer none] w fun e w' => e = .returned (.slice none 0 0) ∧ w = w' := by
  go_enter Tryz.func71, Tryz.ntmps71
  go_wp2_with (go_at_call 32; refine (none_nil _).mono ?_; rintro e w' ⟨rfl, rfl⟩)
  go_ret
  exact ⟨rfl, rfl⟩
theorem bytes_zero {b c : Nat} {A : Option Addr} {xs : List Val} (w : World) (h : DictAt w b 0 A c xs) : Calls Tryz.prog 71 #[.pointer (some ⟨b, 0, none⟩)] w fun e w' => e = .returned (.slice none 0 0) ∧ w = w' := by
  have HN := Lib.hid (none_at w h)
  clear h
  go_enter Tryz.func71, Tryz.ntmps71
  go_wp2_with (go_at_call 32; refine (HN.out).mono ?_; rintro e w' ⟨rfl, rfl⟩)
  go_ret
  exact ⟨rfl, rfl⟩
set_option maxRecDepth 100000 in
set_option maxHeartbeats 2000000 in
theorem bytes_at {b c : Nat} {A : Option Addr} {xs : List Val} (kind : Int) (w : World) (h : DictAt w b kind A c xs) (hk0 : 0 < kind) (hk1 : kind < 256) (hl : xs.length ≤ 1000000) (hs : ∀ x ∈ xs, x.s.size ≤ 1000000) :
    Calls Tryz.prog 71 #[.pointer (some ⟨b, 0, none⟩)] w fun e w' => ∃ v, e = .returned v ∧ OwnB w' w.heap.size v (dBytes kind xs) ∧ Keep w w' := by
  have HN := Lib.hid (fun W (hW : Keep w W) => by have := none_at W (h.keep hW); rw [show (kind == 0) = false by simp; omega] at this; exact this)
  have h0 := h.k
  have h1 := h.l
  have hb := h.lt
  have HSL := Lib.hid h.sl
  have HSZ := Lib.hid hs
  have hwl : IntKind.u32.wrap (xs.length : Int) = (xs.length : Int) := by simp [IntKind.wrap, IntKind.signed, IntKind.bits]; omega
  clear h hs
  go_enter Tryz.func71, Tryz.ntmps71
  go_wp2_with (go_at_call 32; refine (HN.out _ (by repeat (first | exact Keep.refl _ | apply Keep.alloc | apply Keep.gro | apply Keep.drew | apply Keep.drewN))).mono ?_; rintro e w' ⟨rfl, rfl⟩)
  first | refine Zone.wp_region_gro 11 (by kernel_rfl) (by kernel_rfl) ?_ | refine Zone.wp_region 11 (by kernel_rfl) (by kernel_rfl) ?_
  simp only [List.take_succ_cons, List.take_zero, List.drop_succ_cons, List.drop_zero]
  iterate 4
    refine Zone.wpZ_step (fun K hK => ?_)
    go_simp
    (refine hK _ _ ?_; clear hK K)
  refine Zone.wpZ_free 12 (fun u W => ∃ g, u = .slice (some ⟨g, 0, none⟩) 1 1 ∧ g < W.heap.size ∧ W.cell? ⟨g, 0, none⟩ = some (.int .u8 kind)) rfl (fun _ W W' hk ⟨g, h1, h2, h3⟩ => ⟨g, h1, Nat.lt_of_lt_of_le h2 hk.size, (hk.cell (p := ⟨g, 0, none⟩) h2).trans h3⟩) ?_ ?_
  · intro p
    simp only [Zone.fill, Zone.lookFs, List.filter_nil]
    go_simp
    exact Keep.alloc (Keep.refl _) _
  · simp only [Zone.dropFs, List.filter_nil]
    refine Zone.wpZ_step (fun K hK => ?_)
    unfold Zone.zone Zone.stepZ
    rw [Zone.lookFs_nil (by rfl)]
    go_simp
    (refine hK _ _ ?_; clear hK K)
    refine Zone.wpZ_step (fun K hK => ?_)
    unfold Zone.zone Zone.stepZ
    rw [Zone.lookFs_nil (by rfl)]
    go_simp
    (refine hK _ _ ?_; clear hK K)
    refine Zone.wpZ_step (fun K hK => ?_)
    unfold Zone.zone Zone.stepZ
    rw [Zone.lookFs_nil (by rfl)]
    go_simp
    (refine hK _ _ ?_; clear hK K)
    refine Zone.wpZ_step (fun K hK => ?_)
    unfold Zone.zone Zone.stepZ
    rw [Zone.lookFs_nil (by rfl)]
    go_simp
    (refine hK _ _ ?_; clear hK K)
    refine Zone.wpZ_step (fun K hK => ?_)
    unfold Zone.zone Zone.stepZ
    rw [Zone.lookFs_nil (by rfl)]
    go_simp
    (refine hK _ _ ?_; clear hK K)
    refine Zone.wpZ_step (fun K hK => ?_)
    unfold Zone.zone Zone.stepZ
    rw [Zone.lookFs_nil (by rfl)]
    go_simp
    (refine hK _ _ ?_; clear hK K)
    refine Zone.wpZ_nil ?_
    intro p
    simp only [Zone.fill]
    rintro u ⟨g, rfl, hg, hgc⟩
    have HSB := Lib.hid (show SlB (w.gro p) (some ⟨g, 0, none⟩) 1 [UInt8.ofNat kind.toNat] from sl_one _ (by omega) (by omega) (b8_at _ (by rw [hgc, u8_nat]; congr 2; omega)))
    clear hg hgc
    go_wp2_with (go_at_call 36; refine Zone.hold ?_)
    refine Zone.unhold ?_
    refine (app32_any (some ⟨g, 0, none⟩) 1 [UInt8.ofNat kind.toNat] xs.length (by omega) _ HSB.out (by simp)).mono ?_
    rintro e w1 ⟨v1, rfl, hown, hk⟩
    have HO := Lib.hid (show OwnB w1 w.heap.size v1 _ from hown.base_mono (by simp [size_gro]))
    have hkw := Keep.trans (Keep.gro (Keep.refl w) p) hk
    have hz := hkw.size
    have h1' : w1.cell? ⟨b, 1, none⟩ = some (.slice A xs.length c) := (hkw.cell (p := ⟨b, 1, none⟩) hb).trans h1
    have hb' : b < w1.heap.size := Nat.lt_of_lt_of_le hb hz
    have HK := Lib.hid hkw
    clear hown hk hkw HSB h0 h1 hb
    go_wp2
    go_loopw [25, 3] (fun vi vb wr => ∃ (k : Nat) (o : Value), k ≤ xs.length ∧ vi = .int .i64 k ∧ o = vb ∧ Hid (OwnB wr w.heap.size o ([UInt8.ofNat kind.toNat] ++ le xs.length 4 ++ (xs.take k).flatMap vB)) ∧ Hid (Keep w wr) ∧ w.heap.size ≤ wr.heap.size) (fun vi _ _ => xs.length - (intOf vi).toNat)
    case atStart => exact ⟨0, _, by omega, rfl, rfl, (by show OwnB _ _ _ _; simp only [List.take_zero, List.flatMap_nil, List.append_nil]; exact HO.out), HK.out, hz⟩
    case round =>
      obtain ⟨k, o, hk, rfl, rfl, HO2, HK2, hz2⟩ := hrel
      by_cases hlt : k < xs.length
      · obtain ⟨bx, off, rfl, hbx, c0, c1', c2'⟩ := sl_val (HSL.out.keep HK2.out) k hlt
        have hsz := HSZ.out xs[k] (List.getElem_mem hlt)
        have hvb := vB_len xs[k]
        have hpre := flat_vB (xs.take k) 1000000 (fun x hx => HSZ.out x (List.mem_of_mem_take hx))
        have hpre2 : (xs.take k).length * (1000000 + 10) ≤ 1000000 * 1000010 := Nat.mul_le_mul (by simp; omega) (Nat.le_refl _)
        have HTK := Lib.hid (show (xs.take (k + 1)).flatMap vB = (xs.take k).flatMap vB ++ vB xs[k] by rw [List.take_succ_eq_append_getElem hlt, List.flatMap_append]; simp)
        go_wp2_with (go_at_call 128; refine Zone.hold ?_)
        refine Zone.unhold ?_
        refine (vapp_any none 0 [] xs[k] _ (Sl.nil_ _ (by omega)) (by simp) (by omega)).mono ?_
        rintro e w2 ⟨u, rfl, hown, hk3⟩
        simp only [List.nil_append] at hown
        obtain ⟨A3, c3, rfl, hsl3⟩ := hown.sl b8_len (by omega)
        have hk4 := Keep.trans (Keep.alloc (Keep.refl wr) (.cells #[.int .u8 xs[k].k, .int .i64 xs[k].n, .string xs[k].s] 61)) hk3
        have HS3 := Lib.hid hsl3
        have hz4 := hk4.size
        have HK4 := Lib.hid hk4
        clear hown hk3 hsl3 hk4
        go_wp2_with (at_builtin; refine Zone.hold ?_)
        refine Zone.unhold ?_
        have HO3 := HO2.out.keep HK4.out
        refine wpList_app elt_u8 b8_len b8_one rfl (.tmp 29) (.tmp 31) rfl (ys := vB xs[k]) HO3 rfl rfl HS3.out (by simp only [List.length_append, le_len, List.length_cons, List.length_nil]; omega) (by omega) ?_
        intro v5 w5 hown5 hg5 _
        have ⟨a1, a2, a3⟩ := HO3.after hg5 (HK2.out.trans HK4.out) (Nat.le_refl _)
        have HO4 := Lib.hid hown5
        have HA1 := Lib.hid a1
        clear hown5 hg5 HO3 a3
        go_wp2
        go_roundw
        case rel => exact ⟨k + 1, _, by omega, by go_num, rfl, (by show OwnB _ _ _ _; have := HO4.out; rw [List.append_assoc, ← HTK.out] at this; exact this), HA1.out, by omega⟩
        case measure => simp [intOf]; omega
      · have hkx : k = xs.length := by omega
        subst hkx
        go_wp2
        go_ret
        refine ⟨_, rfl, ?_, HK2.out⟩
        have := HO2.out
        rw [List.take_length] at this
        exact this
end Go.Proofs.YtmcaednlilhnoaaGreatDoor
namespace Go.Proofs.YtmcaednlilhnoaaGreatDoor
/-- how many bits a number has -/
def lenN (n : Nat) : Nat := if n = 0 then 0 else Nat.log2 n + 1
/-- numbers of a width, the first lowest -/
def numL (w : Nat) : List Nat → Nat
  | [] => 0
  | x :: r => x + 2 ^ w * numL w r
def packB (l : List Nat) (w : Nat) : List UInt8 := le (numL w l) ((l.length * w + 7) / 8)
theorem lenN_le {n w : Nat} : lenN n ≤ w ↔ n < 2 ^ w := by
  unfold lenN
  split
  · rename_i h
    subst h
    exact ⟨fun _ => Nat.two_pow_pos w, fun _ => Nat.zero_le _⟩
  · rename_i h
    constructor
    · intro hl
      exact (Nat.log2_lt h).1 (by omega)
    · intro hl
      have := (Nat.log2_lt h).2 hl
      omega
theorem numL_lt {w : Nat} : ∀ (l : List Nat), (∀ x ∈ l, x < 2 ^ w) → numL w l < 2 ^ (l.length * w)
  | [], _ => by simp [numL]
  | x :: r, h => by
    have h1 := numL_lt r fun y hy => h y (by simp [hy])
    have h2 := h x (by simp)
    have h3 : 2 ^ ((x :: r).length * w) = 2 ^ w * 2 ^ (r.length * w) := by rw [← Nat.pow_add]; congr 1; simp [Nat.add_mul, Nat.add_comm]
    rw [h3]
    simp only [numL]
    have h4 : 2 ^ w * (numL w r + 1) ≤ 2 ^ w * 2 ^ (r.length * w) := Nat.mul_le_mul_left _ h1
    rw [Nat.mul_add] at h4
    omega
theorem numL_get {w : Nat} : ∀ (l : List Nat) (i : Nat) (h : i < l.length), (∀ x ∈ l, x < 2 ^ w) → numL w l / 2 ^ (i * w) % 2 ^ w = l[i]
  | x :: r, 0, _, h => by
    have := h x (by simp)
    simp only [numL, Nat.zero_mul, Nat.pow_zero, Nat.div_one, Nat.add_mul_mod_self_left, List.getElem_cons_zero]
    exact Nat.mod_eq_of_lt this
  | x :: r, i + 1, hi, h => by
    have hx := h x (by simp)
    have h1 := numL_get r i (by simpa using hi) fun y hy => h y (by simp [hy])
    have h2 : (i + 1) * w = w + i * w := by rw [Nat.add_mul, Nat.one_mul, Nat.add_comm]
    rw [h2, Nat.pow_add, ← Nat.div_div_eq_div_mul]
    simp only [numL, List.getElem_cons_succ]
    rw [Nat.add_mul_div_left _ _ (Nat.two_pow_pos w), Nat.div_eq_of_lt hx, Nat.zero_add]
    exact h1
theorem numL_bit {w : Nat} (l : List Nat) (i k : Nat) (h : i < l.length) (hl : ∀ x ∈ l, x < 2 ^ w) (hk : k < w) : numL w l / 2 ^ (i * w + k) % 2 = l[i] / 2 ^ k % 2 := by
  rw [← numL_get l i h hl, Nat.pow_add, ← Nat.div_div_eq_div_mul]
  generalize numL w l / 2 ^ (i * w) = y
  have h1 : 2 ^ w = 2 ^ k * (2 * 2 ^ (w - k - 1)) := by
    rw [← Nat.pow_succ', ← Nat.pow_add]
    congr 1
    omega
  rw [h1, Nat.mod_mul_right_div_self, Nat.mod_mul_right_mod]
theorem le_get : ∀ (n k j : Nat) (h : j < (le n k).length), (le n k)[j] = UInt8.ofNat (n / 256 ^ j % 256)
  | n, 0, j, h => absurd h (Nat.not_lt_zero _)
  | n, k + 1, j, h => by
    have hk : (le n k).length = k := le_len n k
    have hj : j < k + 1 := by rwa [le_len] at h
    have e : (le n (k + 1))[j] = (le n k ++ [UInt8.ofNat (n / 256 ^ k)])[j]'(by rw [List.length_append, hk]; simpa using hj) := rfl
    rw [e]
    rcases Nat.lt_or_ge j k with h1 | h1
    · rw [List.getElem_append_left (by omega)]
      exact le_get n k j (by omega)
    · have : j = k := by omega
      subst this
      rw [List.getElem_append_right (by omega)]
      simp only [hk, Nat.sub_self, List.getElem_cons_zero]
      apply UInt8.toNat_inj.1
      simp
theorem pow8 (j : Nat) : 256 ^ j = 2 ^ (8 * j) := by rw [show 256 = 2 ^ 8 from rfl, ← Nat.pow_mul]
/-- one bit more -/
theorem bit_more (N q : Nat) : N % 2 ^ (q + 1) = N % 2 ^ q + N / 2 ^ q % 2 * 2 ^ q := by
  rw [Nat.pow_succ, Nat.mod_mul, Nat.mul_comm (2 ^ q)]
theorem byte_low {M q j : Nat} (hM : M < 2 ^ q) (h : 8 * j ≤ q) (h8 : q < 8 * j + 8) : M / 256 ^ j % 256 = M / 256 ^ j ∧ M / 256 ^ j < 2 ^ (q - 8 * j) := by
  rw [pow8]
  have h1 : M / 2 ^ (8 * j) < 2 ^ (q - 8 * j) := by
    rw [Nat.div_lt_iff_lt_mul (Nat.two_pow_pos _), ← Nat.pow_add]
    rwa [show q - 8 * j + 8 * j = q by omega]
  have h2 : 2 ^ (q - 8 * j) ≤ 2 ^ 7 := Nat.pow_le_pow_right (by decide) (by omega)
  exact ⟨Nat.mod_eq_of_lt (by omega), h1⟩
theorem or_bit {a b t : Nat} (ha : a < 2 ^ t) : a ||| b * 2 ^ t = a + b * 2 ^ t := by
  rw [Nat.or_comm, ← Nat.shiftLeft_eq, ← Nat.shiftLeft_add_eq_or_of_lt ha, Nat.add_comm]
/-- the byte in which the next bit lies -/
theorem byte_more (N q : Nat) : N % 2 ^ (q + 1) / 256 ^ (q / 8) % 256 = (N % 2 ^ q / 256 ^ (q / 8) % 256) ||| (N / 2 ^ q % 2 * 2 ^ (q % 8)) := by
  have hM : N % 2 ^ q < 2 ^ q := Nat.mod_lt _ (Nat.two_pow_pos _)
  obtain ⟨h1, h2⟩ := byte_low (j := q / 8) hM (by omega) (by omega)
  have e : q - 8 * (q / 8) = q % 8 := by omega
  rw [e] at h2
  rw [h1, or_bit h2, bit_more]
  have h3 : 2 ^ q = 256 ^ (q / 8) * 2 ^ (q % 8) := by rw [pow8, ← Nat.pow_add]; congr 1; omega
  have h4 : N / 2 ^ q % 2 * 2 ^ q = 256 ^ (q / 8) * (N / 2 ^ q % 2 * 2 ^ (q % 8)) := by
    rw [h3]
    generalize N / (256 ^ (q / 8) * 2 ^ (q % 8)) % 2 = b
    rw [Nat.mul_left_comm]
  rw [h4, Nat.add_mul_div_left _ _ (Nat.pow_pos (by decide))]
  apply Nat.mod_eq_of_lt
  have h5 : N / 2 ^ q % 2 ≤ 1 := by omega
  have h6 : 2 ^ (q % 8) ≤ 2 ^ 7 := Nat.pow_le_pow_right (by decide) (by omega)
  have h7 : N / 2 ^ q % 2 * 2 ^ (q % 8) ≤ 1 * 2 ^ (q % 8) := Nat.mul_le_mul_right _ h5
  omega
/-- the other bytes -/
theorem byte_else (N q j : Nat) (h : j ≠ q / 8) : N % 2 ^ (q + 1) / 256 ^ j % 256 = N % 2 ^ q / 256 ^ j % 256 := by
  rw [pow8]
  rcases Nat.lt_or_ge j (q / 8) with hj | hj
  · have e : ∀ q', 8 * j + 8 ≤ q' → N % 2 ^ q' / 2 ^ (8 * j) % 256 = N / 2 ^ (8 * j) % 256 := fun q' hq => by
      obtain ⟨d, rfl⟩ : ∃ d, q' = 8 * j + (8 + d) := ⟨q' - 8 * j - 8, by omega⟩
      rw [Nat.pow_add, Nat.mod_mul_right_div_self, Nat.pow_add, show (2 : Nat) ^ 8 = 256 from rfl, Nat.mod_mul_right_mod]
    rw [e (q + 1) (by omega), e q (by omega)]
  · have hq : q + 1 ≤ 8 * j := by omega
    have e : ∀ q', q' ≤ 8 * j → N % 2 ^ q' / 2 ^ (8 * j) = 0 := fun q' hq' =>
      Nat.div_eq_of_lt (Nat.lt_of_lt_of_le (Nat.mod_lt _ (Nat.two_pow_pos _)) (Nat.pow_le_pow_right (by decide) hq'))
    rw [e (q + 1) hq, e q (by omega)]
theorem le_more (N q n : Nat) (h : q / 8 < n) : le (N % 2 ^ (q + 1)) n = (le (N % 2 ^ q) n).set (q / 8) (UInt8.ofNat ((N % 2 ^ q / 256 ^ (q / 8) % 256) ||| (N / 2 ^ q % 2 * 2 ^ (q % 8)))) := by
  apply List.ext_getElem
  · simp [le_len]
  · intro j h1 h2
    rw [List.getElem_set, le_get]
    split
    · rename_i e
      subst e
      rw [byte_more]
    · rename_i e
      rw [le_get, byte_else _ _ _ (fun x => e x.symm)]
end Go.Proofs.YtmcaednlilhnoaaGreatDoor
namespace Go.Zone
open Go.RowKit
section
variable {α : Type} {w w' : World} {base g n c : Nat} {e : TypeId} {enc : α → List Value} {f : α → Value} {xs : List α}
theorem flat1 (hf : ∀ x, enc x = [f x]) (xs : List α) : xs.flatMap enc = xs.map f := by
  induction xs with
  | nil => rfl
  | cons x r ih => simp [hf, ih]
theorem Own.cell1 (hf : ∀ x, enc x = [f x]) (h : Own w base e 1 enc (.slice (some ⟨g, 0, none⟩) n c) xs) (hn : n = xs.length) (j : Nat) (hj : j < xs.length) :
    w.cell? ⟨g, j, none⟩ = some (f xs[j]) ∧ w.frozen? ⟨g, j, none⟩ = false ∧ g < w.heap.size ∧ base ≤ g := by
  rcases h.2 with ⟨h', _⟩ | ⟨g', cap', cur, h', hb, hg, hnc, hcm, hcs, htake⟩
  · simp at h'
  · simp only [Value.slice.injEq, Option.some.injEq, Addr.mk.injEq, and_true, true_and] at h'
    obtain ⟨rfl, _, _⟩ := h'
    refine ⟨?_, by simp [World.frozen?, hg], (Array.getElem?_eq_some_iff.1 hg).1, hb⟩
    have h1 : (xs.flatMap enc)[j]? = some (f xs[j]) := by rw [flat1 hf]; simp [hj]
    rw [← htake, List.getElem?_take, if_pos (by omega)] at h1
    simp only [World.cell?, hg, Option.isSome_none, Bool.false_eq_true, if_false]
    simpa using h1
theorem Own.set1 (hf : ∀ x, enc x = [f x]) (h : Own w base e 1 enc (.slice (some ⟨g, 0, none⟩) n c) xs) (hn : n = xs.length) (j : Nat) (x : α) {u : Value} (hu : u = f x) :
    Own (w.setCell ⟨g, j, none⟩ u) base e 1 enc (.slice (some ⟨g, 0, none⟩) n c) (xs.set j x) := by
  subst hn; subst hu
  have := (World.ownsRow.stored h j (f x)).1
  unfold Zone.Own
  rw [List.length_set, flat1 hf, List.map_set, ← flat1 hf]
  exact this
/-- a slice that is made, all nought -/
theorem own_made1 {P : Program} {t : TypeId} {i : TypeInfo} {z : α} (hf : ∀ x, enc x = [f x]) (hone : (f z).cells = #[f z]) (ht : P.underlying t = some (.slice e)) (hi : P.info? e = some i) (h1 : i.zero = some (f z)) (h2 : i.size = 1) (n base : Nat) (W : World) (hn : i.bytes * n ≤ 281474976710656) (hm : n ≤ 9223372036854775807) (hb : base ≤ W.heap.size) :
    ∃ W', (Instr.makeSlice t (.int .i64 (n : Int)) (.int .i64 (n : Int))).run P W = .ok (.slice (some ⟨W.heap.size, 0, none⟩) n n) W' ∧ Own W' base e 1 enc (.slice (some ⟨W.heap.size, 0, none⟩) n n) (List.replicate n z) ∧ Keep W W' := by
  obtain ⟨W', hr, ho, hg⟩ := run_make_full (P := P) W base t e i (f z) 1 ht hi h1 h2 .i64 .i64 n hn (by unfold maxLen; omega) hb
  refine ⟨W', hr, ?_, ⟨hg.os, hg.tape, hg.output, hg.size, fun k hk => hg.block k hk (by simp)⟩⟩
  unfold Zone.Own
  rw [List.length_replicate, flat1 hf]
  have e1 : (madeCells (f z).cells (n * 1)).toList = (List.replicate n z).map f := by
    apply List.ext_getElem
    · simp [madeCells]
    · intro i h1 h2
      simp [madeCells, hone, Nat.mod_one]
  rw [e1] at ho
  exact ho
end
end Go.Zone
namespace Go.Proofs.YtmcaednlilhnoaaGreatDoor
open Go.RowKit Go.Zone Go.Shelf
theorem step_app {α : Type} {P : Program} {w : World} {t e : TypeId} {k bytes : Nat} (E : Elt P t e k bytes) {enc : α → List Value} (hk : ∀ x, (enc x).length = k) (h1 : ∀ x, ∀ u ∈ enc x, u.oneCell' = true) {ops : Array Oper} {o : Oper} {a : Act} {K : Act → World → Prop} {Q : Exit → Act → World → Prop} {N : Prop}
    (hgd : o.guard = none) (s x : Operand) (ho : o.op = .call { callee := .builtin .append, args := #[s, x], argTypes := #[t, t] })
    {base : Nat} {v : Value} {xs ys : List α} (hown : Own w base e k enc v xs) (hs : a.eval s = v) {A : Option Addr} {c : Nat} (hx : a.eval x = .slice A ys.length c) (hy : Sl w k enc A c ys)
    (hlen : (xs.length + ys.length) * bytes ≤ 140737488355328) (hbase : base ≤ w.heap.size)
    (h : ∀ v' w', Own w' base e k enc v' (xs ++ ys) → w.grownBy w' v.ownBlock → (v'.ownBlock = v.ownBlock ∨ v'.ownBlock = some w.heap.size) → K (a.put o.dst v') w') : if Region.wanted o (yielded ops a.tmps) = true then Oper.wp P o a w K Q else N := by
  have hw : Region.wanted o (yielded ops a.tmps) = true := by simp [Region.wanted, hgd]
  rw [if_pos hw]
  obtain ⟨v', w', hr, h2, h3, h4⟩ := run_app1 (ty := o.type) E hk h1 hown hy hlen hbase
  unfold Oper.wp execOp
  simp only [ho, resolve, invoke, builtin, Sem.run_bind, Sem.run_pure, Result.andThen_ok, List.map_toArray, List.map_cons, List.map_nil, hs, hx, hr]
  exact h v' w' h2 h3 h4
theorem step_appS {ops : Array Oper} {o : Oper} {a : Act} {w : World} {K : Act → World → Prop} {Q : Exit → Act → World → Prop} {N : Prop} (hgd : o.guard = none) (sl x : Operand)
    (ho : o.op = .call { callee := .builtin .append, args := #[sl, x], argTypes := #[74, 9] })
    {base : Nat} {v : Value} {bs : List UInt8} (hs : a.eval sl = v) (hown : OwnB w base v bs) (s : ByteArray) (hx : a.eval x = .string s)
    (hbytes : bs.length + s.size ≤ 140737488355328) (hbase : base ≤ w.heap.size)
    (h : ∀ v' w', OwnB w' base v' (bs ++ s.data.toList) → w.grownBy w' v.ownBlock → K (a.put o.dst v') w') : if Region.wanted o (yielded ops a.tmps) = true then Oper.wp Tryz.prog o a w K Q else N := by
  have hw : Region.wanted o (yielded ops a.tmps) = true := by simp [Region.wanted, hgd]
  rw [if_pos hw]
  obtain ⟨i, hi, h1, h2, h3⟩ := info_parts info_u8
  obtain ⟨v', w', hr, h4, h5, _⟩ := Lib.run_append_own_string (P := Tryz.prog) w base 74 9 o.type 5 i Tryz.underlying74 Tryz.underlying9 hi h1 h2 h3 v bs.length (bs.flatMap b8) hown s (by unfold maxLen; omega) hbytes hbase
  unfold Oper.wp execOp
  simp only [ho, resolve, invoke, builtin, Sem.run_bind, Sem.run_pure, Result.andThen_ok, List.map_toArray, List.map_cons, List.map_nil, hs, hx, hr]
  refine h v' w' ?_ h5
  unfold OwnB Own
  rw [List.length_append, List.flatMap_append, ← strCells_b8]
  exact h4
end Go.Proofs.YtmcaednlilhnoaaGreatDoor
