
/- Contracts of values.Append and of the dictionary's Bytes. -/
import Derived.WalkKit
import Derived.Lib.Hide
import Derived.WalkSpells
import Derived.WalkLawsBesides
import Derived.BigQuiet
import Derived.Shelf.Abstract
import Derived.Lib.AppendStr
import Derived.Test.YtcffcblfmlclnaaGreatDoorBytes
import Derived.Test.YtcffcblfmlclnaaGreatDoorZoneF
import Derived.Test.YtcffcblfmlclnaaGreatDoorDictM
namespace Go.Proofs.YtcffcblfmlclnaaGreatDoor
open Go.RowKit Go.Zone Go.Shelf
attribute [local go_sem] Zone.zone Zone.stepZ Zone.fill Zone.lookFs Zone.goes Zone.goesUpon Zone.dropFs Zone.cell_gro Zone.frozen_gro Zone.size_gro Zone.lt_add Zone.drew_gro Zone.tape_gro Zone.keep_refl
/-- a number of 64 bits, as the program takes it out of an int64 -/
def u64 (n : Int) : Nat := (n % 18446744073709551616).toNat
theorem u64_lt (n : Int) : u64 n < 18446744073709551616 := by unfold u64; omega
theorem u64_eq (n : Int) : IntKind.u64.wrap n = ((u64 n : Nat) : Int) := by unfold u64; simp [IntKind.wrap, IntKind.signed, IntKind.bits]; omega
/-- a value's bytes -/
def vB (x : Val) : List UInt8 := if x.k == 1 then le (u64 x.n) 8 else if x.k == 2 then vu 9 x.s.size ++ x.s.data.toList else []
theorem strCells_b8 (s : ByteArray) : Lib.strCells s = s.data.toList.flatMap b8 := by
  unfold Lib.strCells b8
  generalize s.data.toList = l
  induction l with
  | nil => rfl
  | cons x r ih => simp [List.flatMap_cons, ← ih]
theorem wpList_appS {ops : Array Oper} {rest : List Oper} {o : Oper} {a : Act} {w : World} {Q : Exit → Act → World → Prop} (hgd : o.guard = none) (sl x : Operand)
    (ho : o.op = .call { callee := .builtin .append, args := #[sl, x], argTypes := #[33, 9] })
    {base : Nat} {v : Value} {bs : List UInt8} (hs : a.eval sl = v) (hown : OwnB w base v bs) (s : ByteArray) (hx : a.eval x = .string s)
    (hbytes : bs.length + s.size ≤ 140737488355328) (hbase : base ≤ w.heap.size)
    (h : ∀ v' w', OwnB w' base v' (bs ++ s.data.toList) → w.grownBy w' v.ownBlock → wpList Tryz.prog ops Q rest (a.put o.dst v') w') : wpList Tryz.prog ops Q (o :: rest) a w := by
  obtain ⟨i, hi, h1, h2, h3⟩ := info_parts info_u8
  refine Lib.wpList_append_own_string _ hgd sl x 33 9 ho base 5 i Tryz.underlying33 Tryz.underlying9 hi h1 h2 h3 v bs.length (bs.flatMap b8) hs hown s hx (by unfold maxLen; omega) hbytes hbase ?_
  intro v' w' hr hg _
  refine h v' w' ?_ hg
  unfold OwnB Own
  rw [List.length_append, List.flatMap_append, ← strCells_b8]
  exact hr
set_option maxRecDepth 100000 in
set_option maxHeartbeats 1000000 in
theorem vapp_any (A : Option Addr) (c : Nat) (xs : List UInt8) (v : Val) (w : World) (h : SlB w A c xs) (hl : xs.length ≤ 130000000000000) (hv : (v.s.size : Int) ≤ 1000000000000) :
    Calls Tryz.prog 92 #[.slice A xs.length c, v.v] w fun e w' => ∃ u, e = .returned u ∧ OwnB w' w.heap.size u (xs ++ vB v) ∧ Keep w w' := by
  have HH := Lib.hid h; clear h
  obtain ⟨k0, n0, s0⟩ := v
  simp only at hv
  cases h1 : (k0 == 1)
  · cases h2 : (k0 == 2)
    · have HV : Hid (vB ⟨k0, n0, s0⟩ = []) := by show _ = _; simp [vB, h1, h2]
      go_enter Tryz.func92, Tryz.ntmps92
      go_wp2_with (go_at_call 76; refine Zone.hold ?_)
      refine Zone.unhold ?_
      refine (clone8_any A c xs _ (HH.out.keep (by repeat (first | exact Keep.refl _ | apply Keep.alloc | apply Keep.gro | apply Keep.drew | apply Keep.drewN)))).mono ?_
      rintro e w1 ⟨A1, c1, rfl, hown, hk⟩
      go_wp2
      go_ret
      exact ⟨_, rfl, by rw [HV.out, List.append_nil]; exact hown.base_mono (by simp), Keep.trans (Keep.alloc (Keep.refl _) _) hk⟩
    · have hws : IntKind.u64.wrap (s0.size : Int) = (s0.size : Int) := by rw [u64_eq]; unfold u64; omega
      go_enter Tryz.func92, Tryz.ntmps92
      go_wp2
      first | refine Zone.wp_region_gro 8 (by kernel_rfl) (by kernel_rfl) ?_ | refine Zone.wp_region 8 (by kernel_rfl) (by kernel_rfl) ?_
      simp only [List.take_succ_cons, List.take_zero, List.drop_succ_cons, List.drop_zero]
      iterate 5
        refine Zone.wpZ_step (fun K hK => ?_)
        go_simp
        (refine hK _ _ ?_; clear hK K)
      refine Zone.wpZ_free 21 (fun u W => OwnB W (w.heap.size + 1) u (xs ++ vu 9 s0.size)) rfl (fun _ _ _ hk h => Own.keep h hk) ?_ ?_
      · intro p
        simp only [Zone.fill, Zone.lookFs, List.filter_nil]
        go_simp
        go_at_call 131
        refine (appUint_any A c xs s0.size (by omega) _ (HH.out.keep (by repeat (first | exact Keep.refl _ | apply Keep.alloc | apply Keep.gro | apply Keep.drew | apply Keep.drewN))) (by omega)).mono ?_
        rintro e w1 ⟨u, rfl, hown, hk⟩
        exact ⟨u, rfl, hown.base_mono (by simp [size_gro]), hk⟩
      · simp only [Zone.dropFs, List.filter_nil]
        refine Zone.wpZ_step (fun K hK => ?_)
        unfold Zone.zone Zone.stepZ
        rw [Zone.lookFs_nil (by rfl)]
        go_simp
        (refine hK _ _ ?_; clear hK K)
        refine Zone.wpZ_step (fun K hK => ?_)
        unfold Zone.zone Zone.stepZ
        rw [Zone.lookFs_nil (by rfl)]
        go_simp
        (refine hK _ _ ?_; clear hK K)
        refine Zone.wpZ_nil ?_
        intro p
        simp only [Zone.fill]
        intro u hu
        have HU := Lib.hid hu
        clear hu
        have HV : Hid (vB ⟨k0, n0, s0⟩ = vu 9 s0.size ++ s0.data.toList) := by show _ = _; simp [vB, h1, h2]
        have hlv := vu_len 9 s0.size
        refine wpList_appS rfl (.tmp 21) (.tmp 23) rfl rfl HU.out s0 rfl (by simp; omega) (by simp [size_gro]) ?_
        intro v1 w2 hown2 hg2
        have ⟨a1, a2, a3⟩ := HU.out.after (w := w) hg2 (by repeat (first | exact Keep.refl _ | apply Keep.alloc | apply Keep.gro | apply Keep.drew | apply Keep.drewN)) (Nat.le_succ _)
        have HO4 := Lib.hid hown2
        have HA1 := Lib.hid a1
        clear hown2 hg2 a3 a2
        go_wp2
        go_ret
        exact ⟨_, rfl, (by have := HO4.out; rw [List.append_assoc, ← HV.out] at this; exact Own.base_mono this (by omega)), HA1.out⟩
  · have HV : Hid (vB ⟨k0, n0, s0⟩ = le (u64 n0) 8) := by show _ = _; simp [vB, h1]
    have HU := u64_eq n0
    have HL := u64_lt n0
    go_enter Tryz.func92, Tryz.ntmps92
    go_wp2_with (go_at_call 130; refine Zone.hold ?_)
    refine Zone.unhold ?_
    refine (app64_any A c xs (u64 n0) HL _ (HH.out.keep (by repeat (first | exact Keep.refl _ | apply Keep.alloc | apply Keep.gro | apply Keep.drew | apply Keep.drewN))) (by omega)).mono ?_
    rintro e w1 ⟨u, rfl, hown, hk⟩
    go_wp2
    go_ret
    exact ⟨_, rfl, by rw [HV.out]; exact hown.base_mono (by simp), Keep.trans (Keep.alloc (Keep.refl _) _) hk⟩
/-- a dictionary's bytes -/
def dBytes (kind : Int) (xs : List Val) : List UInt8 := [UInt8.ofNat kind.toNat] ++ le xs.length 4 ++ xs.flatMap vB
theorem vB_len (x : Val) : (vB x).length ≤ x.s.size + 10 := by
  unfold vB
  have := vu_len 9 x.s.size
  have hs : x.s.data.toList.length = x.s.size := by rw [Lib.size_eq]
  split
  · simp [le_len]
  · split
    · rw [List.length_append]; omega
    · simp
theorem flat_vB (xs : List Val) (m : Nat) (h : ∀ x ∈ xs, x.s.size ≤ m) : (xs.flatMap vB).length ≤ xs.length * (m + 10) := by
  induction xs with
  | nil => simp
  | cons x r ih =>
    have h1 := ih fun y hy => h y (by simp [hy])
    have h2 := vB_len x
    have h3 := h x (by simp)
    simp only [List.flatMap_cons, List.length_append, List.length_cons, Nat.add_mul]
    omega
theorem bytes_nil (w : World) : Calls Tryz.prog 49 #[.pointer none] w fun e w' => e = .returned (.slice none 0 0) ∧ w = w' := by
  go_enter Tryz.func49, Tryz.ntmps49
  go_wp2_with (go_at_call 87; refine (none_nil _).mono ?_; rintro e w' ⟨rfl, rfl⟩)
  go_ret
  exact ⟨rfl, rfl⟩
theorem bytes_zero {b c : Nat} {A : Option Addr} {xs : List Val} (w : World) (h : DictAt w b 0 A c xs) : Calls Tryz.prog 49 #[.pointer (some ⟨b, 0, none⟩)] w fun e w' => e = .returned (.slice none 0 0) ∧ w = w' := by
  have HN := Lib.hid (none_at w h)
  clear h
  go_enter Tryz.func49, Tryz.ntmps49
  go_wp2_with (go_at_call 87; refine (HN.out).mono ?_; rintro e w' ⟨rfl, rfl⟩)
  go_ret
  exact ⟨rfl, rfl⟩
set_option maxRecDepth 100000 in
set_option maxHeartbeats 2000000 in
theorem bytes_at {b c : Nat} {A : Option Addr} {xs : List Val} (kind : Int) (w : World) (h : DictAt w b kind A c xs) (hk0 : 0 < kind) (hk1 : kind < 256) (hl : xs.length ≤ 1000000) (hs : ∀ x ∈ xs, x.s.size ≤ 1000000) :
    Calls Tryz.prog 49 #[.pointer (some ⟨b, 0, none⟩)] w fun e w' => ∃ v, e = .returned v ∧ OwnB w' w.heap.size v (dBytes kind xs) ∧ Keep w w' := by
  have HN := Lib.hid (fun W (hW : Keep w W) => by have := none_at W (h.keep hW); rw [show (kind == 0) = false by simp; omega] at this; exact this)
  have h0 := h.k
  have h1 := h.l
  have hb := h.lt
  have HSL := Lib.hid h.sl
  have HSZ := Lib.hid hs
  have hwl : IntKind.u32.wrap (xs.length : Int) = (xs.length : Int) := by simp [IntKind.wrap, IntKind.signed, IntKind.bits]; omega
  clear h hs
  go_enter Tryz.func49, Tryz.ntmps49
  go_wp2_with (go_at_call 87; refine (HN.out _ (by repeat (first | exact Keep.refl _ | apply Keep.alloc | apply Keep.gro | apply Keep.drew | apply Keep.drewN))).mono ?_; rintro e w' ⟨rfl, rfl⟩)
  first | refine Zone.wp_region_gro 11 (by kernel_rfl) (by kernel_rfl) ?_ | refine Zone.wp_region 11 (by kernel_rfl) (by kernel_rfl) ?_
  simp only [List.take_succ_cons, List.take_zero, List.drop_succ_cons, List.drop_zero]
  iterate 4
    refine Zone.wpZ_step (fun K hK => ?_)
    go_simp
    (refine hK _ _ ?_; clear hK K)
  refine Zone.wpZ_free 12 (fun u W => ∃ g, u = .slice (some ⟨g, 0, none⟩) 1 1 ∧ g < W.heap.size ∧ W.cell? ⟨g, 0, none⟩ = some (.int .u8 kind)) rfl (fun _ W W' hk ⟨g, h1, h2, h3⟩ => ⟨g, h1, Nat.lt_of_lt_of_le h2 hk.size, (hk.cell (p := ⟨g, 0, none⟩) h2).trans h3⟩) ?_ ?_
  · intro p
    simp only [Zone.fill, Zone.lookFs, List.filter_nil]
    go_simp
    exact Keep.alloc (Keep.refl _) _
  · simp only [Zone.dropFs, List.filter_nil]
    refine Zone.wpZ_step (fun K hK => ?_)
    unfold Zone.zone Zone.stepZ
    rw [Zone.lookFs_nil (by rfl)]
    go_simp
    (refine hK _ _ ?_; clear hK K)
    refine Zone.wpZ_step (fun K hK => ?_)
    unfold Zone.zone Zone.stepZ
    rw [Zone.lookFs_nil (by rfl)]
    go_simp
    (refine hK _ _ ?_; clear hK K)
    refine Zone.wpZ_step (fun K hK => ?_)
    unfold Zone.zone Zone.stepZ
    rw [Zone.lookFs_nil (by rfl)]
    go_simp
    (refine hK _ _ ?_; clear hK K)
    refine Zone.wpZ_step (fun K hK => ?_)
    unfold Zone.zone Zone.stepZ
    rw [Zone.lookFs_nil (by rfl)]
    go_simp
    (refine hK _ _ ?_; clear hK K)
    refine Zone.wpZ_step (fun K hK => ?_)
    unfold Zone.zone Zone.stepZ
    rw [Zone.lookFs_nil (by rfl)]
    go_simp
    (refine hK _ _ ?_; clear hK K)
    refine Zone.wpZ_step (fun K hK => ?_)
    unfold Zone.zone Zone.stepZ
    rw [Zone.lookFs_nil (by rfl)]
    go_simp
    (refine hK _ _ ?_; clear hK K)
    refine Zone.wpZ_nil ?_
    intro p
    simp only [Zone.fill]
    rintro u ⟨g, rfl, hg, hgc⟩
    have HSB := Lib.hid (show SlB (w.gro p) (some ⟨g, 0, none⟩) 1 [UInt8.ofNat kind.toNat] from sl_one _ (by omega) (by omega) (b8_at _ (by rw [hgc, u8_nat]; congr 2; omega)))
    clear hg hgc
    go_wp2_with (go_at_call 18; refine Zone.hold ?_)
    refine Zone.unhold ?_
    refine (app32_any (some ⟨g, 0, none⟩) 1 [UInt8.ofNat kind.toNat] xs.length (by omega) _ HSB.out (by simp)).mono ?_
    rintro e w1 ⟨v1, rfl, hown, hk⟩
    have HO := Lib.hid (show OwnB w1 w.heap.size v1 _ from hown.base_mono (by simp [size_gro]))
    have hkw := Keep.trans (Keep.gro (Keep.refl w) p) hk
    have hz := hkw.size
    have h1' : w1.cell? ⟨b, 1, none⟩ = some (.slice A xs.length c) := (hkw.cell (p := ⟨b, 1, none⟩) hb).trans h1
    have hb' : b < w1.heap.size := Nat.lt_of_lt_of_le hb hz
    have HK := Lib.hid hkw
    clear hown hk hkw HSB h0 h1 hb
    go_wp2
    go_loopw [25, 3] (fun vi vb wr => ∃ (k : Nat) (o : Value), k ≤ xs.length ∧ vi = .int .i64 k ∧ o = vb ∧ Hid (OwnB wr w.heap.size o ([UInt8.ofNat kind.toNat] ++ le xs.length 4 ++ (xs.take k).flatMap vB)) ∧ Hid (Keep w wr) ∧ w.heap.size ≤ wr.heap.size) (fun vi _ _ => xs.length - (intOf vi).toNat)
    case atStart => exact ⟨0, _, by omega, rfl, rfl, (by show OwnB _ _ _ _; simp only [List.take_zero, List.flatMap_nil, List.append_nil]; exact HO.out), HK.out, hz⟩
    case round =>
      obtain ⟨k, o, hk, rfl, rfl, HO2, HK2, hz2⟩ := hrel
      by_cases hlt : k < xs.length
      · obtain ⟨bx, off, rfl, hbx, c0, c1', c2'⟩ := sl_val (HSL.out.keep HK2.out) k hlt
        have hsz := HSZ.out xs[k] (List.getElem_mem hlt)
        have hvb := vB_len xs[k]
        have hpre := flat_vB (xs.take k) 1000000 (fun x hx => HSZ.out x (List.mem_of_mem_take hx))
        have hpre2 : (xs.take k).length * (1000000 + 10) ≤ 1000000 * 1000010 := Nat.mul_le_mul (by simp; omega) (Nat.le_refl _)
        have HTK := Lib.hid (show (xs.take (k + 1)).flatMap vB = (xs.take k).flatMap vB ++ vB xs[k] by rw [List.take_succ_eq_append_getElem hlt, List.flatMap_append]; simp)
        go_wp2_with (go_at_call 92; refine Zone.hold ?_)
        refine Zone.unhold ?_
        refine (vapp_any none 0 [] xs[k] _ (Sl.nil_ _ (by omega)) (by simp) (by omega)).mono ?_
        rintro e w2 ⟨u, rfl, hown, hk3⟩
        simp only [List.nil_append] at hown
        obtain ⟨A3, c3, rfl, hsl3⟩ := hown.sl b8_len (by omega)
        have hk4 := Keep.trans (Keep.alloc (Keep.refl wr) (.cells #[.int .u8 xs[k].k, .int .i64 xs[k].n, .string xs[k].s] 76)) hk3
        have HS3 := Lib.hid hsl3
        have hz4 := hk4.size
        have HK4 := Lib.hid hk4
        clear hown hk3 hsl3 hk4
        go_wp2_with (at_builtin; refine Zone.hold ?_)
        refine Zone.unhold ?_
        have HO3 := HO2.out.keep HK4.out
        refine wpList_app elt_u8 b8_len b8_one rfl (.tmp 29) (.tmp 31) rfl (ys := vB xs[k]) HO3 rfl rfl HS3.out (by simp only [List.length_append, le_len, List.length_cons, List.length_nil]; omega) (by omega) ?_
        intro v5 w5 hown5 hg5 _
        have ⟨a1, a2, a3⟩ := HO3.after hg5 (HK2.out.trans HK4.out) (Nat.le_refl _)
        have HO4 := Lib.hid hown5
        have HA1 := Lib.hid a1
        clear hown5 hg5 HO3 a3
        go_wp2
        go_roundw
        case rel => exact ⟨k + 1, _, by omega, by go_num, rfl, (by show OwnB _ _ _ _; have := HO4.out; rw [List.append_assoc, ← HTK.out] at this; exact this), HA1.out, by omega⟩
        case measure => simp [intOf]; omega
      · have hkx : k = xs.length := by omega
        subst hkx
        go_wp2
        go_ret
        refine ⟨_, rfl, ?_, HK2.out⟩
        have := HO2.out
        rw [List.take_length] at this
        exact this
end Go.Proofs.YtcffcblfmlclnaaGreatDoor
