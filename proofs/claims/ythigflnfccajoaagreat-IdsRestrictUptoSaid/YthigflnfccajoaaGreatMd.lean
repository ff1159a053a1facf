
/- Law 25's made: three dictionaries, and their rows of values. -/
import Derived.WalkKit
import Derived.Lib.Hide
import Derived.WalkSpells
import Derived.WalkLawsBesides
import Derived.BigQuiet
import Derived.Shelf.Abstract
import Derived.Test.YthigflnfccajoaaGreatLaw
import Derived.Test.YthigflnfccajoaaGreatOf
import Derived.Test.YthigflnfccajoaaGreatQvalid
namespace Go.Proofs.YthigflnfccajoaaGreat
open Go.RowKit Go.Zone Go.Shelf
attribute [local go_sem] Zone.zone Zone.stepZ Zone.fill Zone.lookFs Zone.goes Zone.goesUpon Zone.dropFs Zone.cell_gro Zone.frozen_gro Zone.size_gro Zone.lt_add Zone.drew_gro Zone.tape_gro Zone.keep_refl
attribute [local go_sem] Zone.lt_add2 Zone.lt_add3 Zone.lt_add4 Zone.lt_add5 Zone.lt_add6 Zone.lt_add7 Zone.lt_add8 Zone.lt_add9 Zone.lt_add10 Zone.lt_add11 Zone.lt_add12
/-- A column made: its dictionary, and its row. -/
structure Mc where
  b : Nat
  A : Option Addr
  c : Nat
  xs : List Val
  RA : Option Addr
  Rc : Nat
def ptrV (m : Mc) : List Value := [.pointer (some ⟨m.b, 0, none⟩)]
def rowV (m : Mc) : List Value := [.slice m.RA m.xs.length m.Rc]
theorem ptr_len (x : Mc) : (ptrV x).length = 1 := rfl
theorem ptr_one (x : Mc) : ∀ u ∈ ptrV x, u.oneCell' = true := by simp [ptrV, Value.oneCell']
theorem row_len (x : Mc) : (rowV x).length = 1 := rfl
theorem row_one (x : Mc) : ∀ u ∈ rowV x, u.oneCell' = true := by simp [rowV, Value.oneCell']
theorem info_dp : (Tryz.prog.info? 36).map (fun i => (i.zero, i.size, i.bytes)) = some (some (.pointer none), 1, 8) := by kernel_rfl
theorem elt_dp : Elt Tryz.prog 28 36 1 8 := by
  obtain ⟨i, hi, h1, h2, h3⟩ := info_partsK info_dp
  exact ⟨i, _, Tryz.underlying28, hi, h1, h2, h3, rfl, by decide, by decide⟩
theorem info_vs : (Tryz.prog.info? 22).map (fun i => (i.zero, i.size, i.bytes)) = some (some (.slice none 0 0), 1, 24) := by kernel_rfl
theorem elt_vs : Elt Tryz.prog 29 22 1 24 := by
  obtain ⟨i, hi, h1, h2, h3⟩ := info_partsK info_vs
  exact ⟨i, _, Tryz.underlying29, hi, h1, h2, h3, rfl, by decide, by decide⟩
structure McOk (w : World) (kind : Int) (m : Mc) : Prop where
  d : DictAt w m.b kind m.A m.c m.xs
  r : Sl w 3 Val.cells m.RA m.Rc m.xs
structure McOff (m : Mc) (j : Nat) : Prop where
  b : m.b ≠ j
  a : ∀ g off, m.A = some ⟨g, off, none⟩ → 0 < m.xs.length → g ≠ j
  r : ∀ g off, m.RA = some ⟨g, off, none⟩ → 0 < m.xs.length → g ≠ j
theorem McOk.keep {w w' : World} {kind : Int} {m : Mc} (h : McOk w kind m) (hk : Keep w w') : McOk w' kind m := ⟨h.d.keep hk, h.r.keep hk⟩
theorem McOk.by_ {w w' : World} {kind : Int} {m : Mc} {r : Option Nat} (h : McOk w kind m) (hg : w.grownBy w' r) (ho : ∀ j, r = some j → McOff m j) : McOk w' kind m :=
  ⟨⟨hg.cell h.d.k (fun e => (ho _ e.symm).b rfl), hg.cell h.d.l (fun e => (ho _ e.symm).b rfl), By.sl hg h.d.sl fun g off hA hp e => (ho g e.symm).a g off hA hp rfl⟩, By.sl hg h.r fun g off hA hp e => (ho g e.symm).r g off hA hp rfl⟩
theorem sl_lt {α : Type} {w : World} {k c : Nat} {enc : α → List Value} {A : Option Addr} {xs : List α} (h : Sl w k enc A c xs) (h0 : ∀ x, 0 < (enc x).length) : ∀ g off, A = some ⟨g, off, none⟩ → 0 < xs.length → g < w.heap.size := fun g off hA hl =>
  Classical.byContradiction fun hn => sl_ne (b := g) h h0 (by omega) g off hA hl rfl
theorem McOk.off {w : World} {kind : Int} {m : Mc} (h : McOk w kind m) (j : Nat) (hj : w.heap.size ≤ j) : McOff m j :=
  ⟨by have := h.d.lt; omega, fun g off h1 h2 => by have := sl_lt h.d.sl (fun _ => by simp [Val.cells]) g off h1 h2; omega, fun g off h1 h2 => by have := sl_lt h.r (fun _ => by simp [Val.cells]) g off h1 h2; omega⟩
def inp (xs0 xs1 xs2 : List Val) (j : Nat) : List Val := if j = 0 then xs0 else if j = 1 then xs1 else xs2
def kindN (j : Nat) : Int := if j = 1 then 2 else 1
def okI (xs0 xs1 xs2 : List Val) (j : Nat) : Prop := (inp xs0 xs1 xs2 j).length ≤ 60 ∧ dErr (kindN j) (inp xs0 xs1 xs2 j) = 0
/-- What made gives where it gives something. -/
structure Made (w : World) (P R : Value) (xs0 xs1 xs2 : List Val) (ms : List Mc) : Prop where
  len : ms.length = 3
  ptrs : ∃ A c, P = .slice A 3 c ∧ Sl w 1 ptrV A c ms
  rows : ∃ A c, R = .slice A 3 c ∧ Sl w 1 rowV A c ms
  ok : ∀ j, (h : j < ms.length) → McOk w (kindN j) ms[j] ∧ ms[j].xs = dOwn (inp xs0 xs1 xs2 j)
  fit : ∀ j, j < 3 → okI xs0 xs1 xs2 j
theorem md_step {xs0 xs1 xs2 : List Val} {wr w3 wa w4 wb w5 : World} {base : Nat} {v6 v7 v1 v2 : Value} {ms : List Mc} {m : Mc}
    (HPL : ∀ g, v6.ownBlock = some g → base ≤ g ∧ g < wr.heap.size) (HRL : ∀ g, v7.ownBlock = some g → base ≤ g ∧ g < wr.heap.size) (_hb : base ≤ w3.heap.size)
    (HMS3 : ∀ j (h : j < ms.length), McOk w3 (kindN j) ms[j]) (HMS0 : ∀ j (h : j < ms.length), (∀ g, v6.ownBlock = some g ∨ v7.ownBlock = some g → McOff ms[j] g) ∧ ms[j].xs = dOwn (inp xs0 xs1 xs2 j))
    (HAP : ∀ g, v6.ownBlock = some g → v7.ownBlock ≠ some g) (HMO : McOk w3 (kindN ms.length) m) (HMF : ∀ j, j < wr.heap.size → McOff m j) (HMX : m.xs = dOwn (inp xs0 xs1 xs2 ms.length)) (hwr : wr.heap.size ≤ w3.heap.size)
    (ka : Keep w3 wa) (o4 : Zone.Own w4 base 36 1 ptrV v1 (ms ++ [m])) (g4 : wa.grownBy w4 v6.ownBlock) (b4 : v1.ownBlock = v6.ownBlock ∨ v1.ownBlock = some wa.heap.size)
    (kb : Keep w4 wb) (o5 : Zone.Own w5 base 22 1 rowV v2 (ms ++ [m])) (g5 : wb.grownBy w5 v7.ownBlock) (b5 : v2.ownBlock = v7.ownBlock ∨ v2.ownBlock = some wb.heap.size) :
    Zone.Own w5 base 36 1 ptrV v1 (ms ++ [m]) ∧ (∀ j (h : j < (ms ++ [m]).length), McOk w5 (kindN j) (ms ++ [m])[j] ∧ (∀ g, v1.ownBlock = some g ∨ v2.ownBlock = some g → McOff (ms ++ [m])[j] g) ∧ (ms ++ [m])[j].xs = dOwn (inp xs0 xs1 xs2 j)) ∧ (∀ g, v1.ownBlock = some g → v2.ownBlock ≠ some g) := by
  have s1 := ka.size
  have s2 := g4.size
  have s3 := kb.size
  have l4 := o4.lt
  refine ⟨(o4.keep kb).grown g5 fun j h7 h1 => ?_, fun j h => ?_, fun g h1 h2 => ?_⟩
  · rcases b4 with e | e
    · exact HAP j (e ▸ h1) h7
    · have := (HRL j h7).2; rw [e] at h1; injection h1 with h1; omega
  · have hoff : ∀ (x : Mc), (∀ g, v6.ownBlock = some g ∨ v7.ownBlock = some g → McOff x g) → (∀ g, w3.heap.size ≤ g → McOff x g) → ∀ g, v1.ownBlock = some g ∨ v2.ownBlock = some g → McOff x g := by
      intro x hx hn g hg
      rcases hg with hg | hg
      · rcases b4 with e | e
        · exact hx g (.inl (e ▸ hg))
        · rw [e] at hg; injection hg with hg; exact hn g (by omega)
      · rcases b5 with e | e
        · exact hx g (.inr (e ▸ hg))
        · rw [e] at hg; injection hg with hg; exact hn g (by omega)
    by_cases hj : j < ms.length
    · rw [List.getElem_append_left hj]
      have h0 := HMS0 j hj
      have h3 := HMS3 j hj
      exact ⟨(((h3.keep ka).by_ g4 fun q hq => h0.1 q (.inl hq)).keep kb).by_ g5 fun q hq => h0.1 q (.inr hq), hoff _ h0.1 (fun g hg => h3.off g hg), h0.2⟩
    · have hje : j = ms.length := by simp at h; omega
      subst hje
      have he : (ms ++ [m])[ms.length]'h = m := by simp
      rw [he]
      have hmf : ∀ g, v6.ownBlock = some g ∨ v7.ownBlock = some g → McOff m g := fun g hg => HMF g (by rcases hg with hg | hg; exact (HPL g hg).2; exact (HRL g hg).2)
      exact ⟨(((HMO.keep ka).by_ g4 fun q hq => hmf q (.inl hq)).keep kb).by_ g5 fun q hq => hmf q (.inr hq), hoff m hmf (fun g hg => HMO.off g hg), HMX⟩
  · have h3 := (l4 g h1).2
    rcases b5 with e | e
    · rw [e] at h2
      rcases b4 with e' | e'
      · exact HAP g (e' ▸ h1) h2
      · have := (HRL g h2).2; rw [e'] at h1; injection h1 with h1; omega
    · rw [e] at h2; injection h2 with h2; omega
set_option maxRecDepth 100000 in
set_option maxHeartbeats 8000000 in
theorem made_any (A0 : Option Addr) (c0 : Nat) (xs0 : List Val) (A1 : Option Addr) (c1 : Nat) (xs1 : List Val) (A2 : Option Addr) (c2 : Nat) (xs2 : List Val) (w : World) (h0 : Sl w 3 Val.cells A0 c0 xs0) (h1 : Sl w 3 Val.cells A1 c1 xs1) (h2 : Sl w 3 Val.cells A2 c2 xs2)
    (hw0 : ∀ x ∈ xs0, x.s.size ≤ maxLen) (hw1 : ∀ x ∈ xs1, x.s.size ≤ maxLen) (hw2 : ∀ x ∈ xs2, x.s.size ≤ maxLen) :
    Calls Tryz.prog 6 #[.agg #[.slice A0 xs0.length c0, .slice A1 xs1.length c1, .slice A2 xs2.length c2]] w fun e w' =>
      (e = .returned (.tuple #[.slice none 0 0, .slice none 0 0, .bool false]) ∧ Keep w w') ∨ (∃ P R ms, e = .returned (.tuple #[P, R, .bool true]) ∧ Made w' P R xs0 xs1 xs2 ms ∧ Keep w w') := by
  have HS0 := Lib.hid h0
  have HS1 := Lib.hid h1
  have HS2 := Lib.hid h2
  have HW0 := Lib.hid hw0
  have HW1 := Lib.hid hw1
  have HW2 := Lib.hid hw2
  have hl0 := h0.len
  have hl1 := h1.len
  have hl2 := h2.len
  clear h0 h1 h2 hw0 hw1 hw2
  have i0 : ∀ W : World, (Instr.index 69 (.agg #[.slice A0 xs0.length c0, .slice A1 xs1.length c1, .slice A2 xs2.length c2]) (.int .i64 0)).run Tryz.prog W = .ok (.slice A0 xs0.length c0) W := fun _ => by kernel_rfl
  have i1 : ∀ W : World, (Instr.index 69 (.agg #[.slice A0 xs0.length c0, .slice A1 xs1.length c1, .slice A2 xs2.length c2]) (.int .i64 1)).run Tryz.prog W = .ok (.slice A1 xs1.length c1) W := fun _ => by kernel_rfl
  have i2 : ∀ W : World, (Instr.index 69 (.agg #[.slice A0 xs0.length c0, .slice A1 xs1.length c1, .slice A2 xs2.length c2]) (.int .i64 2)).run Tryz.prog W = .ok (.slice A2 xs2.length c2) W := fun _ => by kernel_rfl
  go_enter Tryz.func6, Tryz.ntmps6
  go_wp2
  have HK1 := Lib.hid (show Keep w ((w.alloc (.cells #[.slice A0 xs0.length c0, .slice A1 xs1.length c1, .slice A2 xs2.length c2] 24)).alloc (.cells #[.int .u8 1, .int .u8 2, .int .u8 1] 68)) from (by repeat (first | exact Keep.refl _ | apply Keep.alloc | apply Keep.gro | apply Keep.drew | apply Keep.drewN)))
  have hka := at_alloc (w.alloc (.cells #[.slice A0 xs0.length c0, .slice A1 xs1.length c1, .slice A2 xs2.length c2] 24)) [.int .u8 1, .int .u8 2, .int .u8 1] 68
  simp only [World.size_alloc] at hka
  have hq : w.heap.size + 1 < ((w.alloc (.cells #[.slice A0 xs0.length c0, .slice A1 xs1.length c1, .slice A2 xs2.length c2] 24)).alloc (.cells #[.int .u8 1, .int .u8 2, .int .u8 1] 68)).heap.size := by simp
  generalize hw1 : World.alloc _ _ = w1 at HK1 hka hq ⊢
  clear hw1
  generalize w.heap.size + 1 = q at hka hq ⊢
  have HKC0 := Lib.hid (hka 0 _ rfl)
  have HKC1 := Lib.hid (hka 1 _ rfl)
  have HKC2 := Lib.hid (hka 2 _ rfl)
  clear hka
  go_loopw [6, 7, 22] (fun v6 v7 i wr => ∃ (k : Nat) (ms : List Mc), k ≤ 3 ∧ i = .int .i64 k ∧ ms.length = k ∧ Hid (Zone.Own wr w1.heap.size 36 1 ptrV v6 ms) ∧ Hid (Zone.Own wr w1.heap.size 22 1 rowV v7 ms) ∧
    Hid (∀ j, (h : j < ms.length) → McOk wr (kindN j) ms[j] ∧ (∀ g, v6.ownBlock = some g ∨ v7.ownBlock = some g → McOff ms[j] g) ∧ ms[j].xs = dOwn (inp xs0 xs1 xs2 j)) ∧
    Hid (∀ g, v6.ownBlock = some g → v7.ownBlock ≠ some g) ∧ Hid (Keep w1 wr) ∧ Hid (∀ j, j < k → okI xs0 xs1 xs2 j)) (fun _ _ i _ => 3 - (intOf i).toNat)
  case atStart => exact ⟨0, [], by omega, rfl, rfl, Zone.Own.nil_ _ _ _ _ _, Zone.Own.nil_ _ _ _ _ _, fun j h => absurd h (Nat.not_lt_zero _), (fun _ h => by cases h), Keep.refl _, fun j h => absurd h (Nat.not_lt_zero _)⟩
  case round =>
    obtain ⟨k, ms, hk, rfl, hml, HP, HR, HMS, HAP, HK, HOKS⟩ := hrel
    rcases (show k = 0 ∨ k = 1 ∨ k = 2 ∨ k = 3 by omega) with rfl | rfl | rfl | rfl
    · rw [show ((0 : Nat) : Int) = (0 : Int) from rfl]
      by_cases h60 : 60 < xs0.length
      · go_wp2
        exact bodyPost_ret (v := .tuple #[.slice none 0 0, .slice none 0 0, .bool false]) (by simp [results, Tryz.results6, go_sem]) rfl (.inl ⟨rfl, HK1.out.trans HK.out⟩)
      · have HSr := Lib.hid (HS0.out.keep (HK1.out.trans HK.out))
        have x0 := (HK.out.cell (p := ⟨q, 0, none⟩) hq).trans HKC0.out
        have hq2 : q < wr.heap.size := Nat.lt_of_lt_of_le hq HK.out.size
        go_wp2_with (go_at_call 24; refine Zone.hold ?_)
        refine Zone.unhold ?_
        refine (of_new 1 A0 c0 xs0 wr HSr.out (by omega)).mono ?_
        rintro e w2 ⟨v, rfl, hres, hk2⟩
        have hq3 : q < w2.heap.size := Nat.lt_of_lt_of_le hq2 hk2.size
        have x1 := (hk2.cell (p := ⟨q, 0, none⟩) hq2).trans x0
        have HRES := Lib.hid hres
        have HK2 := Lib.hid hk2
        clear x0 hres hk2
        go_wp2_with (go_at_call 25; refine Zone.hold ?_)
        refine Zone.unhold ?_
        refine (rof_new 1 A0 c0 xs0 w2 (HSr.out.keep HK2.out) HW0.out (by omega)).mono ?_
        rintro e w3 ⟨RA, Rc, rfl, hsl, hk3, hfr⟩
        have hro := rOf_d 1 xs0
        rcases HRES.out with ⟨hE, rfl⟩ | ⟨hE, b, Ad, cd, rfl, hD, hbf, hAf⟩
        · rw [if_neg hE] at hro
          have HKF := Lib.hid (HK1.out.trans (HK.out.trans (HK2.out.trans hk3)))
          rw [hro] at hsl ⊢
          clear hro hsl hfr hk3 HRES x1
          obtain ⟨er, her⟩ : ∃ er, dErr 1 xs0 = er := ⟨_, rfl⟩
          rw [her] at hE ⊢
          have hE' : (er != 0) = true := by simpa using hE
          clear her
          go_wp2
          exact bodyPost_ret (v := .tuple #[.slice none 0 0, .slice none 0 0, .bool false]) (by simp [results, Tryz.results6, go_sem]) rfl (.inl ⟨rfl, HKF.out⟩)
        · rw [if_pos hE] at hro
          rw [hro, hE]
          rw [hro] at hsl hfr
          simp only at hsl hfr ⊢
          obtain ⟨m, hm⟩ : ∃ m : Mc, m = ⟨b, Ad, cd, dOwn xs0, RA, Rc⟩ := ⟨_, rfl⟩
          have hmo : McOk w3 1 m := by subst hm; exact ⟨hD.keep hk3, hsl⟩
          have hmf : ∀ j, j < wr.heap.size → McOff m j := by
            subst hm
            exact fun j hj => ⟨by show b ≠ j; omega, fun g off h1 h2 => by have := hAf g off h1 h2; omega, fun g off h1 h2 => by have := hfr g off h1 h2; have := HK2.out.size; omega⟩
          have hmx : m.xs = dOwn xs0 := by subst hm; rfl
          have HOK : Hid (∀ j, j < 0 + 1 → okI xs0 xs1 xs2 j) := fun j hj => by
            by_cases e : j = 0
            · subst e; exact ⟨by show xs0.length ≤ 60; omega, hE⟩
            · exact HOKS.out j (by omega)
          have HOK2 := Lib.hid HOK.out
          have hk23 : Keep wr w3 := HK2.out.trans hk3
          have HMO := Lib.hid hmo
          have HMF := Lib.hid hmf
          have HMX := Lib.hid hmx
          have HP3 := Lib.hid (HP.out.keep hk23)
          have HR3 := Lib.hid (HR.out.keep hk23)
          have HPL := Lib.hid HP.out.lt
          have HRL := Lib.hid HR.out.lt
          have HMS3 := Lib.hid (fun j (h : j < ms.length) => ((HMS.out j h).1.keep hk23))
          have HMS0 := Lib.hid (fun j (h : j < ms.length) => (HMS.out j h).2)
          have HK3 := Lib.hid (HK.out.trans hk23)
          have HKR := Lib.hid hk23
          have hz3 : w1.heap.size ≤ w3.heap.size := HK3.out.size
          have hpv : [Value.pointer (some ⟨b, 0, none⟩)] = ptrV m := by subst hm; rfl
          have hrv : [Value.slice RA (dOwn xs0).length Rc] = rowV m := by subst hm; rfl
          have HPV := Lib.hid hpv
          have HRV := Lib.hid hrv
          clear hm hmo hmf hmx HOK hk23 HRES hsl hfr hD hbf hAf hk3 HK2 x1 HMS HP HR hro hE hpv hrv
          go_wp2_with (at_builtin; refine Zone.hold ?_)
          refine Zone.unhold ?_
          have hsp : Sl (w3.alloc (.cells #[.pointer (some ⟨b, 0, none⟩)] 36)) 1 ptrV (some ⟨w3.heap.size, 0, none⟩) 1 [m] := Zone.sl_one m (by omega) (by omega) (by rw [← HPV.out]; exact at_alloc _ [_] _)
          refine wpList_app elt_dp ptr_len ptr_one rfl (.tmp 51) (.tmp 53) rfl (ys := [m]) (HP3.out.keep (Keep.alloc (Keep.refl _) _)) rfl rfl hsp (by simp; omega) (by simp; omega) ?_
          intro v1 w4 hown4 hg4 hob4
          have hz4 : w3.heap.size + 1 ≤ w4.heap.size := by have := hg4.size; simpa using this
          have HK4 := Lib.hid ((HP3.out.keep (Keep.alloc (Keep.refl _) _)).kept hg4 (HK3.out.alloc _) (Nat.le_refl _))
          have HR4 := Lib.hid ((HR3.out.keep (Keep.alloc (Keep.refl _) _)).grown hg4 HAP.out)
          have HO4 := Lib.hid hown4
          have HG4 := Lib.hid hg4
          have HB4 := Lib.hid hob4
          clear hown4 hg4 hob4 hsp
          go_wp2_with (at_builtin; refine Zone.hold ?_)
          refine Zone.unhold ?_
          have hsr : Sl (w4.alloc (.cells #[.slice RA (dOwn xs0).length Rc] 22)) 1 rowV (some ⟨w4.heap.size, 0, none⟩) 1 [m] := Zone.sl_one m (by omega) (by omega) (by rw [← HRV.out]; exact at_alloc _ [_] _)
          refine wpList_app elt_vs row_len row_one rfl (.tmp 55) (.tmp 57) rfl (ys := [m]) (HR4.out.keep (Keep.alloc (Keep.refl _) _)) rfl rfl hsr (by simp; omega) (by simp; omega) ?_
          intro v2 w5 hown5 hg5 hob5
          have HK5 := Lib.hid ((HR4.out.keep (Keep.alloc (Keep.refl _) _)).kept hg5 (HK4.out.alloc _) (Nat.le_refl _))
          have hst := md_step (xs0 := xs0) (xs1 := xs1) (xs2 := xs2) HPL.out HRL.out HK3.out.size HMS3.out HMS0.out HAP.out (by rw [hml]; exact HMO.out) HMF.out (by rw [hml]; exact HMX.out) HKR.out.size (Keep.alloc (Keep.refl w3) _) HO4.out HG4.out HB4.out (Keep.alloc (Keep.refl w4) _) hown5 hg5 hob5
          have HST := Lib.hid hst
          have HO5 := Lib.hid hown5
          clear hst hown5 hg5 hob5 HR4 HO4 HG4 HB4 hsr HMO HMF HMX HMS3 HMS0 HAP HP3 HR3 HPL HRL HK HK3 HK4
          go_wp2
          go_roundw
          case rel => exact ⟨0 + 1, ms ++ [m], by omega, by go_num, by simp [hml], HST.out.1, HO5.out, HST.out.2.1, HST.out.2.2, HK5.out, HOK2.out⟩
          case measure => simp [intOf]
    · rw [show ((1 : Nat) : Int) = (1 : Int) from rfl]
      by_cases h60 : 60 < xs1.length
      · go_wp2
        exact bodyPost_ret (v := .tuple #[.slice none 0 0, .slice none 0 0, .bool false]) (by simp [results, Tryz.results6, go_sem]) rfl (.inl ⟨rfl, HK1.out.trans HK.out⟩)
      · have HSr := Lib.hid (HS1.out.keep (HK1.out.trans HK.out))
        have x0 := (HK.out.cell (p := ⟨q, 1, none⟩) hq).trans HKC1.out
        have hq2 : q < wr.heap.size := Nat.lt_of_lt_of_le hq HK.out.size
        go_wp2_with (go_at_call 24; refine Zone.hold ?_)
        refine Zone.unhold ?_
        refine (of_new 2 A1 c1 xs1 wr HSr.out (by omega)).mono ?_
        rintro e w2 ⟨v, rfl, hres, hk2⟩
        have hq3 : q < w2.heap.size := Nat.lt_of_lt_of_le hq2 hk2.size
        have x1 := (hk2.cell (p := ⟨q, 1, none⟩) hq2).trans x0
        have HRES := Lib.hid hres
        have HK2 := Lib.hid hk2
        clear x0 hres hk2
        go_wp2_with (go_at_call 25; refine Zone.hold ?_)
        refine Zone.unhold ?_
        refine (rof_new 2 A1 c1 xs1 w2 (HSr.out.keep HK2.out) HW1.out (by omega)).mono ?_
        rintro e w3 ⟨RA, Rc, rfl, hsl, hk3, hfr⟩
        have hro := rOf_d 2 xs1
        rcases HRES.out with ⟨hE, rfl⟩ | ⟨hE, b, Ad, cd, rfl, hD, hbf, hAf⟩
        · rw [if_neg hE] at hro
          have HKF := Lib.hid (HK1.out.trans (HK.out.trans (HK2.out.trans hk3)))
          rw [hro] at hsl ⊢
          clear hro hsl hfr hk3 HRES x1
          obtain ⟨er, her⟩ : ∃ er, dErr 2 xs1 = er := ⟨_, rfl⟩
          rw [her] at hE ⊢
          have hE' : (er != 0) = true := by simpa using hE
          clear her
          go_wp2
          exact bodyPost_ret (v := .tuple #[.slice none 0 0, .slice none 0 0, .bool false]) (by simp [results, Tryz.results6, go_sem]) rfl (.inl ⟨rfl, HKF.out⟩)
        · rw [if_pos hE] at hro
          rw [hro, hE]
          rw [hro] at hsl hfr
          simp only at hsl hfr ⊢
          obtain ⟨m, hm⟩ : ∃ m : Mc, m = ⟨b, Ad, cd, dOwn xs1, RA, Rc⟩ := ⟨_, rfl⟩
          have hmo : McOk w3 2 m := by subst hm; exact ⟨hD.keep hk3, hsl⟩
          have hmf : ∀ j, j < wr.heap.size → McOff m j := by
            subst hm
            exact fun j hj => ⟨by show b ≠ j; omega, fun g off h1 h2 => by have := hAf g off h1 h2; omega, fun g off h1 h2 => by have := hfr g off h1 h2; have := HK2.out.size; omega⟩
          have hmx : m.xs = dOwn xs1 := by subst hm; rfl
          have HOK : Hid (∀ j, j < 1 + 1 → okI xs0 xs1 xs2 j) := fun j hj => by
            by_cases e : j = 1
            · subst e; exact ⟨by show xs1.length ≤ 60; omega, hE⟩
            · exact HOKS.out j (by omega)
          have HOK2 := Lib.hid HOK.out
          have hk23 : Keep wr w3 := HK2.out.trans hk3
          have HMO := Lib.hid hmo
          have HMF := Lib.hid hmf
          have HMX := Lib.hid hmx
          have HP3 := Lib.hid (HP.out.keep hk23)
          have HR3 := Lib.hid (HR.out.keep hk23)
          have HPL := Lib.hid HP.out.lt
          have HRL := Lib.hid HR.out.lt
          have HMS3 := Lib.hid (fun j (h : j < ms.length) => ((HMS.out j h).1.keep hk23))
          have HMS0 := Lib.hid (fun j (h : j < ms.length) => (HMS.out j h).2)
          have HK3 := Lib.hid (HK.out.trans hk23)
          have HKR := Lib.hid hk23
          have hz3 : w1.heap.size ≤ w3.heap.size := HK3.out.size
          have hpv : [Value.pointer (some ⟨b, 0, none⟩)] = ptrV m := by subst hm; rfl
          have hrv : [Value.slice RA (dOwn xs1).length Rc] = rowV m := by subst hm; rfl
          have HPV := Lib.hid hpv
          have HRV := Lib.hid hrv
          clear hm hmo hmf hmx HOK hk23 HRES hsl hfr hD hbf hAf hk3 HK2 x1 HMS HP HR hro hE hpv hrv
          go_wp2_with (at_builtin; refine Zone.hold ?_)
          refine Zone.unhold ?_
          have hsp : Sl (w3.alloc (.cells #[.pointer (some ⟨b, 0, none⟩)] 36)) 1 ptrV (some ⟨w3.heap.size, 0, none⟩) 1 [m] := Zone.sl_one m (by omega) (by omega) (by rw [← HPV.out]; exact at_alloc _ [_] _)
          refine wpList_app elt_dp ptr_len ptr_one rfl (.tmp 51) (.tmp 53) rfl (ys := [m]) (HP3.out.keep (Keep.alloc (Keep.refl _) _)) rfl rfl hsp (by simp; omega) (by simp; omega) ?_
          intro v1 w4 hown4 hg4 hob4
          have hz4 : w3.heap.size + 1 ≤ w4.heap.size := by have := hg4.size; simpa using this
          have HK4 := Lib.hid ((HP3.out.keep (Keep.alloc (Keep.refl _) _)).kept hg4 (HK3.out.alloc _) (Nat.le_refl _))
          have HR4 := Lib.hid ((HR3.out.keep (Keep.alloc (Keep.refl _) _)).grown hg4 HAP.out)
          have HO4 := Lib.hid hown4
          have HG4 := Lib.hid hg4
          have HB4 := Lib.hid hob4
          clear hown4 hg4 hob4 hsp
          go_wp2_with (at_builtin; refine Zone.hold ?_)
          refine Zone.unhold ?_
          have hsr : Sl (w4.alloc (.cells #[.slice RA (dOwn xs1).length Rc] 22)) 1 rowV (some ⟨w4.heap.size, 0, none⟩) 1 [m] := Zone.sl_one m (by omega) (by omega) (by rw [← HRV.out]; exact at_alloc _ [_] _)
          refine wpList_app elt_vs row_len row_one rfl (.tmp 55) (.tmp 57) rfl (ys := [m]) (HR4.out.keep (Keep.alloc (Keep.refl _) _)) rfl rfl hsr (by simp; omega) (by simp; omega) ?_
          intro v2 w5 hown5 hg5 hob5
          have HK5 := Lib.hid ((HR4.out.keep (Keep.alloc (Keep.refl _) _)).kept hg5 (HK4.out.alloc _) (Nat.le_refl _))
          have hst := md_step (xs0 := xs0) (xs1 := xs1) (xs2 := xs2) HPL.out HRL.out HK3.out.size HMS3.out HMS0.out HAP.out (by rw [hml]; exact HMO.out) HMF.out (by rw [hml]; exact HMX.out) HKR.out.size (Keep.alloc (Keep.refl w3) _) HO4.out HG4.out HB4.out (Keep.alloc (Keep.refl w4) _) hown5 hg5 hob5
          have HST := Lib.hid hst
          have HO5 := Lib.hid hown5
          clear hst hown5 hg5 hob5 HR4 HO4 HG4 HB4 hsr HMO HMF HMX HMS3 HMS0 HAP HP3 HR3 HPL HRL HK HK3 HK4
          go_wp2
          go_roundw
          case rel => exact ⟨1 + 1, ms ++ [m], by omega, by go_num, by simp [hml], HST.out.1, HO5.out, HST.out.2.1, HST.out.2.2, HK5.out, HOK2.out⟩
          case measure => simp [intOf]
    · rw [show ((2 : Nat) : Int) = (2 : Int) from rfl]
      by_cases h60 : 60 < xs2.length
      · go_wp2
        exact bodyPost_ret (v := .tuple #[.slice none 0 0, .slice none 0 0, .bool false]) (by simp [results, Tryz.results6, go_sem]) rfl (.inl ⟨rfl, HK1.out.trans HK.out⟩)
      · have HSr := Lib.hid (HS2.out.keep (HK1.out.trans HK.out))
        have x0 := (HK.out.cell (p := ⟨q, 2, none⟩) hq).trans HKC2.out
        have hq2 : q < wr.heap.size := Nat.lt_of_lt_of_le hq HK.out.size
        go_wp2_with (go_at_call 24; refine Zone.hold ?_)
        refine Zone.unhold ?_
        refine (of_new 1 A2 c2 xs2 wr HSr.out (by omega)).mono ?_
        rintro e w2 ⟨v, rfl, hres, hk2⟩
        have hq3 : q < w2.heap.size := Nat.lt_of_lt_of_le hq2 hk2.size
        have x1 := (hk2.cell (p := ⟨q, 2, none⟩) hq2).trans x0
        have HRES := Lib.hid hres
        have HK2 := Lib.hid hk2
        clear x0 hres hk2
        go_wp2_with (go_at_call 25; refine Zone.hold ?_)
        refine Zone.unhold ?_
        refine (rof_new 1 A2 c2 xs2 w2 (HSr.out.keep HK2.out) HW2.out (by omega)).mono ?_
        rintro e w3 ⟨RA, Rc, rfl, hsl, hk3, hfr⟩
        have hro := rOf_d 1 xs2
        rcases HRES.out with ⟨hE, rfl⟩ | ⟨hE, b, Ad, cd, rfl, hD, hbf, hAf⟩
        · rw [if_neg hE] at hro
          have HKF := Lib.hid (HK1.out.trans (HK.out.trans (HK2.out.trans hk3)))
          rw [hro] at hsl ⊢
          clear hro hsl hfr hk3 HRES x1
          obtain ⟨er, her⟩ : ∃ er, dErr 1 xs2 = er := ⟨_, rfl⟩
          rw [her] at hE ⊢
          have hE' : (er != 0) = true := by simpa using hE
          clear her
          go_wp2
          exact bodyPost_ret (v := .tuple #[.slice none 0 0, .slice none 0 0, .bool false]) (by simp [results, Tryz.results6, go_sem]) rfl (.inl ⟨rfl, HKF.out⟩)
        · rw [if_pos hE] at hro
          rw [hro, hE]
          rw [hro] at hsl hfr
          simp only at hsl hfr ⊢
          obtain ⟨m, hm⟩ : ∃ m : Mc, m = ⟨b, Ad, cd, dOwn xs2, RA, Rc⟩ := ⟨_, rfl⟩
          have hmo : McOk w3 1 m := by subst hm; exact ⟨hD.keep hk3, hsl⟩
          have hmf : ∀ j, j < wr.heap.size → McOff m j := by
            subst hm
            exact fun j hj => ⟨by show b ≠ j; omega, fun g off h1 h2 => by have := hAf g off h1 h2; omega, fun g off h1 h2 => by have := hfr g off h1 h2; have := HK2.out.size; omega⟩
          have hmx : m.xs = dOwn xs2 := by subst hm; rfl
          have HOK : Hid (∀ j, j < 2 + 1 → okI xs0 xs1 xs2 j) := fun j hj => by
            by_cases e : j = 2
            · subst e; exact ⟨by show xs2.length ≤ 60; omega, hE⟩
            · exact HOKS.out j (by omega)
          have HOK2 := Lib.hid HOK.out
          have hk23 : Keep wr w3 := HK2.out.trans hk3
          have HMO := Lib.hid hmo
          have HMF := Lib.hid hmf
          have HMX := Lib.hid hmx
          have HP3 := Lib.hid (HP.out.keep hk23)
          have HR3 := Lib.hid (HR.out.keep hk23)
          have HPL := Lib.hid HP.out.lt
          have HRL := Lib.hid HR.out.lt
          have HMS3 := Lib.hid (fun j (h : j < ms.length) => ((HMS.out j h).1.keep hk23))
          have HMS0 := Lib.hid (fun j (h : j < ms.length) => (HMS.out j h).2)
          have HK3 := Lib.hid (HK.out.trans hk23)
          have HKR := Lib.hid hk23
          have hz3 : w1.heap.size ≤ w3.heap.size := HK3.out.size
          have hpv : [Value.pointer (some ⟨b, 0, none⟩)] = ptrV m := by subst hm; rfl
          have hrv : [Value.slice RA (dOwn xs2).length Rc] = rowV m := by subst hm; rfl
          have HPV := Lib.hid hpv
          have HRV := Lib.hid hrv
          clear hm hmo hmf hmx HOK hk23 HRES hsl hfr hD hbf hAf hk3 HK2 x1 HMS HP HR hro hE hpv hrv
          go_wp2_with (at_builtin; refine Zone.hold ?_)
          refine Zone.unhold ?_
          have hsp : Sl (w3.alloc (.cells #[.pointer (some ⟨b, 0, none⟩)] 36)) 1 ptrV (some ⟨w3.heap.size, 0, none⟩) 1 [m] := Zone.sl_one m (by omega) (by omega) (by rw [← HPV.out]; exact at_alloc _ [_] _)
          refine wpList_app elt_dp ptr_len ptr_one rfl (.tmp 51) (.tmp 53) rfl (ys := [m]) (HP3.out.keep (Keep.alloc (Keep.refl _) _)) rfl rfl hsp (by simp; omega) (by simp; omega) ?_
          intro v1 w4 hown4 hg4 hob4
          have hz4 : w3.heap.size + 1 ≤ w4.heap.size := by have := hg4.size; simpa using this
          have HK4 := Lib.hid ((HP3.out.keep (Keep.alloc (Keep.refl _) _)).kept hg4 (HK3.out.alloc _) (Nat.le_refl _))
          have HR4 := Lib.hid ((HR3.out.keep (Keep.alloc (Keep.refl _) _)).grown hg4 HAP.out)
          have HO4 := Lib.hid hown4
          have HG4 := Lib.hid hg4
          have HB4 := Lib.hid hob4
          clear hown4 hg4 hob4 hsp
          go_wp2_with (at_builtin; refine Zone.hold ?_)
          refine Zone.unhold ?_
          have hsr : Sl (w4.alloc (.cells #[.slice RA (dOwn xs2).length Rc] 22)) 1 rowV (some ⟨w4.heap.size, 0, none⟩) 1 [m] := Zone.sl_one m (by omega) (by omega) (by rw [← HRV.out]; exact at_alloc _ [_] _)
          refine wpList_app elt_vs row_len row_one rfl (.tmp 55) (.tmp 57) rfl (ys := [m]) (HR4.out.keep (Keep.alloc (Keep.refl _) _)) rfl rfl hsr (by simp; omega) (by simp; omega) ?_
          intro v2 w5 hown5 hg5 hob5
          have HK5 := Lib.hid ((HR4.out.keep (Keep.alloc (Keep.refl _) _)).kept hg5 (HK4.out.alloc _) (Nat.le_refl _))
          have hst := md_step (xs0 := xs0) (xs1 := xs1) (xs2 := xs2) HPL.out HRL.out HK3.out.size HMS3.out HMS0.out HAP.out (by rw [hml]; exact HMO.out) HMF.out (by rw [hml]; exact HMX.out) HKR.out.size (Keep.alloc (Keep.refl w3) _) HO4.out HG4.out HB4.out (Keep.alloc (Keep.refl w4) _) hown5 hg5 hob5
          have HST := Lib.hid hst
          have HO5 := Lib.hid hown5
          clear hst hown5 hg5 hob5 HR4 HO4 HG4 HB4 hsr HMO HMF HMX HMS3 HMS0 HAP HP3 HR3 HPL HRL HK HK3 HK4
          go_wp2
          go_roundw
          case rel => exact ⟨2 + 1, ms ++ [m], by omega, by go_num, by simp [hml], HST.out.1, HO5.out, HST.out.2.1, HST.out.2.2, HK5.out, HOK2.out⟩
          case measure => simp [intOf]
    · have hml3 : ms.length ≤ 140737488355328 := by omega
      obtain ⟨PA, Pc, rfl, hps⟩ := HP.out.sl ptr_len hml3
      obtain ⟨RA, Rc, rfl, hrs⟩ := HR.out.sl row_len hml3
      have HMADE := Lib.hid (show Made wr (.slice PA ms.length Pc) (.slice RA ms.length Rc) xs0 xs1 xs2 ms from ⟨hml, ⟨PA, Pc, by rw [hml], hps⟩, ⟨RA, Rc, by rw [hml], hrs⟩, fun j h => ⟨(HMS.out j h).1, (HMS.out j h).2.2⟩, HOKS.out⟩)
      clear hps hrs HP HR HMS HAP HOKS
      go_wp2
      exact bodyPost_ret (v := .tuple #[.slice PA ms.length Pc, .slice RA ms.length Rc, .bool true]) (by simp [results, Tryz.results6, go_sem]) rfl (.inr ⟨_, _, ms, rfl, HMADE.out, HK1.out.trans HK.out⟩)
end Go.Proofs.YthigflnfccajoaaGreat
