
/- The law's sample: it is true. -/
import Derived.WalkKit
import Derived.Lib.Hide
import Derived.WalkSpells
import Derived.WalkLawsBesides
import Derived.BigQuiet
import Derived.Shelf.Abstract
import Derived.Laws.EntriesVeiled
import Derived.Test.YthigflnfccajoaaGreatIkk
namespace Go.Proofs.YthigflnfccajoaaGreat
open Go.RowKit Go.Zone Go.Shelf
attribute [local go_sem] Zone.zone Zone.stepZ Zone.fill Zone.lookFs Zone.goes Zone.goesUpon Zone.dropFs Zone.cell_gro Zone.frozen_gro Zone.size_gro Zone.lt_add Zone.drew_gro Zone.tape_gro Zone.keep_refl
attribute [local go_sem] Zone.lt_add2 Zone.lt_add3 Zone.lt_add4 Zone.lt_add5 Zone.lt_add6 Zone.lt_add7 Zone.lt_add8 Zone.lt_add9 Zone.lt_add10 Zone.lt_add11 Zone.lt_add12
attribute [local go_sem] Zone.calm_normal
theorem sl_bl (W : World) (xs : List Bool) (h : xs.length ≤ 1000) : Sl (W.alloc (.cells (xs.map Value.bool).toArray 4)) 1 boolV (some ⟨W.heap.size, 0, none⟩) xs.length xs :=
  sl_blk (fun _ => rfl) (by rw [flatF]; exact at_alloc W _ _) h
/-- A step that looks at two free results. -/
theorem zone_free2 {P : Program} {ops : Array Oper} {w : World} {o : Oper} {a : Act} {fs : Zone.Frees} {K : Act → Zone.Frees → Prop} {d1 d2 : Tmp} {Φ Ψ : Zone.Pred} (u : Value) (hl : Zone.lookFs ops o fs = [(d1, Φ), (d2, Ψ)])
    (h : ∀ p v1 v2, Φ v1 (w.gro p) → Ψ v2 (w.gro p) → if Region.wanted o (yielded ops ((a.put (some d1) v1).put (some d2) v2).tmps) then Zone.goes P o ((a.put (some d1) v1).put (some d2) v2) (w.gro p) (fun v _ => v = u) else undef = u) (k : K (a.put o.dst u) (Zone.dropFs o.dst fs)) : Zone.zone P ops w o a fs K :=
  ⟨u, fun p => by rw [hl]; exact fun v1 h1 v2 h2 => h p v1 v2 h1 h2, k⟩
theorem flags_sl {w : World} {base n c : Nat} {A : Option Addr} {xs : List Bool} (h : OwnF w base (.slice A n c) xs) (hl : xs.length ≤ 1000000 := by decide) : Sl w 1 boolV A c xs := by
  obtain ⟨A', c', e, hs⟩ := h.sl bool_len (by omega)
  injection e with e1 _ e2
  subst e1; subst e2
  exact hs
theorem kn1_any (s : ByteArray) (b : Nat) (v : Value) (w : World) (h : w.cell? ⟨b, 0, none⟩ = some v) :
    Calls Tryz.prog 29 #[.string s, .pointer (some ⟨b, 0, none⟩)] w fun e w' => e = .returned v ∧ Keep w w' := by
  have hb := World.block_lt_of_cell? _ _ h
  go_enter Tryz.func29, Tryz.ntmps29
  go_wp2
  go_ret
  exact ⟨rfl, (by repeat (first | exact Keep.refl _ | apply Keep.alloc | apply Keep.gro | apply Keep.drew | apply Keep.drewN))⟩
theorem kn2_any (s : ByteArray) (b : Nat) (v : Value) (w : World) (h : w.cell? ⟨b, 0, none⟩ = some v) :
    Calls Tryz.prog 30 #[.string s, .pointer (some ⟨b, 0, none⟩)] w fun e w' => e = .returned v ∧ Keep w w' := by
  have hb := World.block_lt_of_cell? _ _ h
  go_enter Tryz.func30, Tryz.ntmps30
  go_wp2
  go_ret
  exact ⟨rfl, (by repeat (first | exact Keep.refl _ | apply Keep.alloc | apply Keep.gro | apply Keep.drew | apply Keep.drewN))⟩
theorem kn_call (gf : Nat) (W : World) (bx b c g g1 g2 : Nat) (A : Option Addr) (col2 : ByteArray) (m2 : Int) (hgf : ∀ s w, w.cell? ⟨bx, 0, none⟩ = some (.pointer (some ⟨b, 0, none⟩)) → Calls Tryz.prog gf #[.string s, .pointer (some ⟨bx, 0, none⟩)] w fun e w' => e = .returned (.pointer (some ⟨b, 0, none⟩)) ∧ Keep w w') (eg : ∀ args w, (callFunc gf args).run Tryz.prog w = .ok (.enter gf args) w)
    (h0 : Sl W 5 Nd.cells (some ⟨g, 0, none⟩) 2 [lfN g1 kA 1 1, lfN g2 col2 1 m2]) (h1 : Sl W 3 Val.cells (some ⟨g1, 0, none⟩) 1 [vN 1]) (h2 : Sl W 3 Val.cells (some ⟨g2, 0, none⟩) 1 [vN m2]) (hb : W.cell? ⟨bx, 0, none⟩ = some (.pointer (some ⟨b, 0, none⟩))) (hd : DictAt W b 1 A c kYs) :
    Calls Tryz.prog 11 #[.agg #[.int .u8 2, .slice (some ⟨g, 0, none⟩) 2 2, .string ⟨#[]⟩, .int .u8 0, .slice none 0 0], .func (.func gf) #[] #[.pointer (some ⟨bx, 0, none⟩)]] W fun e w' => ∃ v no ok, e = .returned (.tuple #[v, .bool no, .bool ok]) ∧ RestR W.heap.size (fun _ => 1) (fun _ => kYs) (orN g (lfN g1 kA 1 1) (lfN g2 col2 1 m2)) v no ok w' ∧ Keep W w' := by
  have hl := World.block_lt_of_cell? _ _ hb
  have h := restrict_f (gf := gf) (lb := #[.pointer (some ⟨bx, 0, none⟩)]) (db := fun _ => b) (dk := fun _ => 1) (dA := fun _ => A) (dc := fun _ => c) (dy := fun _ => kYs) W W.heap.size (orN g (lfN g1 kA 1 1) (lfN g2 col2 1 m2)) (orN_in h0 (lfN_in h1) (lfN_in h2)) W (Keep.refl _) (by rw [or_sz]; decide)
    ⟨eg, fun W' s _ hW => hgf _ W' ((hW.cell hl).trans hb), fun _ _ => hd, fun _ _ => .inl rfl, fun _ _ => by decide⟩
  rw [orN_v] at h
  exact h
set_option maxRecDepth 100000 in
set_option maxHeartbeats 4000000 in
theorem known25_any (w : World) : Calls Tryz.prog 8 #[] w fun e w' => e = .returned (.bool true) ∧ Keep w w' := by
  go_enter Tryz.func8, Tryz.ntmps8
  go_wp2_with (go_at_call 24; refine Zone.hold ?_)
  refine Zone.unhold ?_
  have hsl := sl_blk (k := 3) (enc := Val.cells) (fun _ => rfl) (at_alloc w ([vN 3, vN 1, vN 2].flatMap Val.cells) 51) (by simp)
  refine (of_any 1 (some ⟨w.heap.size, 0, none⟩) 3 [vN 3, vN 1, vN 2] _ hsl (by simp)).mono ?_
  rw [kn_err, kn_own]
  rintro e w1 ⟨v, rfl, hres, hk1⟩
  rcases hres with ⟨h, _⟩ | ⟨_, b, A, c, rfl, hD⟩
  · exact absurd rfl h
  have HK1 := Lib.hid ((Keep.alloc (Keep.refl w) _).trans hk1)
  have HD := Lib.hid hD
  have hb := hD.lt
  clear hk1 hD hsl
  go_wp2_with (go_at_call 28; refine Zone.hold ?_)
  refine Zone.unhold ?_
  refine (lf_any kA 1 1 _).mono ?_
  rintro e w2 ⟨g1, rfl, hs1, hk2⟩
  have HB2 := Lib.hid (show w2.cell? ⟨w1.heap.size, 0, none⟩ = some (.pointer (some ⟨b, 0, none⟩)) from (hk2.cell (p := ⟨w1.heap.size, 0, none⟩) (by simp)).trans (by simp [go_sem]))
  have hk12 : Keep w1 w2 := (Keep.alloc (Keep.refl w1) _).trans hk2
  have hz2 : w1.heap.size < w2.heap.size := World.block_lt_of_cell? _ _ HB2.out
  have HD2 := Lib.hid (HD.out.keep hk12)
  have HK2 := Lib.hid (HK1.out.trans hk12)
  have HS2 := Lib.hid hs1
  clear hs1 hk2 hk12 HD HK1
  rw [lfN_v]
  go_wp2_with (go_at_call 28; refine Zone.hold ?_)
  refine Zone.unhold ?_
  refine (lf_any kA 1 3 _).mono ?_
  rintro e w3 ⟨g2, rfl, hs2, hk3⟩
  have HB3 := Lib.hid ((hk3.cell (p := ⟨w1.heap.size, 0, none⟩) hz2).trans HB2.out)
  have hz3 : w1.heap.size < w3.heap.size := World.block_lt_of_cell? _ _ HB3.out
  have HD3 := Lib.hid (HD2.out.keep hk3)
  have HK3 := Lib.hid (HK2.out.trans hk3)
  have HL1 := Lib.hid (HS2.out.keep hk3)
  have HL2 := Lib.hid hs2
  clear hs2 hk3 HD2 HK2 HS2 HB2 hz2 w2
  rw [lfN_v]
  go_wp2_with (go_at_call 11; refine Zone.hold ?_)
  refine Zone.unhold ?_
  have hsl := sl_blk (k := 5) (enc := Nd.cells) (fun _ => rfl) (at_alloc w3 ([lfN g1 kA 1 1, lfN g2 kA 1 3].flatMap Nd.cells) 27) (by simp)
  refine (kn_call 29 _ w1.heap.size b c w3.heap.size g1 g2 A kA 3 (fun s W h => kn1_any s _ _ W h) (enters_of Tryz.func29 (by kernel_rfl) rfl) (Sl.keep hsl (by repeat (first | exact Keep.refl _ | apply Keep.alloc | apply Keep.gro | apply Keep.drew | apply Keep.drewN))) (HL1.out.keep (by repeat (first | exact Keep.refl _ | apply Keep.alloc | apply Keep.gro | apply Keep.drew | apply Keep.drewN))) (HL2.out.keep (by repeat (first | exact Keep.refl _ | apply Keep.alloc | apply Keep.gro | apply Keep.drew | apply Keep.drewN))) (((fun {W : World} (h : Keep w3 W) => h.cell (p := ⟨w1.heap.size, 0, none⟩) hz3) (by repeat (first | exact Keep.refl _ | apply Keep.alloc | apply Keep.gro | apply Keep.drew | apply Keep.drewN))).trans HB3.out) (HD3.out.keep (by repeat (first | exact Keep.refl _ | apply Keep.alloc | apply Keep.gro | apply Keep.drew | apply Keep.drewN)))).mono ?_
  clear hsl
  rintro e w4 ⟨v4, no4, ok4, rfl, hr4, hk4⟩
  obtain ⟨rfl, rfl, r, hrl, hrc, hrm⟩ := kn_rest hr4
  clear hr4
  obtain ⟨A4, c4, rfl, _⟩ := hrl.own.sl rs_len (by simp)
  have hk34 : Keep w3 w4 := Keep.trans (show Keep w3 _ from (by repeat (first | exact Keep.refl _ | apply Keep.alloc | apply Keep.gro | apply Keep.drew | apply Keep.drewN))) hk4
  have HB4 := Lib.hid ((hk34.cell (p := ⟨w1.heap.size, 0, none⟩) hz3).trans HB3.out)
  have hz4 : w1.heap.size < w4.heap.size := World.block_lt_of_cell? _ _ HB4.out
  have HD4 := Lib.hid (HD3.out.keep hk34)
  have HK4 := Lib.hid (HK3.out.trans hk34)
  have HR4 := Lib.hid (hrl.base_mono (Nat.zero_le _))
  clear hrl hk34 hk4 HD3 HK3 HB3 HL1 HL2
  go_wp2_with (go_at_call 28; refine Zone.hold ?_)
  refine Zone.unhold ?_
  refine (lf_any kA 1 1 _).mono ?_
  rintro e w5 ⟨g5, rfl, hs5, hk5⟩
  have HB5 := Lib.hid ((hk5.cell (p := ⟨w1.heap.size, 0, none⟩) hz4).trans HB4.out)
  have hz5 : w1.heap.size < w5.heap.size := World.block_lt_of_cell? _ _ HB5.out
  have HD5 := Lib.hid (HD4.out.keep hk5)
  have HK5 := Lib.hid (HK4.out.trans hk5)
  have HR5 := Lib.hid (HR4.out.keep hk5)
  have HS5 := Lib.hid hs5
  clear hs5 hk5 HD4 HK4 HR4 HB4
  rw [lfN_v]
  go_wp2_with (go_at_call 28; refine Zone.hold ?_)
  refine Zone.unhold ?_
  refine (lf_any kC 1 1 _).mono ?_
  rintro e w6 ⟨g6, rfl, hs6, hk6⟩
  have HB6 := Lib.hid ((hk6.cell (p := ⟨w1.heap.size, 0, none⟩) hz5).trans HB5.out)
  have hz6 : w1.heap.size < w6.heap.size := World.block_lt_of_cell? _ _ HB6.out
  have HD6 := Lib.hid (HD5.out.keep hk6)
  have HK6 := Lib.hid (HK5.out.trans hk6)
  have HR6 := Lib.hid (HR5.out.keep hk6)
  have HL1 := Lib.hid (HS5.out.keep hk6)
  have HL2 := Lib.hid hs6
  clear hs6 hk6 HD5 HK5 HR5 HB5 HS5
  rw [lfN_v]
  go_wp2_with (go_at_call 11; refine Zone.hold ?_)
  refine Zone.unhold ?_
  have hsl := sl_blk (k := 5) (enc := Nd.cells) (fun _ => rfl) (at_alloc w6 ([lfN g5 kA 1 1, lfN g6 kC 1 1].flatMap Nd.cells) 27) (by simp)
  refine (kn_call 30 _ w1.heap.size b c w6.heap.size g5 g6 A kC 1 (fun s W h => kn2_any s _ _ W h) (enters_of Tryz.func30 (by kernel_rfl) rfl) (Sl.keep hsl (by repeat (first | exact Keep.refl _ | apply Keep.alloc | apply Keep.gro | apply Keep.drew | apply Keep.drewN))) (HL1.out.keep (by repeat (first | exact Keep.refl _ | apply Keep.alloc | apply Keep.gro | apply Keep.drew | apply Keep.drewN))) (HL2.out.keep (by repeat (first | exact Keep.refl _ | apply Keep.alloc | apply Keep.gro | apply Keep.drew | apply Keep.drewN))) (((fun {W : World} (h : Keep w6 W) => h.cell (p := ⟨w1.heap.size, 0, none⟩) hz6) (by repeat (first | exact Keep.refl _ | apply Keep.alloc | apply Keep.gro | apply Keep.drew | apply Keep.drewN))).trans HB6.out) (HD6.out.keep (by repeat (first | exact Keep.refl _ | apply Keep.alloc | apply Keep.gro | apply Keep.drew | apply Keep.drewN)))).mono ?_
  clear hsl
  rintro e w7 ⟨v7, no7, ok7, rfl, hr7, hk7⟩
  obtain ⟨rfl, rfl, rfl⟩ := kn_none hr7
  clear hr7
  have hk67 : Keep w6 w7 := Keep.trans (show Keep w6 _ from (by repeat (first | exact Keep.refl _ | apply Keep.alloc | apply Keep.gro | apply Keep.drew | apply Keep.drewN))) hk7
  have HB7 := Lib.hid ((hk67.cell (p := ⟨w1.heap.size, 0, none⟩) hz6).trans HB6.out)
  have hz7 : w1.heap.size < w7.heap.size := World.block_lt_of_cell? _ _ HB7.out
  have HD7 := Lib.hid (HD6.out.keep hk67)
  have HK7 := Lib.hid (HK6.out.trans hk67)
  have HR7 := Lib.hid (HR6.out.keep hk67)
  clear hk67 hk7 HD6 HK6 HR6 HB6 HL1 HL2
  have hb7 := HB7.out
  obtain ⟨rc, rg, rm⟩ := r
  simp only at hrc hrm
  subst hrc; subst hrm
  obtain ⟨b4, off4, rfl, hb4, q0, q1⟩ := sl_rs (HR7.out.sl rfl (by simp)) 0 (by simp)
  have hf7 := HR7.out.may _ (List.mem_singleton.2 rfl)
  simp only [List.getElem_cons_zero, Nat.zero_mul, Nat.add_zero, List.length_cons, List.length_nil, Nat.reduceAdd] at q0 q1 hf7
  have HF7 := Lib.hid hf7
  clear hf7
  go_wp2
  first | refine Zone.wp_region_all_gro (by kernel_rfl) (by kernel_rfl) ?_ | refine Zone.wp_region_all (by kernel_rfl) (by kernel_rfl) ?_
  iterate 26
    refine Zone.wpZ_step (fun K hK => ?_)
    go_simp
    (refine hK _ _ ?_; clear hK K)
  refine Zone.wpZ_free 67 (fun u W => ∃ g, u = .slice (some ⟨g, 0, none⟩) 3 3 ∧ Sl W 1 boolV (some ⟨g, 0, none⟩) 3 [true, false, true]) rfl (fun _ W W' hk ⟨g, h1, h2⟩ => ⟨g, h1, h2.keep hk⟩) ?_ ?_
  · intro p
    simp only [Zone.fill, Zone.lookFs, List.filter_nil]
    go_simp
    exact ⟨by have := sl_bl (w7.gro p) [true, false, true] (by decide); simpa [size_gro] using this, Keep.alloc (Keep.refl _) _⟩
  refine Zone.wpZ_step (fun K hK => ?_)
  refine Zone.zone_free1 (.bool true) (d := 67) (by rfl) (fun p u hu => ?_) (hK _ _ ?_)
  · obtain ⟨g, rfl, hs⟩ := hu
    go_simp
    go_at_call 15
    have h9 := flagsEq_any (some ⟨rg, 0, none⟩) (some ⟨g, 0, none⟩) 3 3 [true, false, true] [true, false, true] (w7.gro p) (flags_sl (HF7.out.keep (below_gro w7 p))) hs
    exact Zone.zc h9
  clear hK K
  refine Zone.wpZ_step (fun K hK => ?_)
  unfold Zone.zone Zone.stepZ
  rw [Zone.lookFs_nil (by rfl)]
  go_simp
  (refine hK _ _ ?_; clear hK K)
  refine Zone.wpZ_step (fun K hK => ?_)
  unfold Zone.zone Zone.stepZ
  rw [Zone.lookFs_nil (by rfl)]
  go_simp
  (refine hK _ _ ?_; clear hK K)
  refine Zone.wpZ_step (fun K hK => ?_)
  unfold Zone.zone Zone.stepZ
  rw [Zone.lookFs_nil (by rfl)]
  go_simp
  (refine hK _ _ ?_; clear hK K)
  refine Zone.wpZ_free 72 (fun u W => ∃ g, u = (lfN g kA 5 1).v ∧ Sl W 3 Val.cells (some ⟨g, 0, none⟩) 1 [vN 1]) rfl (fun _ W W' hk ⟨g, h1, h2⟩ => ⟨g, h1, h2.keep hk⟩) ?_ ?_
  · intro p
    rw [Zone.lookFs_nil (by rfl)]
    simp only [Zone.fill]
    go_simp
    go_at_call 28
    refine (lf_any kA 5 1 _).mono ?_
    rintro e w8 ⟨g, rfl, hs, hk⟩
    exact ⟨_, rfl, ⟨g, rfl, hs⟩, hk⟩
  refine Zone.wpZ_free 73 (fun u W => ∃ A c, u = .slice A 3 c ∧ Sl W 1 boolV A c [false, true, true]) rfl (fun _ W W' hk ⟨A, c, h1, h2⟩ => ⟨A, c, h1, h2.keep hk⟩) ?_ ?_
  · intro p
    rw [show Zone.lookFs _ _ _ = [(72, fun u W => ∃ g, u = (lfN g kA 5 1).v ∧ Sl W 3 Val.cells (some ⟨g, 0, none⟩) 1 [vN 1])] from rfl]
    rintro v8 ⟨g, rfl, hs⟩
    rw [lfN_v]
    go_simp
    go_at_call 18
    have h9 := leaf_f b 1 A c kYs (w7.gro p) (w7.gro p).heap.size (lfN g kA 5 1) (lfN_in hs) (w7.gro p) (Keep.refl _) (HD7.out.keep (below_gro w7 p)) (.inl rfl) (by decide)
    rw [kn_leaf, lfN_v] at h9
    refine h9.mono ?_
    rintro e w8 ⟨v, rfl, hown, hk⟩
    obtain ⟨A8, c8, rfl, hs8⟩ := hown.sl bool_len (by decide)
    exact ⟨_, rfl, ⟨A8, c8, rfl, hs8⟩, hk⟩
  refine Zone.wpZ_free 74 (fun u W => ∃ g, u = .slice (some ⟨g, 0, none⟩) 3 3 ∧ Sl W 1 boolV (some ⟨g, 0, none⟩) 3 [false, true, true]) rfl (fun _ W W' hk ⟨g, h1, h2⟩ => ⟨g, h1, h2.keep hk⟩) ?_ ?_
  · intro p
    rw [Zone.lookFs_nil (by rfl)]
    simp only [Zone.fill]
    go_simp
    exact ⟨by have := sl_bl (w7.gro p) [false, true, true] (by decide); simpa [size_gro] using this, Keep.alloc (Keep.refl _) _⟩
  refine Zone.wpZ_step (fun K hK => ?_)
  refine zone_free2 (.bool true) (d1 := 74) (d2 := 73) (by rfl) (fun p v1 v2 h1 h2 => ?_) (hK _ _ ?_)
  · obtain ⟨g, rfl, hs⟩ := h1
    obtain ⟨A8, c8, rfl, hs8⟩ := h2
    go_simp
    go_at_call 15
    exact Zone.zc (flagsEq_any A8 (some ⟨g, 0, none⟩) c8 3 [false, true, true] [false, true, true] (w7.gro p) hs8 hs)
  clear hK K
  refine Zone.wpZ_step (fun K hK => ?_)
  unfold Zone.zone Zone.stepZ
  rw [Zone.lookFs_nil (by rfl)]
  go_simp
  (refine hK _ _ ?_; clear hK K)
  refine Zone.wpZ_step (fun K hK => ?_)
  unfold Zone.zone Zone.stepZ
  rw [Zone.lookFs_nil (by rfl)]
  go_simp
  (refine hK _ _ ?_; clear hK K)
  refine Zone.wpZ_nil ?_
  intro p
  simp only [Zone.fill]
  rintro v1 _ v2 _ v3 _ v4 _
  have HG := Lib.hid (HK7.out.trans (below_gro w7 p))
  generalize w7.gro p = w9 at HG ⊢
  go_simp
  go_wp2
  go_ret
  exact ⟨rfl, HG.out⟩
end Go.Proofs.YthigflnfccajoaaGreat
