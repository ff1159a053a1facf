
/- groups: the document's Same on groups that say the same. -/
import Derived.WalkKit
import Derived.Lib.Hide
import Derived.WalkSpells
import Derived.WalkLawsBesides
import Derived.BigQuiet
import Derived.Shelf.Abstract
import Derived.Lib.SliceRun
import Derived.IntWalk
import Derived.Deep.CutRange
import Derived.Deep.DeepCutAuto
import Derived.Test.YtpefhleglhbfaaaGf
namespace Go.Proofs.Ytpefhleglhbfaaa
open Go.RowKit Go.Zone Go.Shelf
attribute [local go_sem] Zone.zone Zone.stepZ Zone.fill Zone.lookFs Zone.goes Zone.goesUpon Zone.dropFs Zone.cell_gro Zone.frozen_gro Zone.size_gro Zone.lt_add Zone.drew_gro Zone.tape_gro Zone.keep_refl
attribute [local go_sem] Zone.lt_add2 Zone.lt_add3 Zone.lt_add4 Zone.lt_add5 Zone.lt_add6 Zone.lt_add7 Zone.lt_add8 Zone.lt_add9 Zone.lt_add10 Zone.lt_add11 Zone.lt_add12
theorem rcmp_any (A B : Option Addr) (c d : Nat) (xs : List Int) (w : World) (hx : Sl w 1 intV A c xs) (hy : Sl w 1 intV B d xs) :
    Calls Try.prog 19 #[.slice A xs.length c, .slice B xs.length d] w fun e w' => e = .returned (.int .i64 0) ∧ Keep w w' := by
  have hlx := hx.len
  have HX := Lib.hid hx
  have HY := Lib.hid hy
  clear hx hy
  obtain ⟨n, hn⟩ : ∃ n, xs.length = n := ⟨_, rfl⟩
  have HN := Lib.hid hn
  rw [hn] at hlx ⊢
  clear hn
  go_enter Try.func19, Try.ntmps19
  go_wp2
  go_loopw [5] (fun i wr => ∃ k : Nat, k ≤ n ∧ i = .int .i64 k ∧ Hid (Keep w wr)) (fun i _ => n - (intOf i).toNat)
  case atStart => exact ⟨0, Nat.zero_le _, rfl, Keep.refl _⟩
  case round =>
    obtain ⟨k, hk, rfl, HK⟩ := hrel
    by_cases hlt : k < n
    · obtain ⟨g, off, hA, hg, x0⟩ := sl_int (HX.out.keep HK.out) k (by rw [HN.out]; exact hlt)
      obtain ⟨g2, off2, hB, hg2, y0⟩ := sl_int (HY.out.keep HK.out) k (by rw [HN.out]; exact hlt)
      have hkx : k < xs.length := by rw [HN.out]; exact hlt
      generalize xs[k] = x at x0 y0
      subst hA hB
      clear hkx
      go_wp2
      first | refine Zone.wp_region_all_gro (by kernel_rfl) (by kernel_rfl) ?_ | refine Zone.wp_region_all (by kernel_rfl) (by kernel_rfl) ?_
      repeat
        refine Zone.wpZ_step (fun K hK => ?_)
        go_simp
        first
        | (refine hK _ _ ?_; clear hK K)
        | (apply Exists.intro
           refine ⟨fun p => ?_, hK _ _ ?_⟩
           (fail)
           clear hK K)
      refine Zone.wpZ_nil ?_
      intro p
      simp only [Zone.fill]
      go_wp2
      first | refine Zone.wp_region_all_gro (by kernel_rfl) (by kernel_rfl) ?_ | refine Zone.wp_region_all (by kernel_rfl) (by kernel_rfl) ?_
      repeat
        refine Zone.wpZ_step (fun K hK => ?_)
        go_simp
        first
        | (refine hK _ _ ?_; clear hK K)
        | (apply Exists.intro
           refine ⟨fun p => ?_, hK _ _ ?_⟩
           (fail)
           clear hK K)
      refine Zone.wpZ_nil ?_
      intro p2
      simp only [Zone.fill]
      go_wp2
      go_roundw
      case rel => exact ⟨k + 1, by omega, by go_num, HK.out.trans (by repeat (first | exact Keep.refl _ | apply Keep.alloc | apply Keep.gro | apply Keep.drew | apply Keep.drewN))⟩
      case measure => simp [intOf]; omega
    · have : n = k := by omega
      subst this
      go_wp2
      go_ret
      exact ⟨rfl, HK.out.trans (by repeat (first | exact Keep.refl _ | apply Keep.alloc | apply Keep.gro | apply Keep.drew | apply Keep.drewN))⟩
theorem rnum_any (A B : Option Addr) (c d : Nat) (xs : List Int) (w : World) (hx : Sl w 1 intV A c xs) (hy : Sl w 1 intV B d xs) :
    Calls Try.prog 20 #[.slice A xs.length c, .slice B xs.length d] w fun e w' => e = .returned (.bool true) ∧ Keep w w' := by
  have hlx := hx.len
  have HX := Lib.hid hx
  have HY := Lib.hid hy
  clear hx hy
  obtain ⟨n, hn⟩ : ∃ n, xs.length = n := ⟨_, rfl⟩
  have HN := Lib.hid hn
  rw [hn] at hlx ⊢
  clear hn
  go_enter Try.func20, Try.ntmps20
  go_wp2
  go_loopw [5] (fun i wr => ∃ k : Nat, k ≤ n ∧ i = .int .i64 k ∧ Hid (Keep w wr)) (fun i _ => n - (intOf i).toNat)
  case atStart => exact ⟨0, Nat.zero_le _, rfl, Keep.refl _⟩
  case round =>
    obtain ⟨k, hk, rfl, HK⟩ := hrel
    by_cases hlt : k < n
    · obtain ⟨g, off, hA, hg, x0⟩ := sl_int (HX.out.keep HK.out) k (by rw [HN.out]; exact hlt)
      obtain ⟨g2, off2, hB, hg2, y0⟩ := sl_int (HY.out.keep HK.out) k (by rw [HN.out]; exact hlt)
      have hkx : k < xs.length := by rw [HN.out]; exact hlt
      generalize xs[k] = x at x0 y0
      subst hA hB
      clear hkx
      go_wp2
      first | refine Zone.wp_region_all_gro (by kernel_rfl) (by kernel_rfl) ?_ | refine Zone.wp_region_all (by kernel_rfl) (by kernel_rfl) ?_
      repeat
        refine Zone.wpZ_step (fun K hK => ?_)
        go_simp
        first
        | (refine hK _ _ ?_; clear hK K)
        | (apply Exists.intro
           refine ⟨fun p => ?_, hK _ _ ?_⟩
           (fail)
           clear hK K)
      refine Zone.wpZ_nil ?_
      intro p
      simp only [Zone.fill]
      go_wp2
      go_roundw
      case rel => exact ⟨k + 1, by omega, by go_num, HK.out.trans (by repeat (first | exact Keep.refl _ | apply Keep.alloc | apply Keep.gro | apply Keep.drew | apply Keep.drewN))⟩
      case measure => simp [intOf]; omega
    · have : n = k := by omega
      subst this
      go_wp2
      go_ret
      exact ⟨rfl, HK.out.trans (by repeat (first | exact Keep.refl _ | apply Keep.alloc | apply Keep.gro | apply Keep.drew | apply Keep.drewN))⟩
/-- A group by value, read. -/
structure CpR (w : World) (x : Cp) : Prop where
  key : Sl w 1 intV x.kA x.kc x.d.key
  s : Sl w 1 intV x.sA x.sc [x.d.s]
  l : Sl w 1 intV x.lA x.lc [x.d.l]
  g : Sl w 1 intV x.gA x.gc [x.d.g]
theorem CpR.keep {w w' : World} {x : Cp} (h : CpR w x) (hk : Keep w w') : CpR w' x := ⟨h.key.keep hk, h.s.keep hk, h.l.keep hk, h.g.keep hk⟩
theorem own_sl1 {w : World} {base n c : Nat} {e : TypeId} {A : Option Addr} {xs : List Int} (h : Zone.Own w base e 1 intV (.slice A n c) xs) (hl : xs.length ≤ 1) : Sl w 1 intV A c xs := by
  obtain ⟨A', c', e, hs⟩ := h.sl int_len (by omega)
  injection e with e1 _ e2
  subst e1; subst e2
  exact hs
theorem CpAt.read {w : World} {lo : Nat} {x : Cp} (h : CpAt w lo x) (hl : x.d.key.length ≤ 1) : CpR w x :=
  ⟨own_sl1 h.key hl, own_sl1 h.s (by simp), own_sl1 h.l (by simp), own_sl1 h.g (by simp)⟩
theorem sl_cp {w : World} {c : Nat} {A : Option Addr} {xs : List Cp} (h : Sl w 5 Cp.cells A c xs) (i : Nat) (hi : i < xs.length) : ∃ b off, A = some ⟨b, off, none⟩ ∧ b < w.heap.size ∧
    w.cell? ⟨b, off + i * 5, none⟩ = some (.slice xs[i].kA xs[i].d.key.length xs[i].kc) ∧ w.cell? ⟨b, off + i * 5 + 1, none⟩ = some (.int .i64 xs[i].d.cnt) ∧ w.cell? ⟨b, off + i * 5 + 2, none⟩ = some (.slice xs[i].sA 1 xs[i].sc) ∧
    w.cell? ⟨b, off + i * 5 + 3, none⟩ = some (.slice xs[i].lA 1 xs[i].lc) ∧ w.cell? ⟨b, off + i * 5 + 4, none⟩ = some (.slice xs[i].gA 1 xs[i].gc) := by
  obtain ⟨b, off, hA, hc⟩ := h.at_ i hi
  have h0 := hc 0 _ rfl
  exact ⟨b, off, hA, World.block_lt_of_cell? w _ h0, by simpa using h0, hc 1 _ rfl, hc 2 _ rfl, hc 3 _ rfl, hc 4 _ rfl⟩
set_option maxRecDepth 100000 in
set_option maxHeartbeats 1000000 in
theorem rsame_any (A B : Option Addr) (c d : Nat) (xs ys : List Cp) (w : World) (hx : Sl w 5 Cp.cells A c xs) (hy : Sl w 5 Cp.cells B d ys) (hxr : ∀ x ∈ xs, CpR w x) (hyr : ∀ y ∈ ys, CpR w y) (hd : xs.map (·.d) = ys.map (·.d)) :
    Calls Try.prog 12 #[.slice A xs.length c, .slice B ys.length d] w fun e w' => e = .returned (.bool true) ∧ Keep w w' := by
  have hll : ys.length = xs.length := by have := congrArg List.length hd; simpa using this.symm
  have hlx := hx.len
  have HX := Lib.hid hx
  have HY := Lib.hid hy
  have HXR := Lib.hid hxr
  have HYR := Lib.hid hyr
  have HLL := Lib.hid hll
  have HD := Lib.hid (fun k (h1 : k < xs.length) (h2 : k < ys.length) => show xs[k].d = ys[k].d by
    have := congrArg (·[k]?) hd
    simpa [h1, h2] using this)
  rw [hll]
  clear hx hy hxr hyr hll hd
  obtain ⟨n, hn⟩ : ∃ n, xs.length = n := ⟨_, rfl⟩
  have HN := Lib.hid hn
  rw [hn] at hlx ⊢
  clear hn
  go_enter Try.func12, Try.ntmps12
  go_wp2
  go_loopw [5] (fun i wr => ∃ k : Nat, k ≤ n ∧ i = .int .i64 k ∧ Hid (Keep w wr)) (fun i _ => n - (intOf i).toNat)
  case atStart => exact ⟨0, Nat.zero_le _, rfl, Keep.refl _⟩
  case round =>
    obtain ⟨k, hk, rfl, HK⟩ := hrel
    by_cases hlt : k < n
    · have hkx : k < xs.length := by rw [HN.out]; exact hlt
      have hky : k < ys.length := by rw [HLL.out, HN.out]; exact hlt
      have hrx := HXR.out xs[k] (List.getElem_mem hkx)
      have hry := HYR.out ys[k] (List.getElem_mem hky)
      have hdd := HD.out k hkx hky
      obtain ⟨g, off, hA, hg, x0, x1, x2, x3, x4⟩ := sl_cp (HX.out.keep HK.out) k hkx
      obtain ⟨g2, off2, hB, hg2, y0, y1, y2, y3, y4⟩ := sl_cp (HY.out.keep HK.out) k hky
      generalize xs[k] = x at hrx hdd x0 x1 x2 x3 x4
      generalize ys[k] = y at hry hdd y0 y1 y2 y3 y4
      subst hA hB
      obtain ⟨dt, kA, kc, sA, sc, lA, lc, gA, gc⟩ := x
      obtain ⟨dt2, kA2, kc2, sA2, sc2, lA2, lc2, gA2, gc2⟩ := y
      simp only at hdd x0 x1 x2 x3 x4 y0 y1 y2 y3 y4
      subst hdd
      have HRX := Lib.hid hrx
      have HRY := Lib.hid hry
      clear hrx hry hkx hky
      have hkl := HRX.out.key.len
      have HCM := Lib.hid (fun W (hW : Keep w W) => rcmp_any kA kA2 kc kc2 dt.key W (HRX.out.key.keep hW) (HRY.out.key.keep hW))
      have HNS := Lib.hid (fun W (hW : Keep w W) => show Calls Try.prog 20 #[.slice sA 1 sc, .slice sA2 1 sc2] W fun e w' => e = .returned (.bool true) ∧ Keep W w' from rnum_any sA sA2 sc sc2 [dt.s] W (HRX.out.s.keep hW) (HRY.out.s.keep hW))
      have HNL := Lib.hid (fun W (hW : Keep w W) => show Calls Try.prog 20 #[.slice lA 1 lc, .slice lA2 1 lc2] W fun e w' => e = .returned (.bool true) ∧ Keep W w' from rnum_any lA lA2 lc lc2 [dt.l] W (HRX.out.l.keep hW) (HRY.out.l.keep hW))
      have HNG := Lib.hid (fun W (hW : Keep w W) => show Calls Try.prog 20 #[.slice gA 1 gc, .slice gA2 1 gc2] W fun e w' => e = .returned (.bool true) ∧ Keep W w' from rnum_any gA gA2 gc gc2 [dt.g] W (HRX.out.g.keep hW) (HRY.out.g.keep hW))
      obtain ⟨kl, hkl2⟩ : ∃ kl, dt.key.length = kl := ⟨_, rfl⟩
      rw [hkl2] at x0 y0 hkl HCM
      obtain ⟨cnt, hcnt⟩ : ∃ cnt, dt.cnt = cnt := ⟨_, rfl⟩
      rw [hcnt] at x1 y1
      clear hkl2 hcnt
      go_wp2
      first | refine Zone.wp_region_all_gro (by kernel_rfl) (by kernel_rfl) ?_ | refine Zone.wp_region_all (by kernel_rfl) (by kernel_rfl) ?_
      simp only [List.append_eq, List.cons_append, List.nil_append]
      repeat
        refine Zone.wpZ_step (fun K hK => ?_)
        go_simp
        first
        | (refine hK _ _ ?_; clear hK K)
        | (apply Exists.intro
           refine ⟨fun p => ?_, hK _ _ ?_⟩
           ((first | (go_at_call 19; (with_reducible refine Zone.zc (HCM.out _ ?_)); exact (HK.out.trans (by repeat (first | exact Keep.refl _ | apply Keep.alloc | apply Keep.gro | apply Keep.drew | apply Keep.drewN)))) | (go_at_call 20; (first | (with_reducible refine Zone.zc (HNS.out _ ?_)) | (with_reducible refine Zone.zc (HNL.out _ ?_)) | (with_reducible refine Zone.zc (HNG.out _ ?_))); exact (HK.out.trans (by repeat (first | exact Keep.refl _ | apply Keep.alloc | apply Keep.gro | apply Keep.drew | apply Keep.drewN))))))
           clear hK K)
      refine Zone.wpZ_nil ?_
      intro p
      simp only [Zone.fill]
      go_wp2
      go_roundw
      case rel => exact ⟨k + 1, by omega, by go_num, HK.out.trans (by repeat (first | exact Keep.refl _ | apply Keep.alloc | apply Keep.gro | apply Keep.drew | apply Keep.drewN))⟩
      case measure => simp [intOf]; omega
    · have : n = k := by omega
      subst this
      go_wp2
      go_ret
      exact ⟨rfl, HK.out.trans (by repeat (first | exact Keep.refl _ | apply Keep.alloc | apply Keep.gro | apply Keep.drew | apply Keep.drewN))⟩
end Go.Proofs.Ytpefhleglhbfaaa
