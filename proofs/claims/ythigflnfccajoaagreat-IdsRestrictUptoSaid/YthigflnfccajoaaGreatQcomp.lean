
/- Whether a comparison of a value with others is so: query.compares. -/
import Derived.WalkKit
import Derived.Lib.Hide
import Derived.WalkSpells
import Derived.WalkLawsBesides
import Derived.BigQuiet
import Derived.Shelf.Abstract
import Derived.Test.YthigflnfccajoaaGreatQwr
namespace Go.Proofs.YthigflnfccajoaaGreat
open Go.RowKit Go.Zone Go.Shelf
attribute [local go_sem] Zone.zone Zone.stepZ Zone.fill Zone.lookFs Zone.goes Zone.goesUpon Zone.dropFs Zone.cell_gro Zone.frozen_gro Zone.size_gro Zone.lt_add Zone.drew_gro Zone.tape_gro Zone.keep_refl
attribute [local go_sem] Zone.lt_add2 Zone.lt_add3 Zone.lt_add4 Zone.lt_add5 Zone.lt_add6 Zone.lt_add7 Zone.lt_add8 Zone.lt_add9 Zone.lt_add10 Zone.lt_add11 Zone.lt_add12
/-- A value among others, held against x. -/
def soB (l : List Val) (x : Val) (i : Nat) (q : Int → Bool) : Bool := match l[i]? with | some v => q (cmpV x v) | none => false
set_option maxHeartbeats 4000000 in
theorem so1_any (i : Nat) (g : Nat) (q : Int → Bool) (x : Val) (F : Option Addr) (m : Nat) (l : List Val) (b1 b2 : Nat) (w : World) (hi : i ≤ 5) (h1 : w.cell? ⟨b1, 0, none⟩ = some (.slice F l.length m)) (hx : At w b2 x.cells) (hs : Sl w 3 Val.cells F m l)
    (eg : ∀ args w, (callFunc g args).run Tryz.prog w = .ok (.enter g args) w) (hq : ∀ c W, Calls Tryz.prog g #[.int .i64 c] W fun e w' => e = .returned (.bool (q c)) ∧ Keep W w') :
    Calls Tryz.prog 91 #[.int .i64 i, .func (.func g) #[] #[], .pointer (some ⟨b1, 0, none⟩), .pointer (some ⟨b2, 0, none⟩)] w fun e w' => e = .returned (.bool (soB l x i q)) ∧ Keep w w' := by
  obtain ⟨k, n, s⟩ := x
  have x0 := hx 0 _ rfl
  have x1 := hx 1 _ rfl
  have x2 := hx 2 _ rfl
  simp only [Nat.zero_add] at x0 x1 x2
  have hb1 := World.block_lt_of_cell? _ _ h1
  have hb2 := World.block_lt_of_cell? _ _ x0
  simp only at hb1 hb2
  have hl := hs.len
  have HQ := Lib.hid hq
  clear hq hx
  by_cases hlt : i < l.length
  · obtain ⟨b, off, rfl, hb, y0, y1, y2⟩ := sl_val hs i hlt
    have e1 : soB l ⟨k, n, s⟩ i q = q (cmpV ⟨k, n, s⟩ l[i]) := by unfold soB; rw [List.getElem?_eq_getElem hlt]
    rw [e1]
    have hd : decide ((i : Int) < (l.length : Int)) = true := by simp [hlt]
    have hd2 : decide (i < l.length) = true := by simp [hlt]
    have HC := Lib.hid (compare_any ⟨k, n, s⟩ l[i])
    clear e1 hs
    go_enter Tryz.func91, Tryz.ntmps91
    go_wp2
    first | refine Zone.wp_region_all_gro (by kernel_rfl) (by kernel_rfl) ?_ | refine Zone.wp_region_all (by kernel_rfl) (by kernel_rfl) ?_
    repeat
      refine Zone.wpZ_step (fun K hK => ?_)
      go_simp
      first
      | (refine hK _ _ ?_; clear hK K)
      | (apply Exists.intro
         refine ⟨fun p => ?_, hK _ _ ?_⟩
         (first | (go_at_call 56; exact Zone.zc (HC.out _)) | (go_at_fn g; exact Zone.zc (HQ.out _ _)))
         clear hK K)
    refine Zone.wpZ_nil ?_
    intro p
    simp only [Zone.fill]
    go_wp2
    go_ret
    exact ⟨rfl, (by repeat (first | exact Keep.refl _ | apply Keep.alloc | apply Keep.gro | apply Keep.drew | apply Keep.drewN))⟩
  · have e1 : soB l ⟨k, n, s⟩ i q = false := by unfold soB; rw [List.getElem?_eq_none (by omega)]
    rw [e1]
    have hd : decide ((i : Int) < (l.length : Int)) = false := by simp; omega
    have hd2 : decide (i < l.length) = false := by simp; omega
    clear e1 hs
    go_enter Tryz.func91, Tryz.ntmps91
    go_wp2
    first | refine Zone.wp_region_all_gro (by kernel_rfl) (by kernel_rfl) ?_ | refine Zone.wp_region_all (by kernel_rfl) (by kernel_rfl) ?_
    repeat
      refine Zone.wpZ_step (fun K hK => ?_)
      go_simp
      first
      | (refine hK _ _ ?_; clear hK K)
      | (apply Exists.intro
         refine ⟨fun p => ?_, hK _ _ ?_⟩
         (fail)
         clear hK K)
    refine Zone.wpZ_nil ?_
    intro p
    simp only [Zone.fill]
    go_wp2
    go_ret
    exact ⟨rfl, (by repeat (first | exact Keep.refl _ | apply Keep.alloc | apply Keep.gro | apply Keep.drew | apply Keep.drewN))⟩
theorem so_fn2 (c : Int) (w : World) : Calls Tryz.prog 92 #[.int .i64 c] w fun e w' => e = .returned (.bool (c == 0)) ∧ Keep w w' := by
  go_enter Tryz.func92, Tryz.ntmps92
  go_wp2
  go_ret
  exact ⟨rfl, (by repeat (first | exact Keep.refl _ | apply Keep.alloc | apply Keep.gro | apply Keep.drew | apply Keep.drewN))⟩
theorem so_fn3 (c : Int) (w : World) : Calls Tryz.prog 93 #[.int .i64 c] w fun e w' => e = .returned (.bool (c != 0)) ∧ Keep w w' := by
  go_enter Tryz.func93, Tryz.ntmps93
  go_wp2
  go_ret
  exact ⟨rfl, (by repeat (first | exact Keep.refl _ | apply Keep.alloc | apply Keep.gro | apply Keep.drew | apply Keep.drewN))⟩
theorem so_fn4 (c : Int) (w : World) : Calls Tryz.prog 94 #[.int .i64 c] w fun e w' => e = .returned (.bool (decide (c < 0))) ∧ Keep w w' := by
  go_enter Tryz.func94, Tryz.ntmps94
  go_wp2
  go_ret
  exact ⟨rfl, (by repeat (first | exact Keep.refl _ | apply Keep.alloc | apply Keep.gro | apply Keep.drew | apply Keep.drewN))⟩
theorem so_fn5 (c : Int) (w : World) : Calls Tryz.prog 95 #[.int .i64 c] w fun e w' => e = .returned (.bool (decide (c ≤ 0))) ∧ Keep w w' := by
  go_enter Tryz.func95, Tryz.ntmps95
  go_wp2
  go_ret
  exact ⟨rfl, (by repeat (first | exact Keep.refl _ | apply Keep.alloc | apply Keep.gro | apply Keep.drew | apply Keep.drewN))⟩
theorem so_fn6 (c : Int) (w : World) : Calls Tryz.prog 96 #[.int .i64 c] w fun e w' => e = .returned (.bool (decide (0 < c))) ∧ Keep w w' := by
  go_enter Tryz.func96, Tryz.ntmps96
  go_wp2
  go_ret
  exact ⟨rfl, (by repeat (first | exact Keep.refl _ | apply Keep.alloc | apply Keep.gro | apply Keep.drew | apply Keep.drewN))⟩
theorem so_fn7 (c : Int) (w : World) : Calls Tryz.prog 97 #[.int .i64 c] w fun e w' => e = .returned (.bool (decide (0 ≤ c))) ∧ Keep w w' := by
  go_enter Tryz.func97, Tryz.ntmps97
  go_wp2
  go_ret
  exact ⟨rfl, (by repeat (first | exact Keep.refl _ | apply Keep.alloc | apply Keep.gro | apply Keep.drew | apply Keep.drewN))⟩
theorem so_fn9 (c : Int) (w : World) : Calls Tryz.prog 99 #[.int .i64 c] w fun e w' => e = .returned (.bool (decide (0 ≤ c))) ∧ Keep w w' := by
  go_enter Tryz.func99, Tryz.ntmps99
  go_wp2
  go_ret
  exact ⟨rfl, (by repeat (first | exact Keep.refl _ | apply Keep.alloc | apply Keep.gro | apply Keep.drew | apply Keep.drewN))⟩
theorem so_fn10 (c : Int) (w : World) : Calls Tryz.prog 100 #[.int .i64 c] w fun e w' => e = .returned (.bool (decide (c ≤ 0))) ∧ Keep w w' := by
  go_enter Tryz.func100, Tryz.ntmps100
  go_wp2
  go_ret
  exact ⟨rfl, (by repeat (first | exact Keep.refl _ | apply Keep.alloc | apply Keep.gro | apply Keep.drew | apply Keep.drewN))⟩
def eqQ (x v : Val) : Bool := cmpV x v == 0
theorem so_fn8 (v x : Val) (b2 : Nat) (w : World) (hx : At w b2 x.cells) : Calls Tryz.prog 98 #[v.v, .pointer (some ⟨b2, 0, none⟩)] w fun e w' => e = .returned (.bool (eqQ x v)) ∧ Keep w w' := by
  obtain ⟨k, n, s⟩ := x
  obtain ⟨k', n', s'⟩ := v
  have x0 := hx 0 _ rfl
  have x1 := hx 1 _ rfl
  have x2 := hx 2 _ rfl
  have hb2 := World.block_lt_of_cell? _ _ x0
  simp only at hb2
  have HC := Lib.hid (compare_any ⟨k, n, s⟩ ⟨k', n', s'⟩)
  unfold eqQ
  clear hx
  simp only [Val.v]
  go_enter Tryz.func98, Tryz.ntmps98
  go_wp2_with (go_at_call 56; refine (HC.out _).mono ?_; rintro e w' ⟨rfl, hk⟩; (first | obtain ⟨p, rfl⟩ := Zone.gro_of_gro _ _ hk | obtain ⟨p, rfl⟩ := Zone.gro_of_below _ hk); clear hk)
  go_ret
  exact ⟨rfl, (by repeat (first | exact Keep.refl _ | apply Keep.alloc | apply Keep.gro | apply Keep.drew | apply Keep.drewN))⟩
/-- Whether a comparison of a value with some others is so. -/
def compB (x : Val) (cmp : Int) (l : List Val) : Bool :=
  if cmp = 1 then soB l x 0 (fun c => c == 0) else if cmp = 2 then soB l x 0 (fun c => c != 0) else if cmp = 3 then soB l x 0 (fun c => decide (c < 0)) else if cmp = 4 then soB l x 0 (fun c => decide (c ≤ 0))
  else if cmp = 5 then soB l x 0 (fun c => decide (0 < c)) else if cmp = 6 then soB l x 0 (fun c => decide (0 ≤ c)) else if cmp = 7 then l.any (eqQ x)
  else soB l x 0 (fun c => decide (0 ≤ c)) && soB l x 1 (fun c => decide (c ≤ 0))
theorem comp1 (x : Val) (F : Option Addr) (m : Nat) (l : List Val) (w : World) (hs : Sl w 3 Val.cells F m l) :
    Calls Tryz.prog 75 #[x.v, .int .u8 1, .slice F l.length m] w fun e w' => e = .returned (.bool (soB l x 0 (fun c => c == 0))) ∧ Keep w w' := by
  obtain ⟨k, n, s⟩ := x
  have HS := Lib.hid hs
  have eg1 : ∀ args w, (callFunc 91 args).run Tryz.prog w = .ok (.enter 91 args) w := enters_of Tryz.func91 (by kernel_rfl) rfl
  have hl := hs.len
  clear hs
  simp only [Val.v]
  go_enter Tryz.func75, Tryz.ntmps75
  go_wp2_with (go_at_fn 91; refine (so1_any 0 92 (fun c => c == 0) ⟨k, n, s⟩ F m l (w.heap.size + 1) w.heap.size _ (by omega) (by simp [go_sem]) (fun j u hu => by match j, hu with | 0, hu => cases hu; simp [go_sem] | 1, hu => cases hu; simp [go_sem] | 2, hu => cases hu; simp [go_sem]) (HS.out.keep (by repeat (first | exact Keep.refl _ | apply Keep.alloc | apply Keep.gro | apply Keep.drew | apply Keep.drewN))) (enters_of Tryz.func92 (by kernel_rfl) rfl) so_fn2).mono ?_; rintro e w' ⟨rfl, hk⟩; obtain ⟨p, rfl⟩ := Zone.gro_of_below _ hk; clear hk)
  go_ret
  exact ⟨rfl, (by repeat (first | exact Keep.refl _ | apply Keep.alloc | apply Keep.gro | apply Keep.drew | apply Keep.drewN))⟩
theorem comp2 (x : Val) (F : Option Addr) (m : Nat) (l : List Val) (w : World) (hs : Sl w 3 Val.cells F m l) :
    Calls Tryz.prog 75 #[x.v, .int .u8 2, .slice F l.length m] w fun e w' => e = .returned (.bool (soB l x 0 (fun c => c != 0))) ∧ Keep w w' := by
  obtain ⟨k, n, s⟩ := x
  have HS := Lib.hid hs
  have eg1 : ∀ args w, (callFunc 91 args).run Tryz.prog w = .ok (.enter 91 args) w := enters_of Tryz.func91 (by kernel_rfl) rfl
  have hl := hs.len
  clear hs
  simp only [Val.v]
  go_enter Tryz.func75, Tryz.ntmps75
  go_wp2_with (go_at_fn 91; refine (so1_any 0 93 (fun c => c != 0) ⟨k, n, s⟩ F m l (w.heap.size + 1) w.heap.size _ (by omega) (by simp [go_sem]) (fun j u hu => by match j, hu with | 0, hu => cases hu; simp [go_sem] | 1, hu => cases hu; simp [go_sem] | 2, hu => cases hu; simp [go_sem]) (HS.out.keep (by repeat (first | exact Keep.refl _ | apply Keep.alloc | apply Keep.gro | apply Keep.drew | apply Keep.drewN))) (enters_of Tryz.func93 (by kernel_rfl) rfl) so_fn3).mono ?_; rintro e w' ⟨rfl, hk⟩; obtain ⟨p, rfl⟩ := Zone.gro_of_below _ hk; clear hk)
  go_ret
  exact ⟨rfl, (by repeat (first | exact Keep.refl _ | apply Keep.alloc | apply Keep.gro | apply Keep.drew | apply Keep.drewN))⟩
theorem comp3 (x : Val) (F : Option Addr) (m : Nat) (l : List Val) (w : World) (hs : Sl w 3 Val.cells F m l) :
    Calls Tryz.prog 75 #[x.v, .int .u8 3, .slice F l.length m] w fun e w' => e = .returned (.bool (soB l x 0 (fun c => decide (c < 0)))) ∧ Keep w w' := by
  obtain ⟨k, n, s⟩ := x
  have HS := Lib.hid hs
  have eg1 : ∀ args w, (callFunc 91 args).run Tryz.prog w = .ok (.enter 91 args) w := enters_of Tryz.func91 (by kernel_rfl) rfl
  have hl := hs.len
  clear hs
  simp only [Val.v]
  go_enter Tryz.func75, Tryz.ntmps75
  go_wp2_with (go_at_fn 91; refine (so1_any 0 94 (fun c => decide (c < 0)) ⟨k, n, s⟩ F m l (w.heap.size + 1) w.heap.size _ (by omega) (by simp [go_sem]) (fun j u hu => by match j, hu with | 0, hu => cases hu; simp [go_sem] | 1, hu => cases hu; simp [go_sem] | 2, hu => cases hu; simp [go_sem]) (HS.out.keep (by repeat (first | exact Keep.refl _ | apply Keep.alloc | apply Keep.gro | apply Keep.drew | apply Keep.drewN))) (enters_of Tryz.func94 (by kernel_rfl) rfl) so_fn4).mono ?_; rintro e w' ⟨rfl, hk⟩; obtain ⟨p, rfl⟩ := Zone.gro_of_below _ hk; clear hk)
  go_ret
  exact ⟨rfl, (by repeat (first | exact Keep.refl _ | apply Keep.alloc | apply Keep.gro | apply Keep.drew | apply Keep.drewN))⟩
theorem comp4 (x : Val) (F : Option Addr) (m : Nat) (l : List Val) (w : World) (hs : Sl w 3 Val.cells F m l) :
    Calls Tryz.prog 75 #[x.v, .int .u8 4, .slice F l.length m] w fun e w' => e = .returned (.bool (soB l x 0 (fun c => decide (c ≤ 0)))) ∧ Keep w w' := by
  obtain ⟨k, n, s⟩ := x
  have HS := Lib.hid hs
  have eg1 : ∀ args w, (callFunc 91 args).run Tryz.prog w = .ok (.enter 91 args) w := enters_of Tryz.func91 (by kernel_rfl) rfl
  have hl := hs.len
  clear hs
  simp only [Val.v]
  go_enter Tryz.func75, Tryz.ntmps75
  go_wp2_with (go_at_fn 91; refine (so1_any 0 95 (fun c => decide (c ≤ 0)) ⟨k, n, s⟩ F m l (w.heap.size + 1) w.heap.size _ (by omega) (by simp [go_sem]) (fun j u hu => by match j, hu with | 0, hu => cases hu; simp [go_sem] | 1, hu => cases hu; simp [go_sem] | 2, hu => cases hu; simp [go_sem]) (HS.out.keep (by repeat (first | exact Keep.refl _ | apply Keep.alloc | apply Keep.gro | apply Keep.drew | apply Keep.drewN))) (enters_of Tryz.func95 (by kernel_rfl) rfl) so_fn5).mono ?_; rintro e w' ⟨rfl, hk⟩; obtain ⟨p, rfl⟩ := Zone.gro_of_below _ hk; clear hk)
  go_ret
  exact ⟨rfl, (by repeat (first | exact Keep.refl _ | apply Keep.alloc | apply Keep.gro | apply Keep.drew | apply Keep.drewN))⟩
theorem comp5 (x : Val) (F : Option Addr) (m : Nat) (l : List Val) (w : World) (hs : Sl w 3 Val.cells F m l) :
    Calls Tryz.prog 75 #[x.v, .int .u8 5, .slice F l.length m] w fun e w' => e = .returned (.bool (soB l x 0 (fun c => decide (0 < c)))) ∧ Keep w w' := by
  obtain ⟨k, n, s⟩ := x
  have HS := Lib.hid hs
  have eg1 : ∀ args w, (callFunc 91 args).run Tryz.prog w = .ok (.enter 91 args) w := enters_of Tryz.func91 (by kernel_rfl) rfl
  have hl := hs.len
  clear hs
  simp only [Val.v]
  go_enter Tryz.func75, Tryz.ntmps75
  go_wp2_with (go_at_fn 91; refine (so1_any 0 96 (fun c => decide (0 < c)) ⟨k, n, s⟩ F m l (w.heap.size + 1) w.heap.size _ (by omega) (by simp [go_sem]) (fun j u hu => by match j, hu with | 0, hu => cases hu; simp [go_sem] | 1, hu => cases hu; simp [go_sem] | 2, hu => cases hu; simp [go_sem]) (HS.out.keep (by repeat (first | exact Keep.refl _ | apply Keep.alloc | apply Keep.gro | apply Keep.drew | apply Keep.drewN))) (enters_of Tryz.func96 (by kernel_rfl) rfl) so_fn6).mono ?_; rintro e w' ⟨rfl, hk⟩; obtain ⟨p, rfl⟩ := Zone.gro_of_below _ hk; clear hk)
  go_ret
  exact ⟨rfl, (by repeat (first | exact Keep.refl _ | apply Keep.alloc | apply Keep.gro | apply Keep.drew | apply Keep.drewN))⟩
theorem comp6 (x : Val) (F : Option Addr) (m : Nat) (l : List Val) (w : World) (hs : Sl w 3 Val.cells F m l) :
    Calls Tryz.prog 75 #[x.v, .int .u8 6, .slice F l.length m] w fun e w' => e = .returned (.bool (soB l x 0 (fun c => decide (0 ≤ c)))) ∧ Keep w w' := by
  obtain ⟨k, n, s⟩ := x
  have HS := Lib.hid hs
  have eg1 : ∀ args w, (callFunc 91 args).run Tryz.prog w = .ok (.enter 91 args) w := enters_of Tryz.func91 (by kernel_rfl) rfl
  have hl := hs.len
  clear hs
  simp only [Val.v]
  go_enter Tryz.func75, Tryz.ntmps75
  go_wp2_with (go_at_fn 91; refine (so1_any 0 97 (fun c => decide (0 ≤ c)) ⟨k, n, s⟩ F m l (w.heap.size + 1) w.heap.size _ (by omega) (by simp [go_sem]) (fun j u hu => by match j, hu with | 0, hu => cases hu; simp [go_sem] | 1, hu => cases hu; simp [go_sem] | 2, hu => cases hu; simp [go_sem]) (HS.out.keep (by repeat (first | exact Keep.refl _ | apply Keep.alloc | apply Keep.gro | apply Keep.drew | apply Keep.drewN))) (enters_of Tryz.func97 (by kernel_rfl) rfl) so_fn7).mono ?_; rintro e w' ⟨rfl, hk⟩; obtain ⟨p, rfl⟩ := Zone.gro_of_below _ hk; clear hk)
  go_ret
  exact ⟨rfl, (by repeat (first | exact Keep.refl _ | apply Keep.alloc | apply Keep.gro | apply Keep.drew | apply Keep.drewN))⟩
theorem comp7 (x : Val) (F : Option Addr) (m : Nat) (l : List Val) (w : World) (hs : Sl w 3 Val.cells F m l) :
    Calls Tryz.prog 75 #[x.v, .int .u8 7, .slice F l.length m] w fun e w' => e = .returned (.bool (l.any (eqQ x))) ∧ Keep w w' := by
  obtain ⟨k, n, s⟩ := x
  have HS := Lib.hid hs
  have hl := hs.len
  clear hs
  simp only [Val.v]
  go_enter Tryz.func75, Tryz.ntmps75
  go_wp2_with (go_at_call 51; refine (containsFunc_any F m l 98 #[.pointer (some ⟨w.heap.size, 0, none⟩)] (eqQ ⟨k, n, s⟩) _ (enters_of Tryz.func98 (by kernel_rfl) rfl) (HS.out.keep (by repeat (first | exact Keep.refl _ | apply Keep.alloc | apply Keep.gro | apply Keep.drew | apply Keep.drewN))) (fun W v hW => so_fn8 v ⟨k, n, s⟩ w.heap.size W (At.keep hW (fun j u hu => by match j, hu with | 0, hu => cases hu; simp [go_sem] | 1, hu => cases hu; simp [go_sem] | 2, hu => cases hu; simp [go_sem])))).mono ?_; rintro e w' ⟨rfl, hk⟩; (first | obtain ⟨p, rfl⟩ := Zone.gro_of_gro _ _ hk | obtain ⟨p, rfl⟩ := Zone.gro_of_below _ hk); clear hk)
  go_ret
  exact ⟨rfl, (by repeat (first | exact Keep.refl _ | apply Keep.alloc | apply Keep.gro | apply Keep.drew | apply Keep.drewN))⟩
set_option maxHeartbeats 1000000 in
theorem comp8 (x : Val) (cmp : Int) (F : Option Addr) (m : Nat) (l : List Val) (w : World) (hs : Sl w 3 Val.cells F m l) (h1 : cmp ≠ 1) (h2 : cmp ≠ 2) (h3 : cmp ≠ 3) (h4 : cmp ≠ 4) (h5 : cmp ≠ 5) (h6 : cmp ≠ 6) (h7 : cmp ≠ 7) :
    Calls Tryz.prog 75 #[x.v, .int .u8 cmp, .slice F l.length m] w fun e w' => e = .returned (.bool (soB l x 0 (fun c => decide (0 ≤ c)) && soB l x 1 (fun c => decide (c ≤ 0)))) ∧ Keep w w' := by
  obtain ⟨k, n, s⟩ := x
  have HS := Lib.hid hs
  have eg1 : ∀ args w, (callFunc 91 args).run Tryz.prog w = .ok (.enter 91 args) w := enters_of Tryz.func91 (by kernel_rfl) rfl
  have hl := hs.len
  have d1 : (cmp == 1) = false := by simpa using h1
  have d2 : (cmp == 2) = false := by simpa using h2
  have d3 : (cmp == 3) = false := by simpa using h3
  have d4 : (cmp == 4) = false := by simpa using h4
  have d5 : (cmp == 5) = false := by simpa using h5
  have d6 : (cmp == 6) = false := by simpa using h6
  have d7 : (cmp == 7) = false := by simpa using h7
  clear hs h1 h2 h3 h4 h5 h6 h7
  simp only [Val.v]
  generalize hb : soB l ⟨k, n, s⟩ 0 (fun c => decide (0 ≤ c)) = bb
  have HB := Lib.hid hb
  clear hb
  go_enter Tryz.func75, Tryz.ntmps75
  cases bb
  · go_wp2_with (first | (go_at_fn 91; refine Zone.hold ?_))
    refine Zone.unhold ?_
    refine (so1_any 0 99 (fun c => decide (0 ≤ c)) ⟨k, n, s⟩ F m l (w.heap.size + 1) w.heap.size _ (by omega) (by simp [go_sem]) (fun j u hu => by match j, hu with | 0, hu => cases hu; simp [go_sem] | 1, hu => cases hu; simp [go_sem] | 2, hu => cases hu; simp [go_sem]) (HS.out.keep (by repeat (first | exact Keep.refl _ | apply Keep.alloc | apply Keep.gro | apply Keep.drew | apply Keep.drewN))) (enters_of Tryz.func99 (by kernel_rfl) rfl) so_fn9).mono ?_
    rw [HB.out]
    rintro e w' ⟨rfl, hk⟩
    obtain ⟨p, rfl⟩ := Zone.gro_of_below _ hk
    clear hk
    go_wp2
    go_ret
    exact ⟨rfl, (by repeat (first | exact Keep.refl _ | apply Keep.alloc | apply Keep.gro | apply Keep.drew | apply Keep.drewN))⟩
  · go_wp2_with (first | (go_at_fn 91; refine Zone.hold ?_))
    refine Zone.unhold ?_
    refine (so1_any 0 99 (fun c => decide (0 ≤ c)) ⟨k, n, s⟩ F m l (w.heap.size + 1) w.heap.size _ (by omega) (by simp [go_sem]) (fun j u hu => by match j, hu with | 0, hu => cases hu; simp [go_sem] | 1, hu => cases hu; simp [go_sem] | 2, hu => cases hu; simp [go_sem]) (HS.out.keep (by repeat (first | exact Keep.refl _ | apply Keep.alloc | apply Keep.gro | apply Keep.drew | apply Keep.drewN))) (enters_of Tryz.func99 (by kernel_rfl) rfl) so_fn9).mono ?_
    rw [HB.out]
    rintro e w' ⟨rfl, hk⟩
    obtain ⟨p, rfl⟩ := Zone.gro_of_below _ hk
    clear hk
    go_wp2_with (go_at_fn 91; refine (so1_any 1 100 (fun c => decide (c ≤ 0)) ⟨k, n, s⟩ F m l (w.heap.size + 1) w.heap.size _ (by omega) (by simp [go_sem]) (fun j u hu => by match j, hu with | 0, hu => cases hu; simp [go_sem] | 1, hu => cases hu; simp [go_sem] | 2, hu => cases hu; simp [go_sem]) (HS.out.keep (by repeat (first | exact Keep.refl _ | apply Keep.alloc | apply Keep.gro | apply Keep.drew | apply Keep.drewN))) (enters_of Tryz.func100 (by kernel_rfl) rfl) so_fn10).mono ?_; rintro e w' ⟨rfl, hk⟩; obtain ⟨p, rfl⟩ := Zone.gro_of_below _ hk; clear hk)
    go_ret
    exact ⟨rfl, (by repeat (first | exact Keep.refl _ | apply Keep.alloc | apply Keep.gro | apply Keep.drew | apply Keep.drewN))⟩
theorem comp_any (x : Val) (cmp : Int) (F : Option Addr) (m : Nat) (l : List Val) (w : World) (hs : Sl w 3 Val.cells F m l) :
    Calls Tryz.prog 75 #[x.v, .int .u8 cmp, .slice F l.length m] w fun e w' => e = .returned (.bool (compB x cmp l)) ∧ Keep w w' := by
  unfold compB
  by_cases h1 : cmp = 1
  · subst h1; exact comp1 x F m l w hs
  by_cases h2 : cmp = 2
  · subst h2; exact comp2 x F m l w hs
  by_cases h3 : cmp = 3
  · subst h3; exact comp3 x F m l w hs
  by_cases h4 : cmp = 4
  · subst h4; exact comp4 x F m l w hs
  by_cases h5 : cmp = 5
  · subst h5; exact comp5 x F m l w hs
  by_cases h6 : cmp = 6
  · subst h6; exact comp6 x F m l w hs
  by_cases h7 : cmp = 7
  · subst h7; exact comp7 x F m l w hs
  rw [if_neg h1, if_neg h2, if_neg h3, if_neg h4, if_neg h5, if_neg h6, if_neg h7]
  exact comp8 x cmp F m l w hs h1 h2 h3 h4 h5 h6 h7
end Go.Proofs.YthigflnfccajoaaGreat
