
/- Contracts of the comparisons of two values, and of what may be a value. -/
import Derived.WalkKit
import Derived.Lib.Hide
import Derived.WalkSpells
import Derived.WalkLawsBesides
import Derived.Test.YtcffcblfmlclnaaGreatDoorProg
import Derived.Test.YtcffcblfmlclnaaGreatDoorZone
namespace Go.Proofs.YtcffcblfmlclnaaGreatDoor
open Go.RowKit Go.Zone
attribute [local go_sem] Zone.zone Zone.stepZ Zone.fill Zone.lookFs Zone.goes Zone.goesUpon Zone.dropFs Zone.cell_gro Zone.frozen_gro Zone.size_gro Zone.lt_add Zone.drew_gro Zone.tape_gro Zone.keep_refl

theorem ret_int {k : IntKind} {a b : Int} (h : a = b) : Ending.returned (.int k a) = .returned (.int k b) := by rw [h]
theorem ret_bool {a b : Bool} (h : a = b) : Ending.returned (.bool a) = .returned (.bool b) := by rw [h]

/-- A value, as the program has it. -/
structure Val where
  k : Int
  n : Int
  s : ByteArray
def Val.cells (x : Val) : List Value := [.int .u8 x.k, .int .i64 x.n, .string x.s]
@[reducible] def Val.v (x : Val) : Value := .agg #[.int .u8 x.k, .int .i64 x.n, .string x.s]
instance : Inhabited Val := ⟨⟨0, 0, ByteArray.empty⟩⟩

def cmpI (a b : Int) : Int := if a < b then -1 else if b < a then 1 else 0
def cmpS (a b : ByteArray) : Int := if Op.bytesLess a.toList b.toList then -1 else if a.toList == b.toList then 0 else 1
def orL : List Int → Int
  | [] => 0
  | x :: r => if x = 0 then orL r else x
def cmpV (a b : Val) : Int := orL [cmpI a.k b.k, cmpI a.n b.n, cmpS a.s b.s]
def mayV (x : Val) : Bool := if x.k == 1 then x.s.toList.isEmpty else if x.k == 2 then x.n == 0 && decide ((x.s.size : Int) ≤ 65535) else false

theorem nan8 (k : Int) (w : World) : Calls Tryz.prog 119 #[.int .u8 k] w fun e w' => e = .returned (.bool false) ∧ w = w' := by
  go_enter Tryz.func119, Tryz.ntmps119
  go_wp2
  go_ret
  exact ⟨by simp, rfl⟩
theorem nan64 (k : Int) (w : World) : Calls Tryz.prog 120 #[.int .i64 k] w fun e w' => e = .returned (.bool false) ∧ w = w' := by
  go_enter Tryz.func120, Tryz.ntmps120
  go_wp2
  go_ret
  exact ⟨by simp, rfl⟩
theorem nanS (k : ByteArray) (w : World) : Calls Tryz.prog 121 #[.string k] w fun e w' => e = .returned (.bool false) ∧ w = w' := by
  go_enter Tryz.func121, Tryz.ntmps121
  go_wp2
  go_ret
  exact ⟨by simp, rfl⟩
theorem cmp8 (a b : Int) (w : World) : Calls Tryz.prog 73 #[.int .u8 a, .int .u8 b] w fun e w' => e = .returned (.int .i64 (cmpI a b)) ∧ w = w' := by
  go_enter Tryz.func73, Tryz.ntmps73
  go_wp2_with (go_at_call 119; refine (nan8 _ _).mono ?_; rintro e w' ⟨rfl, rfl⟩)
  all_goals go_ret
  all_goals exact ⟨ret_int (by unfold cmpI; (repeat' split) <;> first | rfl | omega), rfl⟩
theorem cmp64 (a b : Int) (w : World) : Calls Tryz.prog 74 #[.int .i64 a, .int .i64 b] w fun e w' => e = .returned (.int .i64 (cmpI a b)) ∧ w = w' := by
  go_enter Tryz.func74, Tryz.ntmps74
  go_wp2_with (go_at_call 120; refine (nan64 _ _).mono ?_; rintro e w' ⟨rfl, rfl⟩)
  all_goals go_ret
  all_goals exact ⟨ret_int (by unfold cmpI; (repeat' split) <;> first | rfl | omega), rfl⟩
theorem cmpStr (a b : ByteArray) (w : World) : Calls Tryz.prog 75 #[.string a, .string b] w fun e w' => e = .returned (.int .i64 (cmpS a b)) ∧ w = w' := by
  go_enter Tryz.func75, Tryz.ntmps75
  go_wp2_with (go_at_call 121; refine (nanS _ _).mono ?_; rintro e w' ⟨rfl, rfl⟩)
  all_goals go_ret
  all_goals exact ⟨ret_int (by unfold cmpS; simp_all), rfl⟩

theorem orL_skip : ∀ (xs : List Int) (k : Nat), k < xs.length → orL (xs.take k) = 0 → (∀ i, i < k → xs.getD i 0 = 0) → orL xs = orL (xs.drop k)
  | [], k, h, _, _ => by simp at h
  | x :: r, 0, _, _, _ => rfl
  | x :: r, k + 1, h, h1, h2 => by
    have h0 : x = 0 := h2 0 (by omega)
    subst h0
    simp only [orL, if_true, List.drop_succ_cons]
    simp only [List.take_succ_cons, orL, if_true] at h1
    exact orL_skip r k (by simpa using h) h1 fun i hi => h2 (i + 1) (by omega)
theorem orL_zero : ∀ (xs : List Int), (∀ i, i < xs.length → xs.getD i 0 = 0) → orL xs = 0
  | [], _ => rfl
  | x :: r, h => by
    have h0 : x = 0 := h 0 (by simp)
    simp only [orL, h0, if_true]
    exact orL_zero r fun i hi => h (i + 1) (by simpa using hi)
theorem orL_hit : ∀ (xs : List Int) (k : Nat), k < xs.length → (∀ i, i < k → xs.getD i 0 = 0) → xs.getD k 0 ≠ 0 → orL xs = xs.getD k 0
  | [], k, h, _, _ => by simp at h
  | x :: r, 0, _, _, h => by simp at h; simp [orL, h]
  | x :: r, k + 1, h, h1, h2 => by
    have h0 : x = 0 := h1 0 (by omega)
    subst h0
    simp only [orL, if_true]
    have := orL_hit r k (by simpa using h) (fun i hi => h1 (i + 1) (by omega)) (by simpa using h2)
    simpa using this
set_option maxHeartbeats 400000 in
theorem or_any (b off : Nat) (xs : List Int) (n c : Nat) (w : World) (hx : n = xs.length) (hn : n ≤ 1000) (h : ∀ i, i < n → w.cell? ⟨b, off + i, none⟩ = some (.int .i64 (xs.getD i 0))) :
    Calls Tryz.prog 72 #[.slice (some ⟨b, off, none⟩) n c] w fun e w' => e = .returned (.int .i64 (orL xs)) ∧ w = w' := by
  have H := Lib.hid h; clear h
  have HX := Lib.hid hx; clear hx
  go_enter Tryz.func72, Tryz.ntmps72
  go_wp2
  go_loop [5, 8] (fun _ i => ∃ k : Nat, k ≤ n ∧ i = .int .i64 k ∧ Hid (∀ i, i < k → xs.getD i 0 = 0)) (fun _ i => n - (intOf i).toNat)
  case atStart => exact ⟨0, Nat.zero_le _, rfl, fun i hi => absurd hi (Nat.not_lt_zero _)⟩
  case round =>
    obtain ⟨k, hk, rfl, HR⟩ := hrel
    by_cases hlt : k < n
    · have hc := H.out k hlt
      by_cases hz : xs.getD k 0 = 0
      · rw [hz] at hc
        have HZ := Lib.hid hz; clear hz
        go_wp2
        go_round
        case rel => exact ⟨k + 1, by omega, by go_num, fun i hi => by
          by_cases e : i = k
          · subst e; exact HZ.out
          · exact HR.out i (by omega)⟩
        case measure => simp [intOf]; omega
      · have hv := orL_hit xs k (by rw [← HX.out]; exact hlt) HR.out hz
        generalize xs.getD k 0 = x at hc hz hv
        have hz' : (x != 0) = true := by simpa using hz
        have HV := Lib.hid hv
        clear hv hz
        go_wp2
        go_ret
        exact ⟨ret_int HV.out.symm, rfl⟩
    · go_wp2
      go_ret
      exact ⟨ret_int (orL_zero xs fun i hi => HR.out i (by have := HX.out; omega)).symm, rfl⟩

set_option maxHeartbeats 1000000 in
theorem compare_any (x y : Val) (w : World) : Calls Tryz.prog 37 #[x.v, y.v] w fun e w' => e = .returned (.int .i64 (cmpV x y)) ∧ Keep w w' := by
  obtain ⟨k, n, s⟩ := x
  obtain ⟨k', n', s'⟩ := y
  simp only [Val.v, cmpV]
  go_enter Tryz.func37, Tryz.ntmps37
  go_wp2
  first | refine Zone.wp_region_gro 15 (by kernel_rfl) (by kernel_rfl) ?_ | refine Zone.wp_region 15 (by kernel_rfl) (by kernel_rfl) ?_
  simp only [List.take_succ_cons, List.take_zero, List.drop_succ_cons, List.drop_zero]
  repeat
    refine Zone.wpZ_step (fun K hK => ?_)
    go_simp
    first
    | (refine hK _ _ ?_; clear hK K)
    | (apply Exists.intro
       refine ⟨fun p => ?_, hK _ _ ?_⟩
       (first | (go_at_call 73; exact Zone.zs (cmp8 _ _ _)) | (go_at_call 74; exact Zone.zs (cmp64 _ _ _)) | (go_at_call 75; exact Zone.zs (cmpStr _ _ _)))
       clear hK K)
  refine Zone.wpZ_nil ?_
  intro p
  simp only [Zone.fill]
  go_wp2_with (go_at_call 72; refine (or_any _ 0 [cmpI k k', cmpI n n', cmpS s s'] 3 3 _ rfl (by omega) (fun i hi => by match i, hi with | 0, _ => simp [go_sem] | 1, _ => simp [go_sem] | 2, _ => simp [go_sem])).mono ?_; rintro e w' ⟨rfl, rfl⟩)
  go_ret
  exact ⟨rfl, (by repeat (first | exact Keep.refl _ | apply Keep.alloc | apply Keep.gro | apply Keep.drew | apply Keep.drewN))⟩
set_option maxHeartbeats 1000000 in
theorem may_any (x : Val) (w : World) : Calls Tryz.prog 69 #[x.v] w fun e w' => e = .returned (.bool (mayV x)) ∧ Keep w w' := by
  obtain ⟨k, n, s⟩ := x
  simp only [Val.v, mayV]
  go_enter Tryz.func69, Tryz.ntmps69
  go_wp2
  all_goals go_ret
  all_goals exact ⟨ret_bool (by simp [*]), (by repeat (first | exact Keep.refl _ | apply Keep.alloc | apply Keep.gro | apply Keep.drew | apply Keep.drewN))⟩
theorem isKind_any (k : Int) (w : World) : Calls Tryz.prog 80 #[.int .u8 k] w fun e w' => e = .returned (.bool (k == 1 || k == 2)) ∧ w = w' := by
  go_enter Tryz.func80, Tryz.ntmps80
  go_wp2
  all_goals go_ret
  all_goals exact ⟨ret_bool (by simp [*]), rfl⟩
end Go.Proofs.YtcffcblfmlclnaaGreatDoor
