
/- Contracts of the comparisons of two values, and of what may be a value. -/
import Derived.WalkKit
import Derived.Lib.Hide
import Derived.WalkSpells
import Derived.WalkLawsBesides
import Derived.Test.YtmcaednlilhnoaaGreatDoorProg
import Derived.Test.YtmcaednlilhnoaaGreatDoorJa
import Derived.BigQuiet
import Derived.Shelf.Abstract
import Derived.Lib.Strings
import Derived.Sort.Statements
import Derived.Shelf.SlSortCmp.Insertion
namespace Go.Proofs.YtmcaednlilhnoaaGreatDoor
open Go.RowKit Go.Zone
attribute [local go_sem] Zone.zone Zone.stepZ Zone.fill Zone.lookFs Zone.goes Zone.goesUpon Zone.dropFs Zone.cell_gro Zone.frozen_gro Zone.size_gro Zone.lt_add Zone.drew_gro Zone.tape_gro Zone.keep_refl

theorem ret_int {k : IntKind} {a b : Int} (h : a = b) : Ending.returned (.int k a) = .returned (.int k b) := by rw [h]
theorem ret_bool {a b : Bool} (h : a = b) : Ending.returned (.bool a) = .returned (.bool b) := by rw [h]

/-- A value, as the program has it. -/
structure Val where
  k : Int
  n : Int
  s : ByteArray
def Val.cells (x : Val) : List Value := [.int .u8 x.k, .int .i64 x.n, .string x.s]
@[reducible] def Val.v (x : Val) : Value := .agg #[.int .u8 x.k, .int .i64 x.n, .string x.s]
instance : Inhabited Val := ⟨⟨0, 0, ByteArray.empty⟩⟩

def cmpI (a b : Int) : Int := if a < b then -1 else if b < a then 1 else 0
def cmpS (a b : ByteArray) : Int := if Op.bytesLess a.toList b.toList then -1 else if a.toList == b.toList then 0 else 1
def orL : List Int → Int
  | [] => 0
  | x :: r => if x = 0 then orL r else x
def cmpV (a b : Val) : Int := orL [cmpI a.k b.k, cmpI a.n b.n, cmpS a.s b.s]
def mayV (x : Val) : Bool := if x.k == 1 then x.s.toList.isEmpty else if x.k == 2 then x.n == 0 && decide ((x.s.size : Int) ≤ 65535) else false

theorem nan8 (k : Int) (w : World) : Calls Tryz.prog 173 #[.int .u8 k] w fun e w' => e = .returned (.bool false) ∧ w = w' := by
  go_enter Tryz.func173, Tryz.ntmps173
  go_wp2
  go_ret
  exact ⟨by simp, rfl⟩
theorem nan64 (k : Int) (w : World) : Calls Tryz.prog 174 #[.int .i64 k] w fun e w' => e = .returned (.bool false) ∧ w = w' := by
  go_enter Tryz.func174, Tryz.ntmps174
  go_wp2
  go_ret
  exact ⟨by simp, rfl⟩
theorem nanS (k : ByteArray) (w : World) : Calls Tryz.prog 175 #[.string k] w fun e w' => e = .returned (.bool false) ∧ w = w' := by
  go_enter Tryz.func175, Tryz.ntmps175
  go_wp2
  go_ret
  exact ⟨by simp, rfl⟩
theorem cmp8 (a b : Int) (w : World) : Calls Tryz.prog 111 #[.int .u8 a, .int .u8 b] w fun e w' => e = .returned (.int .i64 (cmpI a b)) ∧ w = w' := by
  go_enter Tryz.func111, Tryz.ntmps111
  go_wp2_with (go_at_call 173; refine (nan8 _ _).mono ?_; rintro e w' ⟨rfl, rfl⟩)
  all_goals go_ret
  all_goals exact ⟨ret_int (by unfold cmpI; (repeat' split) <;> first | rfl | omega), rfl⟩
theorem cmp64 (a b : Int) (w : World) : Calls Tryz.prog 112 #[.int .i64 a, .int .i64 b] w fun e w' => e = .returned (.int .i64 (cmpI a b)) ∧ w = w' := by
  go_enter Tryz.func112, Tryz.ntmps112
  go_wp2_with (go_at_call 174; refine (nan64 _ _).mono ?_; rintro e w' ⟨rfl, rfl⟩)
  all_goals go_ret
  all_goals exact ⟨ret_int (by unfold cmpI; (repeat' split) <;> first | rfl | omega), rfl⟩
theorem cmpStr (a b : ByteArray) (w : World) : Calls Tryz.prog 113 #[.string a, .string b] w fun e w' => e = .returned (.int .i64 (cmpS a b)) ∧ w = w' := by
  go_enter Tryz.func113, Tryz.ntmps113
  go_wp2_with (go_at_call 175; refine (nanS _ _).mono ?_; rintro e w' ⟨rfl, rfl⟩)
  all_goals go_ret
  all_goals exact ⟨ret_int (by unfold cmpS; simp_all), rfl⟩

theorem orL_skip : ∀ (xs : List Int) (k : Nat), k < xs.length → orL (xs.take k) = 0 → (∀ i, i < k → xs.getD i 0 = 0) → orL xs = orL (xs.drop k)
  | [], k, h, _, _ => by simp at h
  | x :: r, 0, _, _, _ => rfl
  | x :: r, k + 1, h, h1, h2 => by
    have h0 : x = 0 := h2 0 (by omega)
    subst h0
    simp only [orL, if_true, List.drop_succ_cons]
    simp only [List.take_succ_cons, orL, if_true] at h1
    exact orL_skip r k (by simpa using h) h1 fun i hi => h2 (i + 1) (by omega)
theorem orL_zero : ∀ (xs : List Int), (∀ i, i < xs.length → xs.getD i 0 = 0) → orL xs = 0
  | [], _ => rfl
  | x :: r, h => by
    have h0 : x = 0 := h 0 (by simp)
    simp only [orL, h0, if_true]
    exact orL_zero r fun i hi => h (i + 1) (by simpa using hi)
theorem orL_hit : ∀ (xs : List Int) (k : Nat), k < xs.length → (∀ i, i < k → xs.getD i 0 = 0) → xs.getD k 0 ≠ 0 → orL xs = xs.getD k 0
  | [], k, h, _, _ => by simp at h
  | x :: r, 0, _, _, h => by simp at h; simp [orL, h]
  | x :: r, k + 1, h, h1, h2 => by
    have h0 : x = 0 := h1 0 (by omega)
    subst h0
    simp only [orL, if_true]
    have := orL_hit r k (by simpa using h) (fun i hi => h1 (i + 1) (by omega)) (by simpa using h2)
    simpa using this
set_option maxHeartbeats 400000 in
theorem or_any (b off : Nat) (xs : List Int) (n c : Nat) (w : World) (hx : n = xs.length) (hn : n ≤ 1000) (h : ∀ i, i < n → w.cell? ⟨b, off + i, none⟩ = some (.int .i64 (xs.getD i 0))) :
    Calls Tryz.prog 110 #[.slice (some ⟨b, off, none⟩) n c] w fun e w' => e = .returned (.int .i64 (orL xs)) ∧ w = w' := by
  have H := Lib.hid h; clear h
  have HX := Lib.hid hx; clear hx
  go_enter Tryz.func110, Tryz.ntmps110
  go_wp2
  go_loop [5, 8] (fun _ i => ∃ k : Nat, k ≤ n ∧ i = .int .i64 k ∧ Hid (∀ i, i < k → xs.getD i 0 = 0)) (fun _ i => n - (intOf i).toNat)
  case atStart => exact ⟨0, Nat.zero_le _, rfl, fun i hi => absurd hi (Nat.not_lt_zero _)⟩
  case round =>
    obtain ⟨k, hk, rfl, HR⟩ := hrel
    by_cases hlt : k < n
    · have hc := H.out k hlt
      by_cases hz : xs.getD k 0 = 0
      · rw [hz] at hc
        have HZ := Lib.hid hz; clear hz
        go_wp2
        go_round
        case rel => exact ⟨k + 1, by omega, by go_num, fun i hi => by
          by_cases e : i = k
          · subst e; exact HZ.out
          · exact HR.out i (by omega)⟩
        case measure => simp [intOf]; omega
      · have hv := orL_hit xs k (by rw [← HX.out]; exact hlt) HR.out hz
        generalize xs.getD k 0 = x at hc hz hv
        have hz' : (x != 0) = true := by simpa using hz
        have HV := Lib.hid hv
        clear hv hz
        go_wp2
        go_ret
        exact ⟨ret_int HV.out.symm, rfl⟩
    · go_wp2
      go_ret
      exact ⟨ret_int (orL_zero xs fun i hi => HR.out i (by have := HX.out; omega)).symm, rfl⟩

set_option maxHeartbeats 1000000 in
theorem compare_any (x y : Val) (w : World) : Calls Tryz.prog 58 #[x.v, y.v] w fun e w' => e = .returned (.int .i64 (cmpV x y)) ∧ Keep w w' := by
  obtain ⟨k, n, s⟩ := x
  obtain ⟨k', n', s'⟩ := y
  simp only [Val.v, cmpV]
  go_enter Tryz.func58, Tryz.ntmps58
  go_wp2
  first | refine Zone.wp_region_gro 15 (by kernel_rfl) (by kernel_rfl) ?_ | refine Zone.wp_region 15 (by kernel_rfl) (by kernel_rfl) ?_
  simp only [List.take_succ_cons, List.take_zero, List.drop_succ_cons, List.drop_zero]
  repeat
    refine Zone.wpZ_step (fun K hK => ?_)
    go_simp
    first
    | (refine hK _ _ ?_; clear hK K)
    | (apply Exists.intro
       refine ⟨fun p => ?_, hK _ _ ?_⟩
       (first | (go_at_call 111; exact Zone.zs (cmp8 _ _ _)) | (go_at_call 112; exact Zone.zs (cmp64 _ _ _)) | (go_at_call 113; exact Zone.zs (cmpStr _ _ _)))
       clear hK K)
  refine Zone.wpZ_nil ?_
  intro p
  simp only [Zone.fill]
  go_wp2_with (go_at_call 110; refine (or_any _ 0 [cmpI k k', cmpI n n', cmpS s s'] 3 3 _ rfl (by omega) (fun i hi => by match i, hi with | 0, _ => simp [go_sem] | 1, _ => simp [go_sem] | 2, _ => simp [go_sem])).mono ?_; rintro e w' ⟨rfl, rfl⟩)
  go_ret
  exact ⟨rfl, (by repeat (first | exact Keep.refl _ | apply Keep.alloc | apply Keep.gro | apply Keep.drew | apply Keep.drewN))⟩
set_option maxHeartbeats 1000000 in
theorem may_any (x : Val) (w : World) : Calls Tryz.prog 107 #[x.v] w fun e w' => e = .returned (.bool (mayV x)) ∧ Keep w w' := by
  obtain ⟨k, n, s⟩ := x
  simp only [Val.v, mayV]
  go_enter Tryz.func107, Tryz.ntmps107
  go_wp2
  all_goals go_ret
  all_goals exact ⟨ret_bool (by simp [*]), (by repeat (first | exact Keep.refl _ | apply Keep.alloc | apply Keep.gro | apply Keep.drew | apply Keep.drewN))⟩
theorem isKind_any (k : Int) (w : World) : Calls Tryz.prog 117 #[.int .u8 k] w fun e w' => e = .returned (.bool (k == 1 || k == 2)) ∧ w = w' := by
  go_enter Tryz.func117, Tryz.ntmps117
  go_wp2
  all_goals go_ret
  all_goals exact ⟨ret_bool (by simp [*]), rfl⟩
end Go.Proofs.YtmcaednlilhnoaaGreatDoor
namespace Go.Proofs.YtmcaednlilhnoaaGreatDoor
open Go.RowKit Go.Zone Go.Shelf
attribute [local go_sem] Zone.zone Zone.stepZ Zone.fill Zone.lookFs Zone.goes Zone.goesUpon Zone.dropFs Zone.cell_gro Zone.frozen_gro Zone.size_gro Zone.lt_add Zone.drew_gro Zone.tape_gro Zone.keep_refl
/-- What is asked of a predicate. -/
def PredOk {α : Type} (P : Program) (g : Nat) (lb : Array Value) (enc : α → Value) (p : α → Bool) (w : World) : Prop :=
  ∀ (W : World) (x : α), Keep w W → Calls P g (#[enc x] ++ lb) W fun e w' => e = .returned (.bool (p x)) ∧ Keep W w'
theorem sl_len {α : Type} {w : World} {k c : Nat} {enc : α → List Value} {A : Option Addr} {xs : List α} (h : Sl w k enc A c xs) : xs.length ≤ 140737488355328 := h.len
theorem sl_val {w : World} {c : Nat} {A : Option Addr} {xs : List Val} (h : Sl w 3 Val.cells A c xs) (i : Nat) (hi : i < xs.length) : ∃ b off, A = some ⟨b, off, none⟩ ∧ b < w.heap.size ∧ w.cell? ⟨b, off + i * 3, none⟩ = some (.int .u8 xs[i].k) ∧
    w.cell? ⟨b, off + i * 3 + 1, none⟩ = some (.int .i64 xs[i].n) ∧ w.cell? ⟨b, off + i * 3 + 2, none⟩ = some (.string xs[i].s) := by
  obtain ⟨b, off, hA, hc⟩ := h.at_ i hi
  have h0 := hc 0 _ rfl
  exact ⟨b, off, hA, World.block_lt_of_cell? w _ h0, h0, hc 1 _ rfl, hc 2 _ rfl⟩

def sumS (xs : List Val) : Int := xs.foldl (fun a x => wrap64 (a + x.s.size)) 0
theorem sumS_succ (xs : List Val) (k : Nat) (h : k < xs.length) : sumS (xs.take (k + 1)) = wrap64 (sumS (xs.take k) + xs[k].s.size) := by
  unfold sumS
  rw [List.take_succ_eq_append_getElem h, List.foldl_append]
  rfl
def greatV (xs : List Val) (m : Int) : Bool := decide (m < xs.length) || decide (200000 < sumS xs)
def idxP {α : Type} (p : α → Bool) : List α → Nat → Int
  | [], _ => -1
  | x :: r, i => if p x then (i : Int) else idxP p r (i + 1)
theorem idxP_at {α : Type} (p : α → Bool) : ∀ (xs : List α) (i k : Nat), (∀ j, (h : j < xs.length) → j < k → p xs[j] = false) → idxP p xs i = idxP p (xs.drop k) (i + k)
  | _, _, 0, _ => rfl
  | [], i, k + 1, _ => rfl
  | x :: r, i, k + 1, h => by
    have h0 := h 0 (by simp) (by omega)
    simp only [List.getElem_cons_zero] at h0
    simp only [idxP, h0, Bool.false_eq_true, if_false, List.drop_succ_cons]
    rw [idxP_at p r (i + 1) k (fun j hj hk => h (j + 1) (by simpa using hj) (by omega))]
    congr 1; omega
theorem idxP_any {α : Type} (p : α → Bool) : ∀ (xs : List α) (i : Nat), decide (0 ≤ idxP p xs i) = xs.any p
  | [], i => by simp [idxP]
  | x :: r, i => by
    unfold idxP
    by_cases h : p x = true
    · simp [h]
    · simp only [h, Bool.false_eq_true, if_false, List.any_cons, Bool.false_or]; exact idxP_any p r (i + 1)

set_option maxHeartbeats 400000 in
theorem indexFunc_any (A : Option Addr) (c : Nat) (xs : List Val) (g : Nat) (lb : Array Value) (p : Val → Bool) (w : World) (eg : ∀ args w, (callFunc g args).run Tryz.prog w = .ok (.enter g args) w)
    (h : Sl w 3 Val.cells A c xs) (hp : PredOk Tryz.prog g lb Val.v p w) :
    Calls Tryz.prog 177 #[.slice A xs.length c, .func (.func g) #[] lb] w fun e w' => e = .returned (.int .i64 (idxP p xs 0)) ∧ Keep w w' := by
  have hl := sl_len h
  have HP := Lib.hid hp; clear hp
  go_enter Tryz.func177, Tryz.ntmps177
  go_wp2
  go_loopw [5, 8] (fun _ i wr => ∃ k : Nat, k ≤ xs.length ∧ i = .int .i64 k ∧ Hid (Keep w wr) ∧ Hid (∀ j, (h : j < xs.length) → j < k → p xs[j] = false)) (fun _ i _ => xs.length - (intOf i).toNat)
  case atStart => exact ⟨0, Nat.zero_le _, rfl, Keep.refl _, fun j _ hj => absurd hj (Nat.not_lt_zero _)⟩
  case round =>
    obtain ⟨k, hk, rfl, HK, HR⟩ := hrel
    by_cases hlt : k < xs.length
    · have hcall := HP.out wr xs[k] HK.out
      obtain ⟨b, off, rfl, hb, h0, h1, h2⟩ := sl_val (h.keep HK.out) k hlt
      clear h
      by_cases hq : p xs[k] = true
      · rw [hq] at hcall
        have HC := Lib.hid hcall
        have HQ := Lib.hid hq
        clear hcall hq
        go_wp2_with (go_at_fn g; refine HC.out.mono ?_; rintro e w' ⟨rfl, hk'⟩)
        go_ret
        exact ⟨ret_int (by rw [idxP_at p xs 0 k HR.out, List.drop_eq_getElem_cons hlt]; simp [idxP, HQ.out]), HK.out.trans hk'⟩
      · have hq' : p xs[k] = false := by simpa using hq
        rw [hq'] at hcall
        have HC := Lib.hid hcall
        have HQ := Lib.hid hq'
        clear hcall hq hq'
        go_wp2_with (go_at_fn g; refine HC.out.mono ?_; rintro e w' ⟨rfl, hk'⟩)
        go_roundw
        case rel => exact ⟨k + 1, by omega, by go_num, HK.out.trans hk', fun j hj hjk => by
          by_cases e : j = k
          · subst e; exact HQ.out
          · exact HR.out j hj (by omega)⟩
        case measure => simp [intOf]; omega
    · go_wp2
      go_ret
      exact ⟨ret_int (by rw [idxP_at p xs 0 xs.length fun j hj _ => HR.out j hj (by omega)]; simp [idxP]), HK.out⟩

theorem containsFunc_any (A : Option Addr) (c : Nat) (xs : List Val) (g : Nat) (lb : Array Value) (p : Val → Bool) (w : World) (eg : ∀ args w, (callFunc g args).run Tryz.prog w = .ok (.enter g args) w)
    (h : Sl w 3 Val.cells A c xs) (hp : PredOk Tryz.prog g lb Val.v p w) :
    Calls Tryz.prog 118 #[.slice A xs.length c, .func (.func g) #[] lb] w fun e w' => e = .returned (.bool (xs.any p)) ∧ Keep w w' := by
  have HP := Lib.hid hp; clear hp
  have HH := Lib.hid h; clear h
  rw [← idxP_any p xs 0]
  go_enter Tryz.func118, Tryz.ntmps118
  go_wp2_with (go_at_call 177; refine (indexFunc_any A c xs g lb p _ eg HH.out HP.out).mono ?_; rintro e w' ⟨rfl, hk⟩; (first | obtain ⟨p, rfl⟩ := Zone.gro_of_gro _ _ hk | obtain ⟨p, rfl⟩ := Zone.gro_of_below _ hk); clear hk)
  go_ret
  exact ⟨rfl, (by repeat (first | exact Keep.refl _ | apply Keep.alloc | apply Keep.gro | apply Keep.drew | apply Keep.drewN))⟩

def noMay (x : Val) : Bool := !mayV x
theorem of1_any (x : Val) (w : World) : Calls Tryz.prog 119 #[x.v] w fun e w' => e = .returned (.bool (noMay x)) ∧ Keep w w' := by
  obtain ⟨k, n, s⟩ := x
  unfold noMay
  simp only [Val.v]
  go_enter Tryz.func119, Tryz.ntmps119
  go_wp2_with (go_at_call 107; refine (may_any ⟨k, n, s⟩ _).mono ?_; rintro e w' ⟨rfl, hk⟩; (first | obtain ⟨p, rfl⟩ := Zone.gro_of_gro _ _ hk | obtain ⟨p, rfl⟩ := Zone.gro_of_below _ hk); clear hk)
  go_ret
  exact ⟨rfl, (by repeat (first | exact Keep.refl _ | apply Keep.alloc | apply Keep.gro | apply Keep.drew | apply Keep.drewN))⟩
theorem of2_any (x : Val) (k : Int) (b : Nat) (w : World) (h : w.cell? ⟨b, 0, none⟩ = some (.int .u8 k)) (hb : b < w.heap.size) : Calls Tryz.prog 123 #[x.v, .pointer (some ⟨b, 0, none⟩)] w fun e w' => e = .returned (.bool (x.k != k)) ∧ Keep w w' := by
  obtain ⟨k', n, s⟩ := x
  simp only [Val.v]
  go_enter Tryz.func123, Tryz.ntmps123
  go_wp2
  go_ret
  exact ⟨rfl, (by repeat (first | exact Keep.refl _ | apply Keep.alloc | apply Keep.gro | apply Keep.drew | apply Keep.drewN))⟩
end Go.Proofs.YtmcaednlilhnoaaGreatDoor
namespace Go.Proofs.YtmcaednlilhnoaaGreatDoor
open Go.RowKit Go.Zone Go.Shelf
attribute [local go_sem] Zone.zone Zone.stepZ Zone.fill Zone.lookFs Zone.goes Zone.goesUpon Zone.dropFs Zone.cell_gro Zone.frozen_gro Zone.size_gro Zone.lt_add Zone.drew_gro Zone.tape_gro Zone.keep_refl
def lessV (x y : Val) : Bool := if x.k != y.k then decide (x.k < y.k) else if x.n != y.n then decide (x.n < y.n) else Op.bytesLess x.s.toList y.s.toList
theorem bytesLess_len : ∀ (l m : List UInt8), (∀ j, (h1 : j < l.length) → (h2 : j < m.length) → l[j] = m[j]) → Op.bytesLess l m = decide (l.length < m.length)
  | [], [], _ => by simp [Op.bytesLess]
  | [], y :: m, _ => by simp [Op.bytesLess]
  | x :: l, [], _ => by simp [Op.bytesLess]
  | x :: l, y :: m, h => by
    have h0 := h 0 (by simp) (by simp)
    simp only [List.getElem_cons_zero] at h0
    subst h0
    have ih := bytesLess_len l m fun j h1 h2 => by have := h (j + 1) (by simpa using h1) (by simpa using h2); simpa using this
    simp [Op.bytesLess, ih]
theorem bytesLess_at : ∀ (l m : List UInt8) (k : Nat) (h1 : k < l.length) (h2 : k < m.length), (∀ j, j < k → (h1 : j < l.length) → (h2 : j < m.length) → l[j] = m[j]) → l[k] ≠ m[k] → Op.bytesLess l m = decide (l[k] < m[k])
  | [], _, k, h1, _, _, _ => by simp at h1
  | _ :: _, [], k, _, h2, _, _ => by simp at h2
  | x :: l, y :: m, 0, _, _, _, hne => by
    simp only [List.getElem_cons_zero] at hne ⊢
    simp [Op.bytesLess, hne]
  | x :: l, y :: m, k + 1, h1, h2, h, hne => by
    have h0 := h 0 (by omega) (by simp) (by simp)
    simp only [List.getElem_cons_zero] at h0
    subst h0
    have ih := bytesLess_at l m k (by simpa using h1) (by simpa using h2) (fun j hj h1 h2 => by have := h (j + 1) (by omega) (by simpa using h1) (by simpa using h2); simpa using this) (by simpa using hne)
    simp [Op.bytesLess, ih]

theorem size_toList (s : ByteArray) : s.toList.length = s.size := by rw [Lib.toList_data]; simp
theorem toList_get (s : ByteArray) (i : Nat) (h : i < s.toList.length) : s.toList[i] = s[i]'(by rw [size_toList] at h; exact h) := by
  simp only [Lib.toList_data]; simp; rfl
def rcmpV (x y : Val) : Int := if lessV x y then -1 else if lessV y x then 1 else 0
def so3 (cmp c : Int) : Bool := if cmp == 1 then c == 0 else if cmp == 2 then c != 0 else if cmp == 3 then decide (c < 0) else if cmp == 4 then decide (c ≤ 0) else if cmp == 5 then decide (0 < c) else decide (0 ≤ c)
end Go.Proofs.YtmcaednlilhnoaaGreatDoor
namespace Go.Proofs.YtmcaednlilhnoaaGreatDoor
open Go.RowKit Go.Zone Go.Shelf
attribute [local go_sem] Zone.zone Zone.stepZ Zone.fill Zone.lookFs Zone.goes Zone.goesUpon Zone.dropFs Zone.cell_gro Zone.frozen_gro Zone.size_gro Zone.lt_add Zone.drew_gro Zone.tape_gro Zone.keep_refl
theorem info_val : (Tryz.prog.info? 61).map (fun i => (i.zero, i.size, i.bytes)) = some (some (.agg #[.int .u8 0, .int .i64 0, .string ByteArray.empty]), 3, 32) := by kernel_rfl
theorem elt_val : Elt Tryz.prog 33 61 3 32 := by
  obtain ⟨i, hi, h1, h2, h3⟩ := info_parts info_val
  exact ⟨i, _, Tryz.underlying33, hi, h1, h2, h3, rfl, by decide, by decide⟩
theorem val_len (x : Val) : x.cells.length = 3 := rfl
theorem val_one (x : Val) : ∀ u ∈ x.cells, u.oneCell' = true := by simp [Val.cells, Value.oneCell']
theorem val_at (x : Val) {w : World} {g : Nat} (h0 : w.cell? ⟨g, 0, none⟩ = some (.int .u8 x.k)) (h1 : w.cell? ⟨g, 1, none⟩ = some (.int .i64 x.n)) (h2 : w.cell? ⟨g, 2, none⟩ = some (.string x.s)) : ∀ j u, x.cells[j]? = some u → w.cell? ⟨g, j, none⟩ = some u
  | 0, _, h => by cases h; exact h0
  | 1, _, h => by cases h; exact h1
  | 2, _, h => by cases h; exact h2

def eqC (k n k' n' : Int) (s s' : ByteArray) : Bool := k == k' && n == n' && s.toList == s'.toList
def eqV (x y : Val) : Bool := eqC x.k x.n y.k y.n x.s y.s
theorem held_val : Tryz.prog.stoodInHeld 61 = false := by kernel_rfl
theorem guard_val : Tryz.prog.eqGuardType Tryz.prog.depth 61 = false := by kernel_rfl
theorem run_eq_val (k n k' n' : Int) (s s' : ByteArray) (w : World) : Sem.run Tryz.prog (binOp .eql 61 (.agg #[.int .u8 k, .int .i64 n, .string s]) (.agg #[.int .u8 k', .int .i64 n', .string s'])) w = .ok (.bool (eqC k n k' n' s s')) w := by
  have h1 := held_val
  have h3 := guard_val
  go_simp
  unfold eqC
  by_cases a : k = k' <;> by_cases b : n = n' <;> by_cases c : s.toList = s'.toList <;> simp [a, b, c]
theorem run_ne_val (k n k' n' : Int) (s s' : ByteArray) (w : World) : Sem.run Tryz.prog (binOp .neq 61 (.agg #[.int .u8 k, .int .i64 n, .string s]) (.agg #[.int .u8 k', .int .i64 n', .string s'])) w = .ok (.bool (!eqC k n k' n' s s')) w := by
  have h1 := held_val
  have h3 := guard_val
  go_simp
  unfold eqC
  by_cases a : k = k' <;> by_cases b : n = n' <;> by_cases c : s.toList = s'.toList <;> simp [a, b, c]
theorem run_eqG_val (op : BinOp) (x y : Operand) (xs ys : Array Value) (w : World) : (eqGuard op 61 x y (.agg xs) (.agg ys)).run Tryz.prog w = .ok () w := run_eqGuard_agg w op 61 x y xs ys guard_val
attribute [local go_sem high] run_eq_val run_ne_val run_eqG_val
def stepPut (v : Val) (a : List Val × Bool) (x : Val) : List Val × Bool := if !a.2 && lessV v x then (a.1 ++ [v] ++ [x], true) else (a.1 ++ [x], a.2)
def putS (v : Val) (xs : List Val) : List Val × Bool := xs.foldl (stepPut v) ([], false)
theorem putS_succ (v : Val) (xs : List Val) (k : Nat) (h : k < xs.length) : putS v (xs.take (k + 1)) = stepPut v (putS v (xs.take k)) xs[k] := by
  unfold putS
  rw [List.take_succ_eq_append_getElem h, List.foldl_append]
  rfl
def putV (xs : List Val) (v : Val) : List Val := if xs.any (fun x => eqV x v) then xs else if (putS v xs).2 then (putS v xs).1 else (putS v xs).1 ++ [v]

/-- Where there are things, they lie in blocks from base on. -/
def Fresh (base : Nat) (A : Option Addr) (n : Nat) : Prop := ∀ g off, A = some ⟨g, off, none⟩ → 0 < n → base ≤ g
theorem fresh_own {α : Type} {w : World} {base b0 : Nat} {e : TypeId} {k : Nat} {enc : α → List Value} {A : Option Addr} {n m c : Nat} {xs : List α} (h : Zone.Own w b0 e k enc (.slice A n c) xs) (hb : base ≤ b0) : Fresh base A m := fun g off hA _ => by
  subst hA
  have := (h.lt g rfl).1
  omega
end Go.Proofs.YtmcaednlilhnoaaGreatDoor
namespace Go.Proofs.YtmcaednlilhnoaaGreatDoor
open Go.RowKit Go.Zone Go.Shelf
attribute [local go_sem] Zone.zone Zone.stepZ Zone.fill Zone.lookFs Zone.goes Zone.goesUpon Zone.dropFs Zone.cell_gro Zone.frozen_gro Zone.size_gro Zone.lt_add Zone.drew_gro Zone.tape_gro Zone.keep_refl
attribute [local go_sem high] run_eq_val run_ne_val run_eqG_val

def pl (a : List Val × Bool) : Nat := if a.2 then a.1.length else a.1.length + 1
theorem stepPut_len (v : Val) (a : List Val × Bool) (x : Val) : pl (stepPut v a x) = pl a + 1 := by
  obtain ⟨l, b⟩ := a
  unfold stepPut pl
  cases b <;> cases lessV v x <;> simp
theorem putS_len (v : Val) (xs : List Val) : pl (putS v xs) = xs.length + 1 := by
  unfold putS
  suffices h : ∀ (xs : List Val) (a : List Val × Bool), pl (xs.foldl (stepPut v) a) = pl a + xs.length by
    have := h xs ([], false)
    rw [this]
    simp [pl]; omega
  intro xs
  induction xs with
  | nil => intro a; rfl
  | cons x r ih =>
    intro a
    rw [List.foldl_cons, ih, stepPut_len, List.length_cons]
    omega
theorem putV_len (xs : List Val) (v : Val) : (putV xs v).length ≤ xs.length + 1 := by
  have h := putS_len v xs
  unfold putV
  split
  · omega
  · split
    · rename_i hb; simp [pl, hb] at h; omega
    · rename_i hb; simp [pl, hb] at h; simp; omega
theorem putV_mem (xs : List Val) (v : Val) : ∀ x ∈ putV xs v, x ∈ xs ∨ x = v := by
  have hs : ∀ (ys : List Val) (a : List Val × Bool), ∀ x ∈ (ys.foldl (stepPut v) a).1, x ∈ ys ∨ x = v ∨ x ∈ a.1 := by
    intro ys
    induction ys with
    | nil => intro a x hx; exact .inr (.inr hx)
    | cons y r ih =>
      intro a x hx
      rcases ih _ x hx with h | h | h
      · exact .inl (List.mem_cons_of_mem _ h)
      · exact .inr (.inl h)
      · unfold stepPut at h
        split at h <;> simp at h
        · rcases h with h | h | h
          · exact .inr (.inr h)
          · exact .inr (.inl h)
          · exact .inl (by rw [h]; exact List.mem_cons_self)
        · rcases h with h | h
          · exact .inr (.inr h)
          · exact .inl (by rw [h]; exact List.mem_cons_self)
  intro x hx
  unfold putV at hx
  have h1 := hs xs ([], false)
  split at hx
  · exact .inl hx
  · split at hx
    · rcases h1 x hx with h | h | h
      · exact .inl h
      · exact .inr h
      · cases h
    · rcases List.mem_append.1 hx with hx | hx
      · rcases h1 x hx with h | h | h
        · exact .inl h
        · exact .inr h
        · cases h
      · exact .inr (by simpa using hx)

def putAll (xs : List Val) : List Val := xs.foldl putV []
theorem putAll_succ (xs : List Val) (k : Nat) (h : k < xs.length) : putAll (xs.take (k + 1)) = putV (putAll (xs.take k)) xs[k] := by
  unfold putAll
  rw [List.take_succ_eq_append_getElem h, List.foldl_append]
  rfl
theorem putAll_len : ∀ (xs : List Val), (putAll xs).length ≤ xs.length := by
  suffices h : ∀ (xs a : List Val), (xs.foldl putV a).length ≤ a.length + xs.length by
    intro xs; have := h xs []; simpa [putAll] using this
  intro xs
  induction xs with
  | nil => intro a; simp
  | cons x r ih => intro a; have := ih (putV a x); have := putV_len a x; simp only [List.foldl_cons, List.length_cons]; omega
theorem putAll_mem : ∀ (xs : List Val), ∀ x ∈ putAll xs, x ∈ xs := by
  suffices h : ∀ (xs a : List Val), ∀ x ∈ xs.foldl putV a, x ∈ xs ∨ x ∈ a by
    intro xs x hx; rcases h xs [] x hx with h | h
    · exact h
    · cases h
  intro xs
  induction xs with
  | nil => intro a x hx; exact .inr hx
  | cons y r ih =>
    intro a x hx
    rcases ih (putV a y) x hx with h | h
    · exact .inl (List.mem_cons_of_mem _ h)
    · rcases putV_mem a y x h with h | h
      · exact .inr h
      · exact .inl (by rw [h]; exact List.mem_cons_self)

def rOf (kind : Int) (xs : List Val) : List Val × Int :=
  if kind != 1 && kind != 2 then ([], 2) else if xs.any noMay then ([], 2) else if xs.any (fun x => x.k != kind) then ([], 9) else (putAll xs, 0)
theorem rOf_len (kind : Int) (xs : List Val) : (rOf kind xs).1.length ≤ xs.length := by
  unfold rOf
  (repeat' split) <;> first | exact Nat.zero_le _ | exact putAll_len xs

end Go.Proofs.YtmcaednlilhnoaaGreatDoor
namespace Go.Proofs.YtmcaednlilhnoaaGreatDoor
open Go.RowKit Go.Zone Go.Shelf
attribute [local go_sem] Zone.zone Zone.stepZ Zone.fill Zone.lookFs Zone.goes Zone.goesUpon Zone.dropFs Zone.cell_gro Zone.frozen_gro Zone.size_gro Zone.lt_add Zone.drew_gro Zone.tape_gro Zone.keep_refl
attribute [local go_sem high] run_eq_val run_ne_val run_eqG_val

structure Iv where
  lo : Int
  hi : Int
  first : Int
  behind : Int
def stepIv (cmp : Int) (v : Val) (st : Iv) (i : Nat) (x : Val) : Iv :=
  { lo := if so3 cmp (rcmpV x v) && decide (st.lo < 0) then (i : Int) else st.lo
    hi := if so3 cmp (rcmpV x v) then (i : Int) + 1 else st.hi
    first := if so3 3 (rcmpV x v) then (i : Int) + 1 else st.first
    behind := if so3 4 (rcmpV x v) then (i : Int) + 1 else st.behind }
def ivTo (cmp : Int) (v : Val) (xs : List Val) : Nat → Iv
  | 0 => ⟨-1, 0, 0, 0⟩
  | k + 1 => stepIv cmp v (ivTo cmp v xs k) k (xs.getD k default)
theorem ivTo_bd (cmp : Int) (v : Val) (xs : List Val) : ∀ k, -1 ≤ (ivTo cmp v xs k).lo ∧ (ivTo cmp v xs k).lo ≤ k ∧ 0 ≤ (ivTo cmp v xs k).hi ∧ (ivTo cmp v xs k).hi ≤ k ∧ 0 ≤ (ivTo cmp v xs k).first ∧ (ivTo cmp v xs k).first ≤ k ∧ 0 ≤ (ivTo cmp v xs k).behind ∧ (ivTo cmp v xs k).behind ≤ k
  | 0 => by simp [ivTo]
  | k + 1 => by
    have ih := ivTo_bd cmp v xs k
    simp only [ivTo, stepIv]
    refine ⟨?_, ?_, ?_, ?_, ?_, ?_, ?_, ?_⟩ <;> split <;> omega
def ivEnd (cmp : Int) (st : Iv) : Int × Int := if st.lo < 0 then (if cmp == 3 || cmp == 4 then (0, 0) else if cmp == 5 then (st.behind, st.behind) else (st.first, st.first)) else (st.lo, st.hi)
def badCmp (v : Val) (cmp : Int) : Bool := !mayV v || decide (cmp < 1) || cmp == 2 || decide (6 < cmp)
def rIval (kind : Int) (xs : List Val) (cmp : Int) (v : Val) : Int × Int × Int :=
  if badCmp v cmp then (0, 0, 2) else if v.k != kind then (0, 0, 9) else ((ivEnd cmp (ivTo cmp v xs xs.length)).1, (ivEnd cmp (ivTo cmp v xs xs.length)).2, 0)
theorem ret_iii {a b c a' b' c' : Int} (h : (a, b, c) = (a', b', c')) : Ending.returned (.tuple #[.int .i64 a, .int .i64 b, .int .i64 c]) = .returned (.tuple #[.int .i64 a', .int .i64 b', .int .i64 c']) := by
  simp only [Prod.mk.injEq] at h
  obtain ⟨rfl, rfl, rfl⟩ := h
  rfl

end Go.Proofs.YtmcaednlilhnoaaGreatDoor
namespace Go.Proofs.YtmcaednlilhnoaaGreatDoor
open Go.RowKit Go.Zone Go.Shelf
attribute [local go_sem] Zone.zone Zone.stepZ Zone.fill Zone.lookFs Zone.goes Zone.goesUpon Zone.dropFs Zone.cell_gro Zone.frozen_gro Zone.size_gro Zone.lt_add Zone.drew_gro Zone.tape_gro Zone.keep_refl
def lower (xs : List Val) (v : Val) : Nat := (xs.takeWhile fun x => decide (cmpV x v < 0)).length
theorem lower_eq : ∀ (xs : List Val) (v : Val) (n : Nat), n ≤ xs.length → (∀ j, (h : j < xs.length) → j < n → cmpV xs[j] v < 0) → ((h : n < xs.length) → 0 ≤ cmpV xs[n] v) → lower xs v = n
  | [], _, n, hn, _, _ => by have : n = 0 := by simpa using hn
                             subst this; rfl
  | x :: r, v, 0, _, _, h => by
    have := h (by simp)
    simp only [List.getElem_cons_zero] at this
    simp [lower, this]
  | x :: r, v, n + 1, hn, h1, h2 => by
    have h0 := h1 0 (by simp) (by omega)
    simp only [List.getElem_cons_zero] at h0
    have ih := lower_eq r v n (by simpa using hn) (fun j hj hjn => by have := h1 (j + 1) (by simpa using hj) (by omega); simpa using this) (fun h => by have := h2 (by simpa using h); simpa using this)
    unfold lower at ih ⊢
    simp [h0, ih]
theorem lower_le (xs : List Val) (v : Val) : lower xs v ≤ xs.length := (List.takeWhile_sublist _).length_le
def hits (xs : List Val) (v : Val) : Bool := match xs[lower xs v]? with | some x => cmpV x v == 0 | none => false

set_option maxRecDepth 100000 in
set_option maxHeartbeats 2000000 in
theorem search_any (A : Option Addr) (c : Nat) (xs : List Val) (v : Val) (w : World) (h : Sl w 3 Val.cells A c xs) (hm : ∀ i j, (hi : i < xs.length) → (hj : j < xs.length) → i ≤ j → cmpV xs[j] v < 0 → cmpV xs[i] v < 0) :
    Calls Tryz.prog 124 #[.slice A xs.length c, v.v, .func (.func 58) #[] #[]] w fun e w' => e = .returned (.tuple #[.int .i64 (lower xs v), .bool (hits xs v)]) ∧ Keep w w' := by
  have HM := Lib.hid hm; clear hm
  have hlen := h.len
  have hcall := fun (x : Val) W => compare_any x v W
  have HL := Lib.hid (lower_eq xs v)
  obtain ⟨k0, n0, s0⟩ := v
  have HC := Lib.hid hcall; clear hcall
  go_enter Tryz.func124, Tryz.ntmps124
  go_wp2
  go_loopw [9, 10] (fun vi vj wr => ∃ (i j : Nat), i ≤ j ∧ j ≤ xs.length ∧ vi = .int .i64 i ∧ vj = .int .i64 j ∧ Hid (Keep w wr) ∧ Hid (∀ a, (h : a < xs.length) → a < i → cmpV xs[a] ⟨k0, n0, s0⟩ < 0) ∧ Hid (∀ a, (h : a < xs.length) → j ≤ a → 0 ≤ cmpV xs[a] ⟨k0, n0, s0⟩) ∧
     w.heap.size < wr.heap.size ∧ wr.cell? ⟨w.heap.size, 0, none⟩ = some (.int .u8 k0) ∧ wr.cell? ⟨w.heap.size, 1, none⟩ = some (.int .i64 n0) ∧ wr.cell? ⟨w.heap.size, 2, none⟩ = some (.string s0)) (fun vi vj _ => (intOf vj).toNat - (intOf vi).toNat)
  case atStart => exact ⟨0, xs.length, Nat.zero_le _, Nat.le_refl _, rfl, rfl, (by repeat (first | exact Keep.refl _ | apply Keep.alloc | apply Keep.gro | apply Keep.drew | apply Keep.drewN)), fun a _ ha => absurd ha (Nat.not_lt_zero _), fun a h1 h2 => absurd h1 (by omega), by simp, by simp [go_sem], by simp [go_sem], by simp [go_sem]⟩
  case round =>
    obtain ⟨i, j, hij, hj, rfl, rfl, HK, HA, HB, hz, b0, b1, b2⟩ := hrel
    by_cases hlt : i < j
    · go_wp2
      obtain ⟨m, hme⟩ : ∃ m : Nat, ((i : Int) + (j : Int)) / 2 = m := ⟨(i + j) / 2, by omega⟩
      simp only [hme]
      have hm1 : i ≤ m := by omega
      have hm2 : m < j := by omega
      clear hme
      have hml : m < xs.length := by omega
      obtain ⟨bx, off, rfl, hbx, c0, c1, c2⟩ := sl_val (h.keep HK.out) m hml
      have hcm := fun W => HC.out xs[m] W
      have HMono := Lib.hid (fun a (ha : a < xs.length) (hm : a ≤ m) => HM.out a m ha hml hm)
      have HMono2 := Lib.hid (fun a (ha : a < xs.length) (hm : m ≤ a) => HM.out m a hml ha hm)
      generalize hq : cmpV xs[m] ⟨k0, n0, s0⟩ = q at hcm HMono HMono2
      have HQ := Lib.hid hq; clear hq
      have HCM := Lib.hid hcm; clear hcm
      by_cases hq0 : q < 0
      · first | refine Zone.wp_region_all_gro (by kernel_rfl) (by kernel_rfl) ?_ | refine Zone.wp_region_all (by kernel_rfl) (by kernel_rfl) ?_
        repeat
          refine Zone.wpZ_step (fun K hK => ?_)
          go_simp
          first
          | (refine hK _ _ ?_; clear hK K)
          | (apply Exists.intro
             refine ⟨fun p => ?_, hK _ _ ?_⟩
             ((go_at_call 58; exact Zone.zc (HCM.out _)))
             clear hK K)
        refine Zone.wpZ_nil ?_
        intro p
        simp only [Zone.fill]
        go_wp2
        go_roundw
        case rel => exact ⟨m + 1, j, by omega, hj, by go_num, rfl, HK.out.gro _, fun a ha hai => HMono.out a ha (by omega) hq0, HB.out, by simp [size_gro]; omega, by simp [cell_gro, hz, b0], by simp [cell_gro, hz, b1], by simp [cell_gro, hz, b2]⟩
        case measure => simp [intOf]; omega
      · first | refine Zone.wp_region_all_gro (by kernel_rfl) (by kernel_rfl) ?_ | refine Zone.wp_region_all (by kernel_rfl) (by kernel_rfl) ?_
        repeat
          refine Zone.wpZ_step (fun K hK => ?_)
          go_simp
          first
          | (refine hK _ _ ?_; clear hK K)
          | (apply Exists.intro
             refine ⟨fun p => ?_, hK _ _ ?_⟩
             ((go_at_call 58; exact Zone.zc (HCM.out _)))
             clear hK K)
        refine Zone.wpZ_nil ?_
        intro p
        simp only [Zone.fill]
        go_wp2
        go_roundw
        case rel => exact ⟨i, m, hm1, by omega, rfl, rfl, HK.out.gro _, HA.out, fun a ha hai => by
          have := HMono2.out a ha hai
          rcases Int.lt_or_le (cmpV xs[a] ⟨k0, n0, s0⟩) 0 with h0 | h0
          · exact absurd (this h0) hq0
          · exact h0, by simp [size_gro]; omega, by simp [cell_gro, hz, b0], by simp [cell_gro, hz, b1], by simp [cell_gro, hz, b2]⟩
        case measure => simp [intOf]; omega
    · have hlow := HL.out i (by omega) HA.out (fun hi => HB.out i hi (by omega))
      have HH : Hid (hits xs ⟨k0, n0, s0⟩ = match xs[i]? with | some x => cmpV x ⟨k0, n0, s0⟩ == 0 | none => false) := by
        show _ = _
        unfold hits
        rw [hlow]
      have HLW := Lib.hid hlow; clear hlow
      clear HL HM
      by_cases hil : i < xs.length
      · obtain ⟨bx, off, rfl, hbx, c0, c1, c2⟩ := sl_val (h.keep HK.out) i hil
        have hcm := fun W => HC.out xs[i] W
        have HH2 : Hid (hits xs ⟨k0, n0, s0⟩ = (cmpV xs[i] ⟨k0, n0, s0⟩ == 0)) := by
          show _ = _
          rw [HH.out, List.getElem?_eq_getElem hil]
        clear HH
        generalize cmpV xs[i] ⟨k0, n0, s0⟩ = q at hcm HH2
        have HCM := Lib.hid hcm; clear hcm
        go_wp2
        first | refine Zone.wp_region_all_gro (by kernel_rfl) (by kernel_rfl) ?_ | refine Zone.wp_region_all (by kernel_rfl) (by kernel_rfl) ?_
        repeat
          refine Zone.wpZ_step (fun K hK => ?_)
          go_simp
          first
          | (refine hK _ _ ?_; clear hK K)
          | (apply Exists.intro
             refine ⟨fun p => ?_, hK _ _ ?_⟩
             ((go_at_call 58; exact Zone.zc (HCM.out _)))
             clear hK K)
        refine Zone.wpZ_nil ?_
        intro p
        simp only [Zone.fill]
        go_wp2
        go_ret2
        exact ⟨by rw [HLW.out, HH2.out]; rfl, HK.out.gro _⟩
      · have HH2 : Hid (hits xs ⟨k0, n0, s0⟩ = false) := by
          show _ = _
          rw [HH.out, List.getElem?_eq_none (by omega)]
        go_wp2
        first | refine Zone.wp_region_all_gro (by kernel_rfl) (by kernel_rfl) ?_ | refine Zone.wp_region_all (by kernel_rfl) (by kernel_rfl) ?_
        repeat
          refine Zone.wpZ_step (fun K hK => ?_)
          go_simp
          first
          | (refine hK _ _ ?_; clear hK K)
          | (apply Exists.intro
             refine ⟨fun p => ?_, hK _ _ ?_⟩
             ((go_at_call 58; exact Zone.zc (HC.out _ _)))
             clear hK K)
        refine Zone.wpZ_nil ?_
        intro p
        simp only [Zone.fill]
        go_wp2
        go_ret2
        exact ⟨by rw [HLW.out, HH2.out]; rfl, HK.out.gro _⟩
end Go.Proofs.YtmcaednlilhnoaaGreatDoor
namespace Go.Proofs.YtmcaednlilhnoaaGreatDoor
open Go.RowKit Go.Zone Go.Shelf Go.Sort

theorem bl_irrefl : ∀ l, Op.bytesLess l l = false
  | [] => rfl
  | a :: l => by simp [Op.bytesLess, bl_irrefl l]
theorem bl_trans : ∀ l m n, Op.bytesLess l m = true → Op.bytesLess m n = true → Op.bytesLess l n = true
  | [], [], _, h, _ => by cases h
  | [], _ :: _, [], _, h => by cases h
  | [], _ :: _, _ :: _, _, _ => rfl
  | _ :: _, [], _, h, _ => by cases h
  | _ :: _, _ :: _, [], _, h => by cases h
  | a :: l, b :: m, c :: n, h1, h2 => by
    simp only [Op.bytesLess, Bool.or_eq_true, Bool.and_eq_true, decide_eq_true_eq, beq_iff_eq] at h1 h2 ⊢
    rcases h1 with h1 | ⟨rfl, h1⟩
    · rcases h2 with h2 | ⟨rfl, h2⟩
      · exact .inl (UInt8.lt_trans h1 h2)
      · exact .inl h1
    · rcases h2 with h2 | ⟨rfl, h2⟩
      · exact .inl h2
      · exact .inr ⟨rfl, bl_trans l m n h1 h2⟩
theorem bl_total : ∀ l m, Op.bytesLess l m = false → Op.bytesLess m l = false → l = m
  | [], [], _, _ => rfl
  | [], _ :: _, h, _ => by cases h
  | _ :: _, [], _, h => by cases h
  | a :: l, b :: m, h1, h2 => by
    simp only [Op.bytesLess, Bool.or_eq_false_iff, Bool.and_eq_false_iff, decide_eq_false_iff_not, beq_eq_false_iff_ne, ne_eq, UInt8.not_lt] at h1 h2
    have : a = b := UInt8.le_antisymm h2.1 h1.1
    subst this
    rw [bl_total l m (by rcases h1.2 with h | h; · exact absurd rfl h
                         · exact h) (by rcases h2.2 with h | h; · exact absurd rfl h
                                        · exact h)]

theorem ba_ext {a b : ByteArray} (h : a.toList = b.toList) : a = b := by
  rw [Lib.toList_data, Lib.toList_data] at h
  cases a; cases b
  congr 1
  exact Array.ext' (by simpa using h)
theorem cmpS_lt (a b : ByteArray) : cmpS a b < 0 ↔ Op.bytesLess a.toList b.toList = true := by
  unfold cmpS
  cases Op.bytesLess a.toList b.toList <;> cases (a.toList == b.toList) <;> simp
theorem cmpS_eq (a b : ByteArray) : cmpS a b = 0 ↔ a = b := by
  unfold cmpS
  constructor
  · intro h
    cases h1 : Op.bytesLess a.toList b.toList <;> cases h2 : (a.toList == b.toList) <;> simp [h1, h2] at h
    exact ba_ext (by simpa using h2)
  · rintro rfl
    simp [bl_irrefl]
theorem cmpI_lt (a b : Int) : cmpI a b < 0 ↔ a < b := by unfold cmpI; (repeat' split) <;> omega
theorem cmpI_eq (a b : Int) : cmpI a b = 0 ↔ a = b := by unfold cmpI; (repeat' split) <;> omega
/-- Less, said plainly. -/
def LtV (x y : Val) : Prop := x.k < y.k ∨ (x.k = y.k ∧ (x.n < y.n ∨ (x.n = y.n ∧ Op.bytesLess x.s.toList y.s.toList = true)))
theorem cmpV_lt (x y : Val) : cmpV x y < 0 ↔ LtV x y := by
  unfold cmpV LtV
  simp only [orL]
  have a := cmpI_lt x.k y.k; have a' := cmpI_eq x.k y.k
  have b := cmpI_lt x.n y.n; have b' := cmpI_eq x.n y.n
  have c := cmpS_lt x.s y.s
  by_cases h1 : cmpI x.k y.k = 0
  · have e1 := a'.1 h1
    rw [if_pos h1]
    by_cases h2 : cmpI x.n y.n = 0
    · have e2 := b'.1 h2
      rw [if_pos h2]
      by_cases h3 : cmpS x.s y.s = 0
      · rw [if_pos h3, e1, e2]
        have : ¬ (Op.bytesLess x.s.toList y.s.toList = true) := fun h => by have := c.2 h; omega
        simp [this]
      · rw [if_neg h3, c, e1, e2]
        simp
    · rw [if_neg h2, b, e1]
      have : x.n ≠ y.n := fun h => h2 (b'.2 h)
      simp [this]
  · rw [if_neg h1, a]
    have : x.k ≠ y.k := fun h => h1 (a'.2 h)
    simp [this]
theorem cmpV_eq (x y : Val) : cmpV x y = 0 ↔ x = y := by
  obtain ⟨k, n, s⟩ := x
  obtain ⟨k', n', s'⟩ := y
  unfold cmpV
  simp only [orL, Val.mk.injEq]
  have a' := cmpI_eq k k'
  have b' := cmpI_eq n n'
  have c' := cmpS_eq s s'
  by_cases h1 : cmpI k k' = 0
  · rw [if_pos h1]
    by_cases h2 : cmpI n n' = 0
    · rw [if_pos h2]
      by_cases h3 : cmpS s s' = 0
      · rw [if_pos h3]; simp [a'.1 h1, b'.1 h2, c'.1 h3]
      · rw [if_neg h3]; exact ⟨fun h => absurd h h3, fun h => absurd (c'.2 h.2.2) h3⟩
    · rw [if_neg h2]; exact ⟨fun h => absurd h h2, fun h => absurd (b'.2 h.2.1) h2⟩
  · rw [if_neg h1]; exact ⟨fun h => absurd h h1, fun h => absurd (a'.2 h.1) h1⟩
theorem LtV.irrefl (x : Val) : ¬ LtV x x := by
  unfold LtV
  simp [bl_irrefl]
theorem LtV.trans {x y z : Val} (h : LtV x y) (k : LtV y z) : LtV x z := by
  unfold LtV at *
  rcases h with h | ⟨e, h⟩
  · rcases k with k | ⟨e', k⟩
    · exact .inl (by omega)
    · exact .inl (by omega)
  · rcases k with k | ⟨e', k⟩
    · exact .inl (by omega)
    · refine .inr ⟨by omega, ?_⟩
      rcases h with h | ⟨e2, h⟩
      · rcases k with k | ⟨e3, k⟩
        · exact .inl (by omega)
        · exact .inl (by omega)
      · rcases k with k | ⟨e3, k⟩
        · exact .inl (by omega)
        · exact .inr ⟨by omega, bl_trans _ _ _ h k⟩
theorem LtV.tri (x y : Val) : LtV x y ∨ x = y ∨ LtV y x := by
  obtain ⟨k, n, s⟩ := x
  obtain ⟨k', n', s'⟩ := y
  unfold LtV
  simp only [Val.mk.injEq]
  rcases Int.lt_trichotomy k k' with h | h | h
  · exact .inl (.inl h)
  · rcases Int.lt_trichotomy n n' with h2 | h2 | h2
    · exact .inl (.inr ⟨h, .inl h2⟩)
    · cases h3 : Op.bytesLess s.toList s'.toList
      · cases h4 : Op.bytesLess s'.toList s.toList
        · exact .inr (.inl ⟨h, h2, ba_ext (bl_total _ _ h3 h4)⟩)
        · exact .inr (.inr (.inr ⟨h.symm, .inr ⟨h2.symm, rfl⟩⟩))
      · exact .inl (.inr ⟨h, .inr ⟨h2, rfl⟩⟩)
    · exact .inr (.inr (.inr ⟨h.symm, .inl h2⟩))
  · exact .inr (.inr (.inl h))
theorem cmpV_gt (x y : Val) : 0 < cmpV x y ↔ LtV y x := by
  constructor
  · intro h
    rcases LtV.tri x y with h1 | h1 | h1
    · have := (cmpV_lt x y).2 h1; omega
    · have := (cmpV_eq x y).2 h1; omega
    · exact h1
  · intro h
    rcases Int.lt_trichotomy (cmpV x y) 0 with h1 | h1 | h1
    · exact absurd (((cmpV_lt x y).1 h1).trans h) (LtV.irrefl x)
    · rw [(cmpV_eq x y).1 h1] at h; exact absurd h (LtV.irrefl y)
    · exact h1
theorem swoV : SWO (ltOf cmpV) := by
  refine ⟨fun x => ?_, fun x y z h k => ?_, fun x y z h k => ?_⟩
  · simp only [ltOf, decide_eq_false_iff_not]; rw [cmpV_lt]; exact LtV.irrefl x
  · simp only [ltOf, decide_eq_true_eq] at *; rw [cmpV_lt] at *; exact h.trans k
  · simp only [ltOf, decide_eq_false_iff_not] at *; rw [cmpV_lt] at *
    intro hxz
    rcases LtV.tri x y with h1 | h1 | h1
    · exact h h1
    · subst h1; exact k hxz
    · exact k (h1.trans hxz)
theorem totV (x y : Val) (h : ltOf cmpV x y = false) (k : ltOf cmpV y x = false) : x = y := by
  simp only [ltOf, decide_eq_false_iff_not] at *
  rw [cmpV_lt] at *
  rcases LtV.tri x y with h1 | h1 | h1
  · exact absurd h1 h
  · exact h1
  · exact absurd h1 k
theorem lessV_iff (x y : Val) : lessV x y = true ↔ LtV x y := by
  unfold lessV LtV
  by_cases h1 : x.k = y.k
  · by_cases h2 : x.n = y.n
    · simp [h1, h2]
    · simp [h1, h2]
  · simp [h1]
theorem rcmpV_lt (x y : Val) : rcmpV x y < 0 ↔ LtV x y := by
  unfold rcmpV
  rw [← lessV_iff]
  cases lessV x y <;> cases lessV y x <;> simp
theorem rcmpV_eq (x y : Val) : rcmpV x y = 0 ↔ x = y := by
  unfold rcmpV
  have h1 := lessV_iff x y
  have h2 := lessV_iff y x
  constructor
  · intro h
    cases a : lessV x y <;> cases b : lessV y x <;> simp [a, b] at h
    rcases LtV.tri x y with t | t | t
    · rw [← h1, a] at t; cases t
    · exact t
    · rw [← h2, b] at t; cases t
  · rintro rfl
    have : lessV x x = false := by
      cases a : lessV x x
      · rfl
      · exact absurd (h1.1 a) (LtV.irrefl x)
    simp [this]
theorem eqV_iff (x y : Val) : eqV x y = true ↔ x = y := by
  obtain ⟨k, n, s⟩ := x
  obtain ⟨k', n', s'⟩ := y
  simp only [eqV, eqC, Bool.and_eq_true, beq_iff_eq, Val.mk.injEq]
  constructor
  · rintro ⟨⟨h1, h2⟩, h3⟩; exact ⟨h1, h2, ba_ext h3⟩
  · rintro ⟨h1, h2, h3⟩; exact ⟨⟨h1, h2⟩, by rw [h3]⟩
end Go.Proofs.YtmcaednlilhnoaaGreatDoor
