
/- What is wrong with a question: the rows of texts, aggregates, keys; the outputs' kinds. -/
import Derived.WalkKit
import Derived.Lib.Hide
import Derived.WalkSpells
import Derived.WalkLawsBesides
import Derived.BigQuiet
import Derived.Shelf.Abstract
import Derived.Test.YthigflnfccajoaaQtest
import Derived.Test.YthigflnfccajoaaOwn
namespace Go.Proofs.Ythigflnfccajoaa
open Go.RowKit Go.Zone Go.Shelf
attribute [local go_sem] Zone.zone Zone.stepZ Zone.fill Zone.lookFs Zone.goes Zone.goesUpon Zone.dropFs Zone.cell_gro Zone.frozen_gro Zone.size_gro Zone.lt_add Zone.drew_gro Zone.tape_gro Zone.keep_refl
attribute [local go_sem] Zone.lt_add2 Zone.lt_add3 Zone.lt_add4 Zone.lt_add5 Zone.lt_add6 Zone.lt_add7 Zone.lt_add8 Zone.lt_add9 Zone.lt_add10 Zone.lt_add11 Zone.lt_add12
@[reducible] def strK (s : ByteArray) : List Value := [.string s]
theorem sl_str {w : World} {c : Nat} {A : Option Addr} {xs : List ByteArray} (h : Sl w 1 strK A c xs) (i : Nat) (hi : i < xs.length) : ∃ b off, A = some ⟨b, off, none⟩ ∧ b < w.heap.size ∧ w.cell? ⟨b, off + i, none⟩ = some (.string xs[i]) := by
  obtain ⟨b, off, hA, hc⟩ := h.at_ i hi
  have h0 := hc 0 _ rfl
  exact ⟨b, off, hA, World.block_lt_of_cell? w _ h0, by simpa using h0⟩
def isStr (s x : ByteArray) : Bool := s.toList == x.toList
set_option maxHeartbeats 400000 in
theorem indexStr_any (A : Option Addr) (c : Nat) (xs : List ByteArray) (s : ByteArray) (w : World) (h : Sl w 1 strK A c xs) :
    Calls Try.prog 52 #[.slice A xs.length c, .string s] w fun e w' => e = .returned (.int .i64 (idxP (isStr s) xs 0)) ∧ Keep w w' := by
  have hl := sl_len h
  go_enter Try.func52, Try.ntmps52
  go_wp2
  go_loop [5, 8] (fun _ i => ∃ k : Nat, k ≤ xs.length ∧ i = .int .i64 k ∧ Hid (∀ j, (h : j < xs.length) → j < k → isStr s xs[j] = false)) (fun _ i => xs.length - (intOf i).toNat)
  case atStart => exact ⟨0, Nat.zero_le _, rfl, fun j _ hj => absurd hj (Nat.not_lt_zero _)⟩
  case round =>
    obtain ⟨k, hk, rfl, HR⟩ := hrel
    by_cases hlt : k < xs.length
    · obtain ⟨b, off, rfl, hb, h0⟩ := sl_str h k hlt
      clear h
      cases hq : isStr s xs[k]
      · have hq2 := hq
        unfold isStr at hq2
        have HQ := Lib.hid hq
        clear hq
        go_wp2
        go_round
        case rel => exact ⟨k + 1, by omega, by go_num, fun j hj hjk => by
          by_cases e : j = k
          · subst e; exact HQ.out
          · exact HR.out j hj (by omega)⟩
        case measure => simp [intOf]; omega
      · have hq2 := hq
        unfold isStr at hq2
        have HQ := Lib.hid hq
        clear hq
        go_wp2
        go_ret
        exact ⟨ret_int (by rw [idxP_at (isStr s) xs 0 k HR.out, List.drop_eq_getElem_cons hlt]; simp [idxP, HQ.out]), (by repeat (first | exact Keep.refl _ | apply Keep.alloc | apply Keep.gro | apply Keep.drew | apply Keep.drewN))⟩
    · go_wp2
      go_ret
      exact ⟨ret_int (by rw [idxP_at (isStr s) xs 0 xs.length fun j hj _ => HR.out j hj (by omega)]; simp [idxP]), (by repeat (first | exact Keep.refl _ | apply Keep.alloc | apply Keep.gro | apply Keep.drew | apply Keep.drewN))⟩
theorem contStr_any (A : Option Addr) (c : Nat) (xs : List ByteArray) (s : ByteArray) (w : World) (h : Sl w 1 strK A c xs) :
    Calls Try.prog 21 #[.slice A xs.length c, .string s] w fun e w' => e = .returned (.bool (xs.any (isStr s))) ∧ Keep w w' := by
  have HH := Lib.hid h; clear h
  rw [← idxP_any (isStr s) xs 0]
  go_enter Try.func21, Try.ntmps21
  go_wp2_with (go_at_call 52; refine (indexStr_any A c xs s _ HH.out).mono ?_; rintro e w' ⟨rfl, hk⟩; (first | obtain ⟨p, rfl⟩ := Zone.gro_of_gro _ _ hk | obtain ⟨p, rfl⟩ := Zone.gro_of_below _ hk); clear hk)
  go_ret
  exact ⟨rfl, (by repeat (first | exact Keep.refl _ | apply Keep.alloc | apply Keep.gro | apply Keep.drew | apply Keep.drewN))⟩
section
variable {b c d : Nat} {A B : Option Addr} {cols : List Col} {kinds : List Int} {e : Int}
def bysE (cols : List Col) (e : Int) (l : List ByteArray) : Int := l.foldl (byE cols) e
theorem bysE_succ (cols : List Col) (e : Int) (l : List ByteArray) (i : Nat) (h : i < l.length) : bysE cols e (l.take (i + 1)) = byE cols (bysE cols e (l.take i)) l[i] := by
  unfold bysE
  rw [List.take_succ_eq_append_getElem h, List.foldl_append]
  rfl
theorem eachBy_any (F : Option Addr) (m : Nat) (xs : List ByteArray) (w : World) (h : Wr w b A c cols B d kinds e) (hc : Sl w 2 Col.cells A c cols) (hs : Sl w 1 strK F m xs) (hF : ∀ g off, F = some ⟨g, off, none⟩ → 0 < xs.length → g ≠ b) :
    Calls Try.prog 17 #[.slice F xs.length m, .func (.func 18) #[.pointer (some ⟨b, 0, none⟩)] #[]] w fun r w' => r = .returned (.tuple #[]) ∧ Wr w' b A c cols B d kinds (bysE cols e xs) ∧ w.grownBy w' (some b) := by
  have H := Lib.hid h
  have HC := Lib.hid hc
  have HS := Lib.hid hs
  have HF := Lib.hid hF
  have hl := hs.len
  have eg : ∀ args w, (callFunc 18 args).run Try.prog w = .ok (.enter 18 args) w := enters_of Try.func18 (by kernel_rfl) rfl
  clear h hs hF hc
  go_enter Try.func17, Try.ntmps17
  go_wp2
  go_loopw [5, 8] (fun _ i wr => ∃ n : Nat, n ≤ xs.length ∧ i = .int .i64 n ∧ Hid (Wr wr b A c cols B d kinds (bysE cols e (xs.take n))) ∧ Hid (w.grownBy wr (some b))) (fun _ i _ => xs.length - (intOf i).toNat)
  case atStart => exact ⟨0, Nat.zero_le _, rfl, H.out, World.grownBy.refl _ _⟩
  case round =>
    obtain ⟨n, hn, rfl, HW, HG⟩ := hrel
    by_cases hlt : n < xs.length
    · have hS2 := By.sl HG.out HS.out (fun g off hg hp => by intro h; exact HF.out g off hg hp (Option.some.inj h))
      obtain ⟨g, off, rfl, hb, h0⟩ := sl_str hS2 n hlt
      have HC2 := Lib.hid (HW.out.cols_ HG.out HC.out)
      have HE := Lib.hid (bysE_succ cols e xs n hlt)
      clear hS2
      go_wp2_with (go_at_fn 18; refine Zone.hold ?_)
      refine Zone.unhold ?_
      refine (by_any _ _ HW.out HC2.out).mono ?_
      rintro e' w2 ⟨rfl, HW2, HG3⟩
      go_wp2
      go_roundw
      case rel => exact ⟨n + 1, by omega, by go_num, by rw [HE.out]; exact HW2, By.trans HG.out HG3⟩
      case measure => simp [intOf]; omega
    · have : n = xs.length := by omega
      subst this
      rw [List.take_length] at HW
      go_wp2
      exact bodyPost_end (v := .tuple #[]) (by simp [results, Try.results17, go_sem]) rfl ⟨rfl, HW.out, HG.out⟩
theorem sl_ag {w : World} {c : Nat} {A : Option Addr} {xs : List Ag} (h : Sl w 2 Ag.cells A c xs) (i : Nat) (hi : i < xs.length) : ∃ b off, A = some ⟨b, off, none⟩ ∧ b < w.heap.size ∧ w.cell? ⟨b, off + i * 2, none⟩ = some (.int .u8 xs[i].fn) ∧ w.cell? ⟨b, off + i * 2 + 1, none⟩ = some (.string xs[i].col) := by
  obtain ⟨b, off, hA, hc⟩ := h.at_ i hi
  have h0 := hc 0 _ rfl
  exact ⟨b, off, hA, World.block_lt_of_cell? w _ h0, h0, hc 1 _ rfl⟩
def aggsE (cols : List Col) (e : Int) (l : List Ag) : Int := l.foldl (aggE cols) e
theorem aggsE_succ (cols : List Col) (e : Int) (l : List Ag) (i : Nat) (h : i < l.length) : aggsE cols e (l.take (i + 1)) = aggE cols (aggsE cols e (l.take i)) l[i] := by
  unfold aggsE
  rw [List.take_succ_eq_append_getElem h, List.foldl_append]
  rfl
theorem eachAgg_any (F : Option Addr) (m : Nat) (xs : List Ag) (w : World) (h : Wr w b A c cols B d kinds e) (hc : Sl w 2 Col.cells A c cols) (hs : Sl w 2 Ag.cells F m xs) (hF : ∀ g off, F = some ⟨g, off, none⟩ → 0 < xs.length → g ≠ b) :
    Calls Try.prog 19 #[.slice F xs.length m, .func (.func 20) #[.pointer (some ⟨b, 0, none⟩)] #[]] w fun r w' => r = .returned (.tuple #[]) ∧ Wr w' b A c cols B d kinds (aggsE cols e xs) ∧ w.grownBy w' (some b) := by
  have H := Lib.hid h
  have HC := Lib.hid hc
  have HS := Lib.hid hs
  have HF := Lib.hid hF
  have hl := hs.len
  have eg : ∀ args w, (callFunc 20 args).run Try.prog w = .ok (.enter 20 args) w := enters_of Try.func20 (by kernel_rfl) rfl
  clear h hs hF hc
  go_enter Try.func19, Try.ntmps19
  go_wp2
  go_loopw [5, 8] (fun _ i wr => ∃ n : Nat, n ≤ xs.length ∧ i = .int .i64 n ∧ Hid (Wr wr b A c cols B d kinds (aggsE cols e (xs.take n))) ∧ Hid (w.grownBy wr (some b))) (fun _ i _ => xs.length - (intOf i).toNat)
  case atStart => exact ⟨0, Nat.zero_le _, rfl, H.out, World.grownBy.refl _ _⟩
  case round =>
    obtain ⟨n, hn, rfl, HW, HG⟩ := hrel
    by_cases hlt : n < xs.length
    · have hS2 := By.sl HG.out HS.out (fun g off hg hp => by intro h; exact HF.out g off hg hp (Option.some.inj h))
      obtain ⟨g, off, rfl, hb, h0, h1⟩ := sl_ag hS2 n hlt
      have HC2 := Lib.hid (HW.out.cols_ HG.out HC.out)
      have HE := Lib.hid (aggsE_succ cols e xs n hlt)
      clear hS2
      go_wp2_with (go_at_fn 20; refine Zone.hold ?_)
      refine Zone.unhold ?_
      refine (agg_any xs[n] _ (HW.out.keep (by repeat (first | exact Keep.refl _ | apply Keep.alloc | apply Keep.gro | apply Keep.drew | apply Keep.drewN))) (HC2.out.keep (by repeat (first | exact Keep.refl _ | apply Keep.alloc | apply Keep.gro | apply Keep.drew | apply Keep.drewN)))).mono ?_
      rintro e' w2 ⟨rfl, HW2, HG3⟩
      go_wp2
      go_roundw
      case rel => exact ⟨n + 1, by omega, by go_num, by rw [HE.out]; exact HW2, By.trans HG.out (By.trans (By.keep (Keep.alloc (Keep.refl wr) _)) HG3)⟩
      case measure => simp [intOf]; omega
    · have : n = xs.length := by omega
      subst this
      rw [List.take_length] at HW
      go_wp2
      exact bodyPost_end (v := .tuple #[]) (by simp [results, Try.results19, go_sem]) rfl ⟨rfl, HW.out, HG.out⟩
end
end Go.Proofs.Ythigflnfccajoaa
