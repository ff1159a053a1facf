
/- What is wrong with a question: the gatherer, its methods so, values, out; inner. -/
import Derived.WalkKit
import Derived.Lib.Hide
import Derived.WalkSpells
import Derived.WalkLawsBesides
import Derived.BigQuiet
import Derived.Shelf.Abstract
import Derived.Test.YthigflnfccajoaaQcol
namespace Go.Proofs.Ythigflnfccajoaa
open Go.RowKit Go.Zone Go.Shelf
attribute [local go_sem] Zone.zone Zone.stepZ Zone.fill Zone.lookFs Zone.goes Zone.goesUpon Zone.dropFs Zone.cell_gro Zone.frozen_gro Zone.size_gro Zone.lt_add Zone.drew_gro Zone.tape_gro Zone.keep_refl
attribute [local go_sem] Zone.lt_add2 Zone.lt_add3 Zone.lt_add4 Zone.lt_add5 Zone.lt_add6 Zone.lt_add7 Zone.lt_add8 Zone.lt_add9 Zone.lt_add10 Zone.lt_add11 Zone.lt_add12
/-- The gatherer in block b: its columns, its outputs' kinds, its error. -/
structure Wr (w : World) (b : Nat) (A : Option Addr) (c : Nat) (cols : List Col) (B : Option Addr) (d : Nat) (kinds : List Int) (e : Int) : Prop where
  c0 : w.cell? ⟨b, 0, none⟩ = some (.slice A cols.length c)
  c1 : w.cell? ⟨b, 1, none⟩ = some (.slice B kinds.length d)
  c2 : w.cell? ⟨b, 2, none⟩ = some (.int .i64 e)
  f2 : w.frozen? ⟨b, 2, none⟩ = false
  na : ∀ g off, A = some ⟨g, off, none⟩ → 0 < cols.length → g ≠ b
  nb : ∀ g off, B = some ⟨g, off, none⟩ → 0 < kinds.length → g ≠ b
/-- whole cells of a block -/
def At (w : World) (g : Nat) (vs : List Value) : Prop := ∀ j u, vs[j]? = some u → w.cell? ⟨g, j, none⟩ = some u
section
variable {w w' : World} {b c d : Nat} {A B : Option Addr} {cols : List Col} {kinds : List Int} {e : Int}
theorem Wr.lt (h : Wr w b A c cols B d kinds e) : b < w.heap.size := World.block_lt_of_cell? w _ h.c0
theorem Wr.keep (h : Wr w b A c cols B d kinds e) (hk : Keep w w') : Wr w' b A c cols B d kinds e :=
  ⟨(hk.cell (p := ⟨b, 0, none⟩) h.lt).trans h.c0, (hk.cell (p := ⟨b, 1, none⟩) h.lt).trans h.c1, (hk.cell (p := ⟨b, 2, none⟩) h.lt).trans h.c2, (hk.frozen (p := ⟨b, 2, none⟩) h.lt).trans h.f2, h.na, h.nb⟩
theorem Wr.set (h : Wr w b A c cols B d kinds e) (x : Int) : Wr (w.setCell ⟨b, 2, none⟩ (.int .i64 x)) b A c cols B d kinds x :=
  ⟨by rw [World.cell?_setCell_other _ _ _ _ (by simp)]; exact h.c0, by rw [World.cell?_setCell_other _ _ _ _ (by simp)]; exact h.c1, World.cell?_setCell_same _ _ _ h.c2, by rw [World.frozen?_setCell]; exact h.f2, h.na, h.nb⟩
theorem By.trans {w1 w2 w3 : World} {r : Option Nat} (h : w1.grownBy w2 r) (k : w2.grownBy w3 r) : w1.grownBy w3 r :=
  ⟨k.os.trans h.os, k.tape.trans h.tape, k.output.trans h.output, Nat.le_trans h.size k.size, fun i hi hr => (k.block i (Nat.lt_of_lt_of_le hi h.size) hr).trans (h.block i hi hr)⟩
theorem By.set (W : World) (a : Addr) (v : Value) : W.grownBy (W.setCell a v) (some a.block) :=
  ⟨rfl, rfl, rfl, by simp, fun k _ hk => by simp only [World.setCell, Array.getElem?_modify]; rw [if_neg (fun e => hk (by rw [e]))]⟩
theorem By.keep {w1 w2 : World} {r : Option Nat} (h : Keep w1 w2) : w1.grownBy w2 r := ⟨h.os, h.tape, h.output, h.size, fun i hi _ => h.block i hi⟩
theorem By.sl {α : Type} {w1 w2 : World} {r : Option Nat} {k c : Nat} {enc : α → List Value} {A : Option Addr} {xs : List α} (h : w1.grownBy w2 r) (hs : Sl w1 k enc A c xs) (hne : ∀ g off, A = some ⟨g, off, none⟩ → 0 < xs.length → some g ≠ r) : Sl w2 k enc A c xs :=
  ⟨hs.cap, hs.big, hs.len, fun i hi => by
    obtain ⟨b, off, hA, hc⟩ := hs.at_ i hi
    exact ⟨b, off, hA, fun j u hu => h.cell (hc j u hu) (hne b off hA (by omega))⟩⟩
theorem Wr.cols_ (h : Wr w b A c cols B d kinds e) {w1 w2 : World} (hg : w1.grownBy w2 (some b)) (hs : Sl w1 2 Col.cells A c cols) : Sl w2 2 Col.cells A c cols := By.sl hg hs (fun g off hA hp he => h.na g off hA hp (Option.some.inj he))
theorem At.by_ {w1 w2 : World} {r : Option Nat} {g : Nat} {vs : List Value} (h : w1.grownBy w2 r) (ha : At w1 g vs) (hne : some g ≠ r) : At w2 g vs := fun j u hu => h.cell (ha j u hu) hne
theorem At.keep {w1 w2 : World} {g : Nat} {vs : List Value} (h : Keep w1 w2) (ha : At w1 g vs) : At w2 g vs := fun j u hu => (h.cell (p := ⟨g, j, none⟩) (World.block_lt_of_cell? _ _ (ha j u hu))).trans (ha j u hu)
end
def soE (e : Int) (is : Bool) (x : Int) : Int := if is && (e == 0 || decide (x < e)) then x else e
theorem so_any (is : Bool) (x : Int) (w : World) {b c d : Nat} {A B : Option Addr} {cols : List Col} {kinds : List Int} {e : Int} (h : Wr w b A c cols B d kinds e) :
    Calls Try.prog 16 #[.pointer (some ⟨b, 0, none⟩), .bool is, .int .i64 x] w fun r w' => r = .returned (.tuple #[]) ∧ Wr w' b A c cols B d kinds (soE e is x) ∧ w.grownBy w' (some b) := by
  have H := Lib.hid h
  have h2 := h.c2
  have f2 := h.f2
  have hb := h.lt
  clear h
  cases is
  · have hs : soE e false x = e := rfl
    rw [hs]
    clear hs h2 f2
    go_enter Try.func16, Try.ntmps16
    go_wp2
    exact bodyPost_end (v := .tuple #[]) (by simp [results, Try.results16, go_sem]) rfl ⟨rfl, H.out, World.grownBy.refl _ _⟩
  · by_cases h0 : e = 0
    · have hs : soE e true x = x := by simp [soE, h0]
      rw [hs]
      have hd : (e == 0) = true := by simp [h0]
      clear hs
      go_enter Try.func16, Try.ntmps16
      go_wp2
      exact bodyPost_end (v := .tuple #[]) (by simp [results, Try.results16, go_sem]) rfl ⟨rfl, H.out.set x, By.set _ _ _⟩
    · have hd : (e == 0) = false := by simp [h0]
      by_cases hx : x < e
      · have hs : soE e true x = x := by simp [soE, h0, hx]
        rw [hs]
        clear hs
        go_enter Try.func16, Try.ntmps16
        go_wp2
        exact bodyPost_end (v := .tuple #[]) (by simp [results, Try.results16, go_sem]) rfl ⟨rfl, H.out.set x, By.set _ _ _⟩
      · have hs : soE e true x = e := by simp [soE, h0, hx]
        rw [hs]
        clear hs
        go_enter Try.func16, Try.ntmps16
        go_wp2
        exact bodyPost_end (v := .tuple #[]) (by simp [results, Try.results16, go_sem]) rfl ⟨rfl, H.out, World.grownBy.refl _ _⟩
theorem inner_any (op kids depth : Int) (w : World) : Calls Try.prog 54 #[.int .u8 op, .int .i64 kids, .int .i64 depth] w fun r w' =>
    r = .returned (.bool (if op = 0 then depth == 1 && kids == 0 else if op = 3 then kids == 1 else op == 1 || op == 2)) ∧ Keep w w' := by
  go_enter Try.func54, Try.ntmps54
  go_wp2
  all_goals go_ret
  all_goals exact ⟨by simp_all, (by repeat (first | exact Keep.refl _ | apply Keep.alloc | apply Keep.gro | apply Keep.drew | apply Keep.drewN))⟩

def valE (k : Int) (e : Int) (v : Val) : Int := soE (soE e (!mayV v) 5) (mayV v && k != 0 && v.k != k) 9
def valsE (k : Int) (e : Int) (xs : List Val) : Int := xs.foldl (valE k) e
theorem valsE_succ (k e : Int) (xs : List Val) (i : Nat) (h : i < xs.length) : valsE k e (xs.take (i + 1)) = valE k (valsE k e (xs.take i)) xs[i] := by
  unfold valsE
  rw [List.take_succ_eq_append_getElem h, List.foldl_append]
  rfl
set_option maxHeartbeats 1000000 in
theorem values_any (F : Option Addr) (m : Nat) (xs : List Val) (k : Int) (w : World) {b c d : Nat} {A B : Option Addr} {cols : List Col} {kinds : List Int} {e : Int} (h : Wr w b A c cols B d kinds e)
    (hs : Sl w 3 Val.cells F m xs) (hF : ∀ g off, F = some ⟨g, off, none⟩ → 0 < xs.length → g ≠ b) :
    Calls Try.prog 55 #[.pointer (some ⟨b, 0, none⟩), .slice F xs.length m, .int .u8 k] w fun r w' => r = .returned (.tuple #[]) ∧ Wr w' b A c cols B d kinds (valsE k e xs) ∧ w.grownBy w' (some b) := by
  have H := Lib.hid h
  have HS := Lib.hid hs
  have HF := Lib.hid hF
  have hl := hs.len
  clear h hs hF
  go_enter Try.func55, Try.ntmps55
  go_wp2
  go_loopw [11] (fun i wr => ∃ n : Nat, n ≤ xs.length ∧ i = .int .i64 n ∧ Hid (Wr wr b A c cols B d kinds (valsE k e (xs.take n))) ∧ Hid (w.grownBy wr (some b))) (fun i _ => xs.length - (intOf i).toNat)
  case atStart => exact ⟨0, Nat.zero_le _, rfl, H.out, World.grownBy.refl _ _⟩
  case round =>
    obtain ⟨n, hn, rfl, HW, HG⟩ := hrel
    by_cases hlt : n < xs.length
    · have hS2 := By.sl HG.out HS.out (fun g off hg hp => by intro h; exact HF.out g off hg hp (Option.some.inj h))
      obtain ⟨g, off, rfl, hb, h0, h1, h2⟩ := sl_val hS2 n hlt
      go_wp2_with (first | (go_at_call 37; refine (may_any xs[n] _).mono ?_; rintro e w' ⟨rfl, hk⟩; (first | obtain ⟨p, rfl⟩ := Zone.gro_of_gro _ _ hk | obtain ⟨p, rfl⟩ := Zone.gro_of_below _ hk); clear hk) | (go_at_call 16; refine Zone.hold ?_))
      refine Zone.unhold ?_
      refine (so_any _ 5 _ (HW.out.keep (by repeat (first | exact Keep.refl _ | apply Keep.alloc | apply Keep.gro | apply Keep.drew | apply Keep.drewN)))).mono ?_
      rintro e' w1 ⟨rfl, HW1, HG1⟩
      have hbw := HW.out.lt
      have hbx : w1.cell? ⟨wr.heap.size, 0, none⟩ = some (.int .u8 xs[n].k) := HG1.cell (by simp [go_sem]) (by simp; omega)
      have hgw : wr.heap.size < w1.heap.size := World.block_lt_of_cell? _ _ hbx
      have HG2 := Lib.hid (By.trans HG.out (By.trans (By.keep (show Keep wr ((wr.alloc (.cells #[.int .u8 xs[n].k, .int .i64 xs[n].n, .string xs[n].s] 27)).gro p) from (by repeat (first | exact Keep.refl _ | apply Keep.alloc | apply Keep.gro | apply Keep.drew | apply Keep.drewN)))) HG1))
      have HV := Lib.hid HW1
      have HE := Lib.hid (valsE_succ k e xs n hlt)
      clear HW1 HG1 hS2 h0 h1 h2 hb HS HF H hbw
      have key : ∀ (r : Ending) (w2 : World), True := fun _ _ => trivial
      clear key
      cases hm : mayV xs[n]
      · go_wp2_with (go_at_call 16; refine Zone.hold ?_)
        refine Zone.unhold ?_
        refine (so_any _ 9 _ (HV.out.keep (by repeat (first | exact Keep.refl _ | apply Keep.alloc | apply Keep.gro | apply Keep.drew | apply Keep.drewN)))).mono ?_
        rintro e' w2 ⟨rfl, HW2, HG3⟩
        rw [hm] at HW2
        go_wp2
        go_roundw
        case rel => exact ⟨n + 1, by omega, by go_num, by rw [HE.out]; unfold valE; rw [hm]; exact HW2, By.trans HG2.out HG3⟩
        case measure => simp [intOf]; omega
      · by_cases hk : (k != 0) = true
        · go_wp2_with (go_at_call 16; refine Zone.hold ?_)
          refine Zone.unhold ?_
          refine (so_any _ 9 _ (HV.out.keep (by repeat (first | exact Keep.refl _ | apply Keep.alloc | apply Keep.gro | apply Keep.drew | apply Keep.drewN)))).mono ?_
          rintro e' w2 ⟨rfl, HW2, HG3⟩
          rw [hm] at HW2
          go_wp2
          go_roundw
          case rel => exact ⟨n + 1, by omega, by go_num, by rw [HE.out]; unfold valE; rw [hm, hk]; exact HW2, By.trans HG2.out HG3⟩
          case measure => simp [intOf]; omega
        · have hk' : (k != 0) = false := by simpa using hk
          go_wp2_with (go_at_call 16; refine Zone.hold ?_)
          refine Zone.unhold ?_
          refine (so_any _ 9 _ (HV.out.keep (by repeat (first | exact Keep.refl _ | apply Keep.alloc | apply Keep.gro | apply Keep.drew | apply Keep.drewN)))).mono ?_
          rintro e' w2 ⟨rfl, HW2, HG3⟩
          rw [hm] at HW2
          go_wp2
          go_roundw
          case rel => exact ⟨n + 1, by omega, by go_num, by rw [HE.out]; unfold valE; rw [hm, hk']; exact HW2, By.trans HG2.out HG3⟩
          case measure => simp [intOf]; omega
    · have : n = xs.length := by omega
      subst this
      rw [List.take_length] at HW
      go_wp2
      exact bodyPost_end (v := .tuple #[]) (by simp [results, Try.results55, go_sem]) rfl ⟨rfl, HW.out, HG.out⟩
end Go.Proofs.Ythigflnfccajoaa
