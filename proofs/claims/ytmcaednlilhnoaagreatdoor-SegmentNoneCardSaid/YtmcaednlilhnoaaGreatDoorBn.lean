
/- A dimension's sections, no rows. -/
import Derived.WalkKit
import Derived.Lib.Hide
import Derived.WalkSpells
import Derived.WalkLawsBesides
import Derived.BigQuiet
import Derived.Shelf.Abstract
import Derived.Deep.Cut
import Derived.Deep.CutRange
import Derived.Test.YtmcaednlilhnoaaGreatDoorBm
namespace Go.Zone
theorem Turn.setc {w W : World} {S : List Nat} (h : Turn w W S) {a : Addr} (ha : a.block ∈ S) (u : Value) : Turn w (W.setCell a u) S :=
  h.trans ((Turn.set W a u).mono fun i hi => .inl (by simp only [List.mem_singleton] at hi; subst hi; exact ha))
theorem Turn.drew {w W : World} {S : List Nat} (h : Turn w W S) : Turn w W.drew S := h.trans (Turn.keep (Keep.drew (Keep.refl W)) S)
theorem Turn.drewN {w W : World} {S : List Nat} (h : Turn w W S) (n : Nat) : Turn w (W.drewN n) S := h.trans (Turn.keep (Keep.drewN (Keep.refl W) n) S)
theorem Turn.alloc {w W : World} {S : List Nat} (h : Turn w W S) (o : Obj) : Turn w (W.alloc o) S := h.trans (Turn.keep (Keep.alloc (Keep.refl W) o) S)
theorem Turn.gro {w W : World} {S : List Nat} (h : Turn w W S) (p : _) : Turn w (W.gro p) S := h.trans (Turn.keep (Keep.gro (Keep.refl W) p) S)
theorem Turn.trans2 {w1 w2 w3 : World} {S S' : List Nat} (h : Turn w1 w2 S) (k : Turn w2 w3 S') (hs : ∀ i ∈ S', i ∈ S ∨ w1.heap.size ≤ i) : Turn w1 w3 S :=
  ⟨k.os.trans h.os, k.tape.trans h.tape, k.output.trans h.output, Nat.le_trans h.size k.size, fun i hi hn => (k.block i (Nat.lt_of_lt_of_le hi h.size) (fun hm => by rcases hs i hm with e | e; exact hn e; omega)).trans (h.block i hi hn)⟩
theorem Turn.keep_ {w W W' : World} {S : List Nat} (h : Turn w W S) (hk : Keep W W') : Turn w W' S := h.trans (Turn.keep hk S)
end Go.Zone
namespace Go.Proofs.YtmcaednlilhnoaaGreatDoor
open Go.RowKit Go.Zone Go.Shelf
attribute [local go_sem] Zone.zone Zone.stepZ Zone.fill Zone.lookFs Zone.goes Zone.goesUpon Zone.dropFs Zone.cell_gro Zone.frozen_gro Zone.size_gro Zone.lt_add Zone.drew_gro Zone.tape_gro Zone.keep_refl
attribute [local go_sem] Zone.lt_add2 Zone.lt_add3 Zone.lt_add4 Zone.lt_add5 Zone.lt_add6 Zone.lt_add7 Zone.lt_add8 Zone.lt_add9 Zone.lt_add10 Zone.lt_add11 Zone.lt_add12
theorem derr_nil : dErr 1 [] = 0 := by simp [dErr, badKind, dOwn, sortV, compactV]; try decide
theorem down_nil : dOwn [] = [] := List.eq_nil_of_length_eq_zero (Nat.le_zero.1 (dOwn_len []))
theorem DictAt.turn {w w' : World} {b : Nat} {kind : Int} {A : Option Addr} {c : Nat} {xs : List Val} {S : List Nat} (h : DictAt w b kind A c xs) (ht : Turn w w' S) (hb : b ∉ S) (hA : ∀ b off, A = some ⟨b, off, none⟩ → b ∉ S) : DictAt w' b kind A c xs :=
  ⟨ht.cell h.k hb, ht.cell h.l hb, h.sl.turn ht hA⟩
theorem IdxAt.turn {w w' : World} {b rows many wd c : Nat} {A : Option Addr} {bs : List UInt8} {S : List Nat} (h : IdxAt w b rows many wd A c bs) (ht : Turn w w' S) (hb : b ∉ S) (hA : ∀ b off, A = some ⟨b, off, none⟩ → b ∉ S) : IdxAt w' b rows many wd A c bs :=
  ⟨ht.cell h.r hb, ht.cell h.m hb, ht.cell h.w_ hb, ht.cell h.b_ hb, h.sl.turn ht hA⟩
theorem DictAt.turn0 {w w' : World} {b : Nat} {kind : Int} {A : Option Addr} {c : Nat} {S : List Nat} (h : DictAt w b kind A c []) (ht : Turn w w' S) (hb : b ∉ S) : DictAt w' b kind A c [] :=
  ⟨ht.cell h.k hb, ht.cell h.l hb, Sl.nil_ _ h.sl.big⟩
theorem IdxAt.turn0 {w w' : World} {b rows many wd c : Nat} {A : Option Addr} {S : List Nat} (h : IdxAt w b rows many wd A c []) (ht : Turn w w' S) (hb : b ∉ S) : IdxAt w' b rows many wd A c [] :=
  ⟨ht.cell h.r hb, ht.cell h.m hb, ht.cell h.w_ hb, ht.cell h.b_ hb, Sl.nil_ _ h.sl.big⟩
/-- put, with all sections' bytes -/
theorem put_secs {L s0 v r p f R o I Q M : Value} (b base : Nat) (S : List Sec) (nm : ByteArray) (A : Option Addr) (c : Nat) (bs : List UInt8) (w : World) (hR : Row w b 96 (mkC L s0 v r p f R o I Q M)) (hO : OwnC w base o S) (hb : b < base) (hbase : base ≤ w.heap.size) (hl : S.length ≤ 100000)
    (hS : SecsO w S) (hB : OwnB w 0 (.slice A bs.length c) bs) :
    Calls Tryz.prog 35 #[.pointer (some ⟨b, 0, none⟩), .string nm, .slice A bs.length c] w fun e w' => e = .returned (.tuple #[]) ∧ ∃ o', Row w' b 96 (mkC L s0 v r p f R o' I Q M) ∧ OwnC w' base o' (S ++ [⟨nm, A, c, bs⟩]) ∧ SecsO w' (S ++ [⟨nm, A, c, bs⟩]) ∧ Turn w w' (b :: o.ownBlock.toList) ∧ (o'.ownBlock = o.ownBlock ∨ ∃ g, o'.ownBlock = some g ∧ w.heap.size ≤ g) := by
  refine (put_any b base S nm A c bs w hR hO hb hbase hl).mono ?_
  rintro e w' ⟨rfl, o', h1, h2, h3, h4⟩
  refine ⟨rfl, o', h1, h2, ?_, h3, h4⟩
  have hS2 : SecsO w (S ++ [⟨nm, A, c, bs⟩]) := fun s hs => by
    rw [List.mem_append, List.mem_singleton] at hs
    rcases hs with hs | rfl
    · exact hS s hs
    · exact hB
  refine hS2.turn h3 fun i hi _ => ?_
  rw [List.mem_cons] at hi
  rcases hi with rfl | hi
  · exact Row.noU8 hR (by decide)
  · exact OwnC.noU8 hO i hi
set_option maxRecDepth 100000 in
set_option maxHeartbeats 2000000 in
theorem dim_zero {p f o M : Value} (b base gi gq : Nat) (S : List Sec) (nm : ByteArray) (A X : Option Addr) (n m : Nat) (w : World) (hL : Sl w 2 Col.cells A n [⟨nm, 1⟩])
    (hR : Row w b 96 (mkC (.slice A 1 n) (.int .i64 (-1)) (.slice none 0 0) (.slice none 0 0) p f (.slice X 0 m) o (.slice (some ⟨gi, 0, none⟩) 1 1) (.slice (some ⟨gq, 0, none⟩) 1 1) M))
    (hgi : Row w gi 24 [.slice none 0 0]) (hgq : Row w gq 3 [.int .i64 0]) (hO : OwnC w base o S) (hS : SecsO w S) (hb : b < base) (hbi : gi < base) (hbq : gq < base) (hbase : base ≤ w.heap.size) (hl : S.length ≤ 1000) :
    Calls Tryz.prog 39 #[.pointer (some ⟨b, 0, none⟩), .int .i64 0] w fun e w' => e = .returned (.int .i64 0) ∧ ∃ o' S', Row w' b 96 (mkC (.slice A 1 n) (.int .i64 (-1)) (.slice none 0 0) (.slice none 0 0) p f (.slice X 0 m) o' (.slice (some ⟨gi, 0, none⟩) 1 1) (.slice (some ⟨gq, 0, none⟩) 1 1) M) ∧
      OwnC w' base o' (S ++ S') ∧ SecsO w' (S ++ S') ∧ S'.map nbS = [(⟨#[100, 105, 99, 116, 46, 48]⟩, dBytes 1 []), (⟨#[102, 111, 114, 119, 97, 114, 100, 46, 48]⟩, idxB 0 0 1 [])] ∧ Turn w w' (b :: gi :: gq :: o.ownBlock.toList) := by
  have HR := Lib.hid hR
  have HGI := Lib.hid hgi
  have HGQ := Lib.hid hgq
  have HO := Lib.hid hO
  have HS := Lib.hid hS
  have HL := Lib.hid hL
  have hblt := hR.lt
  have hmI := makeI_zero
  clear hR hgi hgq hO hS hL
  have x6 := HR.out.cell 6 _ rfl
  go_enter Tryz.func39, Tryz.ntmps39
  go_wp2_with (go_at_call 62; refine Zone.hold ?_)
  refine Zone.unhold ?_
  refine (tcol_zero X m 0 _).mono ?_
  rintro e w1 ⟨g1, rfl, _, hk1⟩
  have HK1 := Lib.hid hk1
  obtain ⟨bA, off, hA, hbA, h0, h1⟩ := sl_col (HL.out.keep hk1) 0 (by simp)
  subst hA
  simp only [List.getElem_cons_zero, Nat.zero_mul, Nat.add_zero] at h0 h1
  have hR1 := HR.out.keep hk1
  have x0 := hR1.cell 0 _ rfl
  have hb1 := hR1.lt
  have hkd : ∀ W, Calls Tryz.prog 67 #[.agg #[.string nm, .int .u8 1]] W fun e w' => e = .returned (.int .u8 1) ∧ Keep W w' := fun W => bkind_any ⟨nm, 1⟩ W
  clear hk1 x6 hR1
  go_wp2_with (go_at_call 67; refine Zone.hold ?_)
  refine Zone.unhold ?_
  refine (hkd _).mono ?_
  rintro e w2 ⟨rfl, hk2⟩
  have HK2 := Lib.hid (HK1.out.trans hk2)
  clear hk2 h0 h1 x0
  go_wp2_with (go_at_call 66; refine Zone.hold ?_)
  refine Zone.unhold ?_
  refine (of_new 1 _ 0 [] _ (Sl.nil_ _ (by decide)) (by simp)).mono ?_
  rintro e w3 ⟨v, rfl, hdn, hk3⟩
  rw [derr_nil, down_nil] at hdn
  rcases hdn with ⟨h, _⟩ | ⟨_, bd, Ad, cd, rfl, hda, hbd, hfr⟩
  · exact absurd rfl h
  rw [derr_nil]
  have HK3 := Lib.hid (HK2.out.trans hk3)
  have HDA := Lib.hid hda
  have HBD := Lib.hid (Nat.le_trans HK2.out.size hbd)
  clear hk3 hda hbd hfr hkd
  go_wp2
  refine wp_loop_rounds 1 ?_
  rw [rounds_succ]
  go_upto_region 11 with fail
  have HL3 := Lib.hid (show ∀ W, DictAt W bd 1 Ad cd [] → Calls Tryz.prog 69 #[.pointer (some ⟨bd, 0, none⟩)] W fun e w' => e = .returned (.int .i64 0) ∧ W = w' from fun W hW => len_at W hW)
  generalize hwi : World.alloc w3 _ = w4
  have HK4 := Lib.hid (show Keep w w4 from HK3.out.trans (hwi ▸ Keep.alloc (Keep.refl _) _))
  have HDA4 := Lib.hid (HDA.out.keep (show Keep w3 w4 from hwi ▸ Keep.alloc (Keep.refl _) _))
  have HRI := Lib.hid (HGI.out.keep HK4.out)
  have HRQ := Lib.hid (HGQ.out.keep HK4.out)
  have hR4 := HR.out.keep HK4.out
  have x8 := hR4.cell 8 _ rfl
  have x9 := hR4.cell 9 _ rfl
  have z0 := HRI.out.cell 0 _ rfl
  have z1 := HRQ.out.cell 0 _ rfl
  have hb4 := hR4.lt
  have hi4 := HRI.out.lt
  have hq4 := HRQ.out.lt
  have q0 := HRI.out.soft 0
  have q1 := HRQ.out.soft 0
  have hz3 := HK3.out.size
  have hne := row_ne HRI.out HRQ.out (by decide)
  have hne2 : gq ≠ gi := fun e => hne e.symm
  clear hwi hR4
  go_cut [] from 62 to 76 (fun wx => Hid (Turn w4 wx [gi, gq]) ∧ Hid (Row wx gi 24 [.slice (some ⟨w3.heap.size, 0, none⟩) 0 0]) ∧ Hid (Row wx gq 3 [.int .i64 0]))
  case first =>
    --DEVCUT
    have HNI := Lib.hid (show bd ∉ [gi, gq] from fun e => by have := HBD.out; simp at e; omega)
    go_region_with (go_at_call 69; refine (HL3.out _ (HDA4.out.turn0 (S := [gi, gq]) (by repeat (first | exact Turn.refl _ _ | apply Turn.alloc | apply Turn.gro | apply Turn.drew | apply Turn.drewN | (refine Turn.setc ?_ (by simp) _))) HNI.out)).mono ?_; rintro e w' ⟨rfl, rfl⟩)
    all_goals
      go_wp2_with fail
      go_meet
      exact ⟨(by repeat (first | exact Turn.refl _ _ | apply Turn.alloc | apply Turn.gro | apply Turn.drew | apply Turn.drewN | (refine Turn.setc ?_ (by simp) _))), (HRI.out.set 0 _).other 0 _ hne2, (HRQ.out.other 0 _ hne).set 0 _⟩
    --DEVEND
  case rest =>
    rename World => w5
    obtain ⟨HT5, HGI5, HGQ5⟩ := hcut
    have HTA := Lib.hid ((Turn.keep HK4.out [gi, gq]).trans HT5.out)
    have hbg : b ∉ [gi, gq] := fun e => by
      simp only [List.mem_cons, List.not_mem_nil, or_false] at e
      rcases e with e | e
      · exact row_ne HR.out HGI.out (by decide) e
      · exact row_ne HR.out HGQ.out (by decide) e
    have HR5 := Lib.hid (HTA.out.row HR.out hbg)
    have HO5 := Lib.hid (show OwnC w5 base o S from Own.turn HO.out HTA.out fun i hi e => by
      have := (HO.out.lt _ e).1
      simp at hi
      omega)
    have HS5 := Lib.hid (HS.out.turn HTA.out fun i hi _ => by
      simp only [List.mem_cons, List.not_mem_nil, or_false] at hi
      rcases hi with rfl | rfl
      · exact Row.noU8 HGI.out (by decide)
      · exact Row.noU8 HGQ.out (by decide))
    have HNI := Lib.hid (show bd ∉ [gi, gq] from fun e => by have := HBD.out; simp at e; omega)
    have HDA5 := Lib.hid (HDA4.out.turn0 HT5.out HNI.out)
    have HSZ5 := Lib.hid HTA.out.size
    have HDZ := Lib.hid (show bd < w4.heap.size from block_lt_of_cell HDA4.out.k)
    clear x8 x9 z0 z1 hb4 hi4 hq4 q0 q1 hz3 hne hne2 HT5 HRI HRQ HDA4 HDA HGI HGQ HO HS HK3 HK2 HK1 hbg
    go_wp2_with (first | (go_at_call 64; refine (itoa_zero _).mono ?_; rintro e w' ⟨rfl, hk⟩; (first | obtain ⟨p, rfl⟩ := Zone.gro_of_gro _ _ hk | obtain ⟨p, rfl⟩ := Zone.gro_of_below _ hk); clear hk) | (go_at_call 69; refine (HL3.out _ (HDA5.out.keep (by repeat (first | exact Keep.refl _ | apply Keep.alloc | apply Keep.gro | apply Keep.drew | apply Keep.drewN)))).mono ?_; rintro e w' ⟨rfl, rfl⟩) | (go_at_call 70; refine Zone.hold ?_))
    refine Zone.unhold ?_
    refine (fof_zero _ 0 _).mono ?_
    rintro e w6 ⟨bf, Af, rfl, hix, hbf, hk6⟩
    have HK6 := Lib.hid (show Keep w5 w6 from Keep.trans (Keep.gro (Keep.refl _) _) hk6)
    have HIX := Lib.hid hix
    have HBF := Lib.hid (show w5.heap.size ≤ bf from Nat.le_trans (by simp [size_gro]) hbf)
    have HDB := Lib.hid (fun W (hW : DictAt W bd 1 Ad cd []) => bytes_at 1 W hW (by decide) (by decide) (by simp) (by simp))
    clear hk6 hix hbf
    go_wp2_with (go_at_call 71; refine Zone.hold ?_)
    refine Zone.unhold ?_
    refine (HDB.out _ (HDA5.out.keep HK6.out)).mono ?_
    rintro e w7 ⟨vb, rfl, hob, hk7⟩
    obtain ⟨A7, c7, rfl, _⟩ := hob.sl b8_len (by decide)
    have HK7 := Lib.hid (HK6.out.trans hk7)
    have HB7 := Lib.hid (hob.base_mono (Nat.zero_le _))
    have HI7 := Lib.hid (HIX.out.keep hk7)
    have HBF7 := Lib.hid (show bf < w7.heap.size from block_lt_of_cell HI7.out.r)
    clear hk7 hob HK6 HIX HDB
    go_wp2_with (go_at_call 35; refine Zone.hold ?_)
    refine Zone.unhold ?_
    refine (put_secs b base S _ A7 c7 (dBytes 1 []) _ (HR5.out.keep HK7.out) (HO5.out.keep HK7.out) hb (Nat.le_trans hbase (Nat.le_trans HSZ5.out HK7.out.size)) (by omega) (HS5.out.keep HK7.out) HB7.out).mono ?_
    rintro e w8 ⟨rfl, o1, hR8, hO8, hS8, hT8, hd8⟩
    have hoz : ∀ g, o.ownBlock = some g → g < w5.heap.size := fun g e => (HO5.out.lt g e).2
    have HT8 := Lib.hid hT8
    have HR8 := Lib.hid hR8
    have HO8 := Lib.hid hO8
    have HS8 := Lib.hid hS8
    have HD8 := Lib.hid hd8
    have HIF := Lib.hid (show IdxAt w8 bf 0 0 1 Af 0 [] from HI7.out.turn0 hT8 fun e => by
      have := HBF.out
      have := HSZ5.out
      rw [List.mem_cons, Option.mem_toList] at e
      rcases e with e | e
      · omega
      · have := hoz _ e; omega)
    have HZ8 := Lib.hid (show base ≤ w8.heap.size from Nat.le_trans hbase (Nat.le_trans HSZ5.out (Nat.le_trans HK7.out.size hT8.size)))
    clear hR8 hO8 hS8 hT8 hd8 hoz HI7 HB7 HR5 HO5 HS5
    go_wp2_with (go_at_call 72; refine Zone.hold ?_)
    refine Zone.unhold ?_
    refine (ibytes_any _ HIF.out (by decide) (by decide) (by decide) (by decide) (by decide)).mono ?_
    rintro e w9 ⟨vb, rfl, hob, hk9⟩
    obtain ⟨A9, c9, rfl, _⟩ := hob.sl b8_len (by decide)
    have HK9 := Lib.hid hk9
    have HB9 := Lib.hid (hob.base_mono (Nat.zero_le _))
    clear hk9 hob HIF
    go_wp2_with (go_at_call 35; refine Zone.hold ?_)
    refine Zone.unhold ?_
    refine (put_secs b base _ _ A9 c9 (idxB 0 0 1 []) _ (HR8.out.keep HK9.out) (HO8.out.keep HK9.out) hb (Nat.le_trans HZ8.out HK9.out.size) (by simp; omega) (HS8.out.keep HK9.out) HB9.out).mono ?_
    rintro e w10 ⟨rfl, o2, hR10, hO10, hS10, hT10, hd10⟩
    have x1 := hR10.cell 1 _ rfl
    have x2 := hR10.cell 2 _ rfl
    have x3 := hR10.cell 3 _ rfl
    have hb10 := hR10.lt
    have HR10 := Lib.hid hR10
    have HO10 := Lib.hid hO10
    have HS10 := Lib.hid hS10
    have HT9 : Turn w w9 (b :: gi :: gq :: o.ownBlock.toList) :=
      (HTA.out.mono (fun i hi => .inl (by simp at hi ⊢; omega))).trans ((Turn.keep HK7.out _).trans ((HT8.out.mono (fun i hi => .inl (by rw [List.mem_cons] at hi; rcases hi with h | h <;> simp [h]))).trans (Turn.keep HK9.out _)))
    have HT10 := Lib.hid (HT9.trans2 hT10 fun i hi => by
      rw [List.mem_cons, Option.mem_toList] at hi
      rcases hi with h | h
      · exact .inl (by simp [h])
      · rcases HD8.out with e | ⟨g, e, hg⟩
        · rw [e] at h
          exact .inl (by simp only [List.mem_cons, Option.mem_toList]; exact .inr (.inr (.inr h)))
        · rw [e] at h
          injection h with h
          subst h
          exact .inr (Nat.le_trans HSZ5.out (Nat.le_trans HK7.out.size hg)))
    clear HT9
    clear hR10 hO10 hS10 hT10 hd10 HB9 HR8 HO8 HS8
    go_wp2_with (first | (go_at_call 60; refine (has_any none 0 [] 0 _ (Sl.nil_ _ (by decide))).mono ?_; rintro e w' ⟨rfl, hk⟩; (first | obtain ⟨p, rfl⟩ := Zone.gro_of_gro _ _ hk | obtain ⟨p, rfl⟩ := Zone.gro_of_below _ hk); clear hk))
    go_ret
    refine ⟨rfl, o2, [⟨⟨#[100, 105, 99, 116]⟩ ++ (⟨#[46]⟩ ++ ⟨#[48]⟩), A7, c7, dBytes 1 []⟩, ⟨⟨#[102, 111, 114, 119, 97, 114, 100]⟩ ++ (⟨#[46]⟩ ++ ⟨#[48]⟩), A9, c9, idxB 0 0 1 []⟩], HR10.out.keep (by repeat (first | exact Keep.refl _ | apply Keep.alloc | apply Keep.gro | apply Keep.drew | apply Keep.drewN)), ?_, ?_, ?_, HT10.out.keep_ (by repeat (first | exact Keep.refl _ | apply Keep.alloc | apply Keep.gro | apply Keep.drew | apply Keep.drewN))⟩
    · have := HO10.out.keep (w' := w10.gro p) (by repeat (first | exact Keep.refl _ | apply Keep.alloc | apply Keep.gro | apply Keep.drew | apply Keep.drewN))
      rwa [List.append_assoc] at this
    · have := HS10.out.keep (w' := w10.gro p) (by repeat (first | exact Keep.refl _ | apply Keep.alloc | apply Keep.gro | apply Keep.drew | apply Keep.drewN))
      rwa [List.append_assoc] at this
    · rfl
end Go.Proofs.YtmcaednlilhnoaaGreatDoor
