/- Plain law: bytes that are read as a dictionary are that dictionary's bytes; with bytes more they are read alike. -/
import Derived.Test.YtmcaednlilhnoaaGreatDoorRead
import Derived.Test.YtmcaednlilhnoaaGreatDoorJh
namespace Go.Proofs.YtmcaednlilhnoaaGreatDoor
open Go.RowKit Go.Zone Go.Shelf
theorem le_mod (m : Nat) : ∀ (k n : Nat), le (n + m * 256 ^ k) k = le n k
  | 0, _ => rfl
  | k + 1, n => by
    have h := le_mod (m * 256) k n
    rw [Nat.mul_assoc, show 256 * 256 ^ k = 256 ^ (k + 1) by rw [Nat.pow_succ, Nat.mul_comm]] at h
    simp only [le]
    rw [h]
    congr 2
    have h1 : n + m * 256 ^ (k + 1) = n + m * 256 * 256 ^ k := by rw [Nat.pow_succ]; congr 1; rw [Nat.mul_assoc, Nat.mul_comm 256]
    rw [h1, Nat.add_mul_div_right _ _ (Nat.pow_pos (by decide))]
    apply UInt8.toNat_inj.1
    simp only [UInt8.toNat_ofNat']
    omega
theorem le_unle (l : List UInt8) : ∀ k, k ≤ l.length → le (unle l k) k = l.take k
  | 0, _ => rfl
  | k + 1, h => by
    have h2 := unle_lt l k
    simp only [le, unle]
    rw [le_mod, le_unle l k (by omega), List.take_succ_eq_append_getElem h]
    congr 2
    rw [Nat.add_mul_div_right _ _ (Nat.pow_pos (by decide)), Nat.div_eq_of_lt h2, Nat.zero_add]
    apply UInt8.toNat_inj.1
    have hk : k < l.length := h
    simp [hk]
theorem le_unle' (l : List UInt8) : le (unle l l.length) l.length = l := by rw [le_unle l _ (Nat.le_refl _), List.take_length]
theorem vu_small : ∀ (g x : Nat), x ≤ 127 → vu g x = [UInt8.ofNat x]
  | 0, _, _ => rfl
  | g + 1, x, h => by simp only [vu]; rw [if_neg (by omega)]
theorem drop_take_cons (bs : List UInt8) (a b : Nat) (h : a < bs.length) (hb : a < b) : (bs.drop a).take (b - a) = bs[a] :: (bs.drop (a + 1)).take (b - (a + 1)) := by
  rw [List.drop_eq_getElem_cons h, show b - a = (b - (a + 1)) + 1 by omega, List.take_succ_cons]
theorem drop_take_app (bs : List UInt8) (a b c : Nat) (h1 : a ≤ b) (h2 : b ≤ c) (h3 : c ≤ bs.length) : (bs.drop a).take (c - a) = (bs.drop a).take (b - a) ++ (bs.drop b).take (c - b) := by
  rw [show c - a = (b - a) + (c - b) by omega, List.take_add, List.drop_drop, show a + (b - a) = b by omega]
theorem uGo_spec (bs : List UInt8) : ∀ (f i a n m a' : Nat), uGo bs f i a n = some (m, a') → ∃ v, m = n + v * 128 ^ i ∧ (0 < i → 0 < v) ∧ vu (f - 1) v = (bs.drop a).take (a' - a) ∧ a < a' ∧ a' ≤ bs.length
  | 0, _, _, _, _, _, h => by cases h
  | f + 1, i, a, n, m, a', h => by
    simp only [uGo] at h
    split at h
    · cases h
    · rename_i x hx
      obtain ⟨ha, hxe⟩ := List.getElem?_eq_some_iff.1 hx
      have hx256 : x.toNat < 256 := UInt8.toNat_lt _
      have hox : UInt8.ofNat x.toNat = x := by apply UInt8.toNat_inj.1; simp
      split at h
      · cases h
      · rename_i hc
        split at h
        · rename_i h128
          injection h with h
          injection h with h1 h2
          subst h1; subst h2
          refine ⟨x.toNat, by rw [Nat.mod_eq_of_lt h128], fun hi => by omega, ?_, by omega, by omega⟩
          rw [vu_small _ _ (by omega), hox, drop_take_cons bs a _ ha (by omega), hxe]
          simp
        · rename_i h128
          obtain ⟨v, h1, h2, h3, h4, h5⟩ := uGo_spec bs f (i + 1) (a + 1) _ m a' h
          have hv := h2 (by omega)
          have hf : f ≠ 0 := fun e => by subst e; cases h
          obtain ⟨g, rfl⟩ := Nat.exists_eq_succ_of_ne_zero hf
          refine ⟨x.toNat % 128 + 128 * v, ?_, fun _ => by omega, ?_, by omega, h5⟩
          · rw [h1, Nat.pow_succ, Nat.add_mul, Nat.add_assoc]
            congr 2
            rw [Nat.mul_comm 128 v, Nat.mul_assoc, Nat.mul_comm 128]
          · simp only [Nat.succ_eq_add_one, Nat.add_sub_cancel] at h3 ⊢
            simp only [vu]
            rw [if_pos (by omega), drop_take_cons bs a _ ha (by omega), hxe, ← h3]
            congr 1
            · rw [show (x.toNat % 128 + 128 * v) % 128 + 128 = x.toNat by omega, hox]
            · rw [show (x.toNat % 128 + 128 * v) / 128 = v by omega]
theorem uGo_more (bs e : List UInt8) : ∀ (f i a n : Nat) (r : Nat × Nat), uGo bs f i a n = some r → uGo (bs ++ e) f i a n = some r
  | 0, _, _, _, _, h => by cases h
  | f + 1, i, a, n, r, h => by
    simp only [uGo] at h ⊢
    split at h
    · cases h
    · rename_i x hx
      obtain ⟨ha, _⟩ := List.getElem?_eq_some_iff.1 hx
      rw [List.getElem?_append_left ha, hx]
      simp only
      split at h
      · cases h
      · rename_i hc
        rw [if_neg hc]
        split at h
        · rename_i h1; rw [if_pos h1]; exact h
        · rename_i h1; rw [if_neg h1]; exact uGo_more bs e f _ _ _ r h
theorem someR_ok (bs : List UInt8) (a n : Nat) (h : a + n ≤ bs.length) : someR bs a false n = ((bs.drop a).take n, a + n, false) := by simp [someR, h]
theorem someR_more (bs e : List UInt8) (a n : Nat) (h : a + n ≤ bs.length) : someR (bs ++ e) a false n = someR bs a false n := by
  rw [someR_ok bs a n h, someR_ok _ a n (by simp; omega), List.drop_append_of_le_length (by omega), List.take_append_of_le_length (by simp; omega)]
theorem take_len (bs : List UInt8) (a n : Nat) (h : a + n ≤ bs.length) : ((bs.drop a).take n).length = n := by simp; omega
theorem u64_wrap (n : Nat) (h : n < 18446744073709551616) : u64 (wrap64 n) = n := by unfold u64 wrap64; omega
structure VGood (kd : Int) (bs : List UInt8) (a : Nat) (v : Val) (a' : Nat) : Prop where
  b : vB v = (bs.drop a).take (a' - a)
  lt : a < a'
  le : a' ≤ bs.length
  s : v.s.size ≤ 65535
  more : ∀ e, readV kd (bs ++ e) a = (v, true, a', false)
theorem readV_good (kd : Int) (hk : kd = 1 ∨ kd = 2) (bs : List UInt8) (a : Nat) (v : Val) (a' : Nat) (bad : Bool) (h : readV kd bs a = (v, true, a', bad)) : VGood kd bs a v a' := by
  rcases hk with rfl | rfl
  · simp only [readV, numR, show ((1 : Int) == 2) = false from rfl, Bool.false_eq_true, if_false] at h
    by_cases hs : a + 8 ≤ bs.length
    · rw [someR_ok bs a 8 hs] at h
      simp only [Bool.false_eq_true, if_false] at h
      injection h with h1 h
      injection h with _ h
      injection h with h2 h3
      subst h1; subst h2
      have hl := take_len bs a 8 hs
      have hlt : unle ((bs.drop a).take 8) ((bs.drop a).take 8).length < 256 ^ 8 := by have := unle_lt ((bs.drop a).take 8) ((bs.drop a).take 8).length; rwa [hl] at this ⊢
      refine ⟨?_, by omega, hs, Nat.zero_le _, fun e => ?_⟩
      · simp only [vB, show ((1 : Int) == 1) = true from rfl, if_true]
        rw [u64_wrap _ (by simpa using hlt), Nat.add_sub_cancel_left]
        have := le_unle' ((bs.drop a).take 8)
        rwa [hl] at this ⊢
      · simp only [readV, numR, show ((1 : Int) == 2) = false from rfl, Bool.false_eq_true, if_false]
        rw [someR_more bs e a 8 hs, someR_ok bs a 8 hs]
        simp
    · simp [someR, hs] at h
  · simp only [readV, numR, show ((2 : Int) == 2) = true from rfl, if_true, uintR, Bool.false_eq_true, if_false] at h
    cases hu : uGo bs 10 0 a 0 with
    | none =>
      rw [hu] at h
      simp [someR] at h
    | some r =>
      obtain ⟨n, a1⟩ := r
      rw [hu] at h
      simp only at h
      split at h
      · simp at h
      · rename_i hn
        by_cases hs : a1 + n ≤ bs.length
        · rw [someR_ok bs a1 n hs] at h
          simp only [Bool.false_eq_true, if_false] at h
          injection h with h1 h
          injection h with _ h
          injection h with h2 h3
          subst h1; subst h2
          obtain ⟨v, e1, _, e2, e3, e4⟩ := uGo_spec bs 10 0 a 0 n a1 hu
          simp only [Nat.zero_add, Nat.pow_zero, Nat.mul_one] at e1
          subst e1
          have hl := take_len bs a1 n hs
          have hsz : (⟨((bs.drop a1).take n).toArray⟩ : ByteArray).size = n := by show ((bs.drop a1).take n).toArray.size = n; simp; omega
          refine ⟨?_, by omega, hs, by rw [hsz]; omega, fun e => ?_⟩
          · simp only [vB, show ((2 : Int) == 1) = false from rfl, show ((2 : Int) == 2) = true from rfl, Bool.false_eq_true, if_false, if_true]
            rw [hsz, drop_take_app bs a a1 (a1 + n) (by omega) (by omega) hs, ← e2]
            congr 1
            simp
          · simp only [readV, numR, show ((2 : Int) == 2) = true from rfl, if_true, uintR, Bool.false_eq_true, if_false]
            rw [uGo_more bs e 10 0 a 0 _ hu]
            simp only
            rw [if_neg hn, someR_more bs e a1 n hs, someR_ok bs a1 n hs]
            simp
        · simp [someR, hs] at h
theorem loopD_good (kd : Int) (hk : kd = 1 ∨ kd = 2) (bs : List UInt8) : ∀ (n a : Nat) (xs ys : List Val) (a' : Nat), a ≤ bs.length → loopD kd bs n a xs = some (ys, a') → ∃ zs, ys = xs ++ zs ∧ zs.length = n ∧ zs.flatMap vB = (bs.drop a).take (a' - a) ∧ a + n ≤ a' ∧ a' ≤ bs.length ∧ (∀ z ∈ zs, z.s.size ≤ 65535) ∧ ∀ e, loopD kd (bs ++ e) n a xs = some (ys, a')
  | 0, a, xs, ys, a', ha, h => by
    simp only [loopD, Option.some.injEq, Prod.mk.injEq] at h
    obtain ⟨rfl, rfl⟩ := h
    exact ⟨[], by simp, rfl, by simp, by omega, ha, by simp, fun e => rfl⟩
  | n + 1, a, xs, ys, a', ha, h => by
    obtain ⟨⟨v, ok, a1, bad⟩, hr⟩ : ∃ r, readV kd bs a = r := ⟨_, rfl⟩
    simp only [loopD, hr] at h
    cases ok
    · simp at h
    · simp only [Bool.true_eq_false, if_false] at h
      split at h
      · cases h
      · rename_i hc
        have g := readV_good kd hk bs a v a1 bad hr
        obtain ⟨zs, h1, h2, h3, h4, h5, h6, h7⟩ := loopD_good kd hk bs n a1 _ ys a' g.le h
        refine ⟨v :: zs, by simp [h1], by simp [h2], ?_, by have := g.lt; omega, h5, fun z hz => ?_, fun e => ?_⟩
        · rw [List.flatMap_cons, h3, g.b, ← drop_take_app bs a a1 a' (Nat.le_of_lt g.lt) (by omega) h5]
        · rcases List.mem_cons.1 hz with rfl | hz
          · exact g.s
          · exact h6 z hz
        · simp only [loopD, g.more e, Bool.true_eq_false, if_false]
          rw [if_neg hc]
          exact h7 e
theorem readD_good (bs : List UInt8) (k : Int) (xs : List Val) (a : Nat) (h : readD bs = some (k, xs, a)) : (k = 1 ∨ k = 2) ∧ dBytes k xs = bs.take a ∧ a ≤ bs.length ∧ xs.length ≤ a ∧ (∀ z ∈ xs, z.s.size ≤ 65535) ∧ ∀ e, readD (bs ++ e) = some (k, xs, a) := by
  unfold readD at h
  split at h
  · cases h
  rename_i h5
  split at h
  · cases h
  rename_i hk
  split at h
  · cases h
  rename_i hn
  have s1 := someR_ok bs 0 1 (by omega)
  have s4 := someR_ok bs 1 4 (by omega)
  have m1 := fun e => someR_more bs e 0 1 (by omega)
  have m4 := fun e => someR_more bs e 1 4 (by omega)
  have hkk : hdKind bs = 1 ∨ hdKind bs = 2 := by omega
  obtain ⟨⟨ys, a1⟩, hl, he⟩ := Option.map_eq_some_iff.1 h
  simp only [Prod.mk.injEq] at he
  obtain ⟨rfl, rfl, rfl⟩ := he
  obtain ⟨zs, h1, h2, h3, h4, h6, h7, h8⟩ := loopD_good (hdKind bs) hkk bs _ 5 [] ys a1 (by omega) hl
  simp only [List.nil_append] at h1
  subst h1
  have hN : (hdN bs 1 false).toNat = unle ((bs.drop 1).take 4) 4 := by
    unfold hdN
    rw [s4]
    simp only
    rw [take_len bs 1 4 (by omega)]
    have := unle_lt ((bs.drop 1).take 4) 4
    omega
  have hK : UInt8.ofNat (hdKind bs).toNat = bs[0]'(by omega) := by
    unfold hdKind
    rw [s1]
    simp only
    rw [take_len bs 0 1 (by omega), List.drop_zero]
    apply UInt8.toNat_inj.1
    rcases bs with _ | ⟨b0, r⟩
    · simp at h5
    · have : b0.toNat < 256 := UInt8.toNat_lt _
      simp [unle]
      omega
  refine ⟨hkk, ?_, h6, by omega, h7, fun e => ?_⟩
  · unfold dBytes
    rw [h2, h3, hN, hK, le_unle _ 4 (by simp; omega), List.take_take, Nat.min_self]
    have := drop_take_app bs 1 5 a1 (by omega) (by omega) h6
    rw [List.append_assoc]
    rw [show (5 : Nat) - 1 = 4 from rfl] at this
    rw [← this]
    have h0 := drop_take_cons bs 0 a1 (by omega) (by omega)
    simp only [List.drop_zero, Nat.sub_zero, Nat.zero_add] at h0
    rw [h0]
    rfl
  · unfold readD
    have k1 : hdKind (bs ++ e) = hdKind bs := by unfold hdKind; rw [m1 e]
    have k2 : hdN (bs ++ e) 1 false = hdN bs 1 false := by unfold hdN; rw [m4 e]
    rw [if_neg (by simp; omega), k1, k2, if_neg hk, if_neg hn, h8 e]
    rfl
end Go.Proofs.YtmcaednlilhnoaaGreatDoor
