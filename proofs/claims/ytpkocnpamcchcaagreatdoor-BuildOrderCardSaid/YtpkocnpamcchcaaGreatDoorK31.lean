/- Parts of the proof. -/
import Derived.Test.YtpkocnpamcchcaaGreatDoorK29
set_option maxRecDepth 100000
set_option maxHeartbeats 4000000
set_option linter.unusedSimpArgs false
set_option linter.unusedVariables false
set_option linter.unnecessarySimpa false
namespace Go.Sym
theorem sins_congr{α:Type}{lt lt2:α→α→Bool}(x:α):∀ (l:List α),(∀ y∈l,lt y x=lt2 y x)→sins lt x l=sins lt2 x l
 | [],_=>rfl
 | y :: r,h=>by
   unfold sins;rw [h y (by simp),sins_congr x r fun z hz=>h z (by simp [hz])]
theorem ssort_congr{α:Type}{lt lt2:α→α→Bool}:∀ (l:List α),(∀ a∈l,∀ b∈l,lt a b=lt2 a b)→ssort lt l=ssort lt2 l
 | [],_=>rfl
 | x :: r,h=>by
   unfold ssort;rw [← ssort_congr r fun a ha b hb=>h a (by simp [ha]) b (by simp [hb])];exact sins_congr x _ fun y hy=>h y (List.mem_cons_of_mem _ ((ssort_perm r).mem_iff.1 hy)) x (by simp)
end Go.Sym
namespace Go.Star
theorem loop_pre{g:Nat→Nat→List SR→Nat→List SR × List SN}{d tp n:Nat}(hg:∀ a e rs n,∃ x,(g a e rs n).1=rs++x):∀ (f at_:Nat) (kids:List (Int × Nat)) (rs:List SR) (ns:List SN),
 (∃ x,(loopF g d tp n f at_ kids rs ns).1=kids++x)∧(∃ y,(loopF g d tp n f at_ kids rs ns).2.1=rs++y)∧(∃ z,(loopF g d tp n f at_ kids rs ns).2.2=ns++z)
 | 0,_,_,_,_=>⟨⟨[],by simp [loopF]⟩,⟨[],by simp [loopF]⟩,⟨[],by simp [loopF]⟩⟩
 | f+1,at_,kids,rs,ns=>by
   unfold loopF
   split
   ·simp only [];generalize endF rs d (idAt rs at_ d) tp (tp-at_) at_=e;obtain ⟨x,hx⟩:=hg at_ e rs (n+1+ns.length);obtain ⟨⟨a,ha⟩,⟨b,hb⟩,⟨c,hc⟩⟩:=loop_pre hg f e (kids++[(idAt rs at_ d,n+1+ns.length)]) (g at_ e rs (n+1+ns.length)).1 (ns++(g at_ e rs (n+1+ns.length)).2);exact ⟨⟨_,by rw [ha,List.append_assoc]⟩,⟨x++b,by rw [hb,hx,List.append_assoc]⟩,⟨_,by rw [hc,List.append_assoc]⟩⟩
   ·exact ⟨⟨[],by simp⟩,⟨[],by simp⟩,⟨[],by simp⟩⟩
theorem grow_pre(leaf:Nat):∀ (f depth lo hi:Nat) (st:Bool) (rs:List SR) (n:Nat),∃ x,(growF leaf f depth lo hi st rs n).1=rs++x
 | 0,_,_,_,_,rs,_=>⟨[],by simp [growF]⟩
 | f+1,depth,lo,hi,st,rs,n=>by
   unfold growF
   split
   ·exact ⟨[],by simp⟩
   ·simp only [];obtain ⟨_,⟨y,hy⟩,_⟩:=loop_pre (g:=fun a e rs n=>growF leaf f (depth+1) a e st rs n) (d:=depth) (tp:=hi) (n:=n) (fun a e rs n=>grow_pre leaf f (depth+1) a e st rs n) (hi-lo) lo [] rs []
    split
    ·exact ⟨y,hy⟩
    ·generalize togF _=L;obtain ⟨z,hz⟩:=grow_pre leaf f (depth+1) (loopF (fun a e rs n=>growF leaf f (depth+1) a e st rs n) depth hi n (hi-lo) lo [] rs []).2.1.length ((loopF (fun a e rs n=>growF leaf f (depth+1) a e st rs n) depth hi n (hi-lo) lo [] rs []).2.1.length+L.length) true ((loopF (fun a e rs n=>growF leaf f (depth+1) a e st rs n) depth hi n (hi-lo) lo [] rs []).2.1++L) (n+1+(loopF (fun a e rs n=>growF leaf f (depth+1) a e st rs n) depth hi n (hi-lo) lo [] rs []).2.2.length);refine ⟨y++(L++z),?_⟩;simp only [hz];rw [hy];simp
theorem wN_ge:∀ ns:List SN,13*ns.length≤wN ns
 | []=>by simp [wN]
 | x :: r=>by
   have:=wN_ge r;rw [wN_cons];simp only [List.length_cons];omega
theorem grow_few(leaf k:Nat)(hl:1≤leaf)(hk:k≤8)(rs:List SR)(hr:rs.length≤1000):(growF leaf k 0 0 rs.length false rs 0).1.length≤1000000∧(growF leaf k 0 0 rs.length false rs 0).2.length≤1000000:=by
 have h:=grow_adds leaf 0 0 hl k 0 0 rs.length rs 0 (Nat.zero_le _) (Nat.le_refl _);obtain ⟨x,hx,hxl⟩:=h.pre;have hw:=h.wt;have hge:=wN_ge (growF leaf k 0 0 rs.length false rs 0).2;have h1:(rs.length-0)*k≤1000*8:=Nat.mul_le_mul (by omega) hk;have hs:=sumU_le k;have h2:(k+1)*(k+1)≤9*9:=Nat.mul_le_mul (by omega) (by omega);have h3:(rs.length-0)*sumU k≤1000*81:=Nat.mul_le_mul (by omega) (by omega);refine ⟨?_,by omega⟩;rw [hx,List.length_append];omega
def upd(ys xs:List (Int × Int × Int))(i:Nat):List (Int × Int × Int):=List.zipWith addS (ys.take i) (xs.take i)++ys.drop i
theorem upd_zero(ys xs:List (Int × Int × Int)):upd ys xs 0=ys:=by simp [upd]
theorem upd_len(ys xs:List (Int × Int × Int))(h:xs.length=ys.length)(i:Nat):(upd ys xs i).length=ys.length:=by
 simp [upd];omega
theorem upd_get(ys xs:List (Int × Int × Int))(h:xs.length=ys.length)(i:Nat)(hi:i<ys.length):(upd ys xs i)[i]? =some ys[i]:=by
 unfold upd;rw [List.getElem?_append_right (by simp;omega)];simp only [List.length_zipWith,List.length_take,List.getElem?_drop];rw [show i+(i-min (min i ys.length) (min i xs.length))=i by omega];exact List.getElem?_eq_getElem hi
theorem upd_succ(ys xs:List (Int × Int × Int))(h:xs.length=ys.length)(i:Nat)(hi:i<ys.length)(hx:i<xs.length):upd ys xs (i+1)=(upd ys xs i).set i (addS ys[i] xs[i]):=by
 unfold upd;rw [List.take_succ_eq_append_getElem hi,List.take_succ_eq_append_getElem hx,List.zipWith_append (by simp;omega)];rw [List.set_append_right _ _ (by simp;omega)];simp only [List.length_zipWith,List.length_take];rw [show i-min (min i ys.length) (min i xs.length)=0 by omega];simp only [List.append_assoc,List.zipWith_cons_cons,List.zipWith_nil_left];rw [List.drop_eq_getElem_cons hi,List.set_cons_zero];rfl
theorem upd_all(ys xs:List (Int × Int × Int))(h:xs.length=ys.length):upd ys xs xs.length=List.zipWith addS ys xs:=by
 unfold upd;rw [List.take_of_length_le (by omega),List.take_of_length_le (by omega),List.drop_of_length_le (by omega),List.append_nil]
theorem tog_take(S:List SR)(k:Nat)(h:k<S.length)(o:List SR):(S.take (k+1)).foldl togStep o=togStep ((S.take k).foldl togStep o) S[k]:=by
 rw [List.take_succ_eq_append_getElem h,List.foldl_append];rfl
theorem endF_step(rs:List SR)(d:Nat)(id:Int)(tt e:Nat)(h:e<tt)(hi:idAt rs e d=id):endF rs d id tt (tt-e) e=endF rs d id tt (tt-(e+1)) (e+1):=by
 rw [show tt-e=tt-(e+1)+1 by omega]
 conv=>lhs;unfold endF
 rw [if_pos ⟨h,hi⟩]
theorem endF_stop(rs:List SR)(d:Nat)(id:Int)(tt e:Nat)(h:e=tt∨idAt rs e d≠id):endF rs d id tt (tt-e) e=e:=by
 rcases Nat.eq_zero_or_pos (tt-e) with h0|h0
 ·rw [h0];rfl
 ·rw [show tt-e=tt-e-1+1 by omega];unfold endF
  rw [if_neg (by rintro ⟨h1,h2⟩;rcases h with h|h; · omega
                 ·exact h h2)]
end Go.Star
