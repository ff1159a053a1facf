/- Parts of the proof. -/
import Derived.BigRegion
import Derived.Test.YtpkocnpamcchcaaGreatDoorJ12
set_option maxRecDepth 100000
set_option maxHeartbeats 4000000
set_option linter.unusedSimpArgs false
set_option linter.unusedVariables false
namespace Go.Sym
section
variable {α:Type}
def swp(d:List α)(i j:Nat):List α:=match d[i]?,d[j]? with
 | some x,some y=>(d.set i y).set j x
 | _,_=>d
def swr(d:List α)(a b:Nat):Nat→List α
 | 0=>d
 | n+1=>swp (swr d a b n) (a+n) (b+n)
theorem swp_len(d:List α)(i j:Nat):(swp d i j).length=d.length:=by
 unfold swp
 split<;>simp
theorem swr_len(d:List α)(a b:Nat):∀ n,(swr d a b n).length=d.length
 | 0=>rfl
 | n+1=>by rw [swr,swp_len,swr_len d a b n]
theorem swp_parts(A B C:List α)(x y:α):swp (A++x :: (B++y :: C)) A.length (A.length+1+B.length)=A++y :: (B++x :: C):=by
 have h1:(A++x :: (B++y :: C))[A.length]? =some x:=by simp
 have h2:(A++x :: (B++y :: C))[A.length+1+B.length]? =some y:=by
  rw [List.getElem?_append_right (by omega),show A.length+1+B.length-A.length=B.length+1 by omega,List.getElem?_cons_succ];simp
 unfold swp;rw [h1,h2];simp only;rw [List.set_append_right _ _ (Nat.le_refl _),Nat.sub_self,List.set_cons_zero,List.set_append_right _ _ (by omega),show A.length+1+B.length-A.length=B.length+1 by omega,List.set_cons_succ,List.set_append_right _ _ (Nat.le_refl _),Nat.sub_self,List.set_cons_zero]
theorem swr_parts:∀ (n:Nat) (P X M Y Q:List α),X.length=n→Y.length=n→swr (P++(X++(M++(Y++Q)))) P.length (P.length+n+M.length) n=P++(Y++(M++(X++Q)))
 | 0,P,X,M,Y,Q,hx,hy=>by
   rw [List.eq_nil_of_length_eq_zero hx,List.eq_nil_of_length_eq_zero hy];rfl
 | n+1,P,X,M,Y,Q,hx,hy=>by
   obtain ⟨X',x,rfl⟩:∃ X' x,X=X'++[x]:=⟨X.dropLast,X.getLast (by intro e;rw [e] at hx;cases hx),(List.dropLast_concat_getLast _).symm⟩;obtain ⟨Y',y,rfl⟩:∃ Y' y,Y=Y'++[y]:=⟨Y.dropLast,Y.getLast (by intro e;rw [e] at hy;cases hy),(List.dropLast_concat_getLast _).symm⟩;have hx':X'.length=n:=by simpa using hx
   have hy':Y'.length=n:=by simpa using hy
   have ih:=swr_parts n P X' (x :: M) Y' (y :: Q) hx' hy';have e1:P++(X'++[x]++(M++(Y'++[y]++Q)))=P++(X'++(x :: M++(Y'++y :: Q))):=by simp
   have e2:P.length+(n+1)+M.length=P.length+n+(x :: M).length:=by simp;omega
   rw [swr,e1,e2,ih];have e3:P++(Y'++(x :: M++(X'++y :: Q)))=(P++Y')++x :: ((M++X')++y :: Q):=by simp
   have e4:P.length+n=(P++Y').length:=by simp [hy']
   have e5:P.length+n+(x :: M).length+n=(P++Y').length+1+(M++X').length:=by simp [hx',hy'];omega
   rw [e3,e5,e4,swp_parts];simp
def rotL(d:List α)(a m b:Nat):List α:=d.take a++(seg d m b++(seg d a m++d.drop b))
theorem parts(d:List α)(a m b:Nat)(h1:a≤m)(h2:m≤b):d=d.take a++(seg d a m++(seg d m b++d.drop b)):=by
 rw [← List.append_assoc (seg d a m),seg_app d a m b h1 h2];unfold seg;have e:d.drop b=(d.drop a).drop (b-a):=by rw [List.drop_drop];congr 1;omega
 rw [e,List.take_append_drop,List.take_append_drop]
theorem rotL_len(d:List α)(a m b:Nat)(h1:a≤m)(h2:m≤b)(h3:b≤d.length):(rotL d a m b).length=d.length:=by
 have:=congrArg List.length (parts d a m b h1 h2);simp only [rotL,List.length_append] at this ⊢;omega
theorem rotL_left(d:List α)(m b:Nat)(h2:m≤b):rotL d m m b=d:=by
 unfold rotL;rw [seg_nil,List.nil_append];have:=parts d m m b (Nat.le_refl _) h2;rw [seg_nil,List.nil_append] at this;exact this.symm
theorem rotL_right(d:List α)(a m:Nat)(h1:a≤m):rotL d a m m=d:=by
 unfold rotL;rw [seg_nil,List.nil_append];have:=parts d a m m h1 (Nat.le_refl _);rw [seg_nil,List.nil_append] at this;exact this.symm
theorem seg_mid{P X Q:List α}{i j:Nat}(hi:P.length=i)(hj:i+X.length=j):seg (P++(X++Q)) i j=X:=by
 subst hi;unfold seg;rw [List.drop_left,show j-P.length=X.length by omega,List.take_left]
theorem rot_segs(d:List α)(a m b s mid:Nat)(h1:a≤s)(h2:s≤m)(h3:m≤mid+m-s)(h4:mid+m-s≤b)(h5:b≤d.length) :
 (rotL d s m (mid+m-s)).take a=d.take a∧(rotL d s m (mid+m-s)).drop b=d.drop b∧seg (rotL d s m (mid+m-s)) a s=seg d a s∧seg (rotL d s m (mid+m-s)) s mid=seg d m (mid+m-s)∧seg (rotL d s m (mid+m-s)) mid (mid+m-s)=seg d s m∧seg (rotL d s m (mid+m-s)) (mid+m-s) b=seg d (mid+m-s) b:=by
 obtain ⟨e,he⟩:∃ e,e=mid+m-s:=⟨_,rfl⟩;rw [← he] at h3 h4 ⊢;have l1:=seg_len d a s h1 (by omega);have l2:=seg_len d s m h2 (by omega);have l3:=seg_len d m e h3 (by omega);have l4:=seg_len d e b h4 h5;have la:(d.take a).length=a:=by simp;omega
 have hp:d.take s=d.take a++seg d a s:=by
  unfold seg;rw [← List.take_add]
  congr 1
  omega
 have hq:d.drop e=seg d e b++d.drop b:=by
  unfold seg;have:d.drop b=(d.drop e).drop (b-e):=by rw [List.drop_drop];congr 1;omega
  rw [this,List.take_append_drop]
 have hr:rotL d s m e=d.take a++(seg d a s++(seg d m e++(seg d s m++(seg d e b++d.drop b)))):=by
  unfold rotL;rw [hp,hq];simp
 rw [hr];refine ⟨?_,?_,?_,?_,?_,?_⟩
 ·rw [List.take_append_of_le_length (by omega),List.take_of_length_le (by omega)]
 ·have e1:d.take a++(seg d a s++(seg d m e++(seg d s m++(seg d e b++d.drop b))))=(d.take a++(seg d a s++(seg d m e++(seg d s m++seg d e b))))++d.drop b:=by simp
  rw [e1];have e2:(d.take a++(seg d a s++(seg d m e++(seg d s m++seg d e b)))).length=b:=by simp only [List.length_append];omega
  exact List.drop_left' e2
 ·exact seg_mid la (by omega)
 ·rw [← List.append_assoc (d.take a)];exact seg_mid (by simp only [List.length_append];omega) (by omega)
 ·rw [← List.append_assoc (d.take a),← List.append_assoc (d.take a++seg d a s)];exact seg_mid (by simp only [List.length_append];omega) (by omega)
 ·rw [← List.append_assoc (d.take a),← List.append_assoc (d.take a++seg d a s),← List.append_assoc (d.take a++seg d a s++seg d m e)];exact seg_mid (by simp only [List.length_append];omega) (by omega)
end
section
variable {α:Type} {lt:α→α→Bool}
structure Mrg(lt:α→α→Bool)(d:List α)(a b:Nat)(d':List α):Prop where
 len:d'.length=d.length
 front:d'.take a=d.take a
 back:d'.drop b=d.drop b
 stb:Stb lt (seg d a b) (seg d' a b)
theorem Mrg.refl{d:List α}{a b:Nat}(h:Srt lt (seg d a b)):Mrg lt d a b d:=⟨rfl,rfl,rfl,h,Cls.refl _⟩
theorem seg_of_back{d d':List α}{m b:Nat}(h:d'.drop m=d.drop m):seg d' m b=seg d m b:=by
 unfold seg;rw [h]
theorem seg_of_front{d d':List α}{a m:Nat}(h:d'.take m=d.take m):seg d' a m=seg d a m:=by
 unfold seg;have e:∀ l:List α,(l.drop a).take (m-a)=(l.take m).drop a:=fun l=>by rw [List.drop_take]
 rw [e,e,h]
theorem take_of_take{d d':List α}{a m:Nat}(ham:a≤m)(h:d'.take m=d.take m):d'.take a=d.take a:=by
 have:=congrArg (List.take a) h
 rwa [List.take_take,List.take_take,Nat.min_eq_left ham] at this
theorem drop_of_drop{d d':List α}{m b:Nat}(hmb:m≤b)(h:d'.drop m=d.drop m):d'.drop b=d.drop b:=by
 have:=congrArg (List.drop (b-m)) h
 rwa [List.drop_drop,List.drop_drop,show m+(b-m)=b by omega] at this
theorem sym_done(ho:Ord lt){d d2 d3:List α}{a m b s:Nat}(ham:a<m)(hmb:m<b)(hb:b≤d.length)(hL:Srt lt (seg d a m))(hR:Srt lt (seg d m b))(hc:CutAt lt d a m b s)
 (h2:Mrg lt (rotL d s m ((a+b)/2+m-s)) a ((a+b)/2) d2) (h3:Mrg lt d2 ((a+b)/2) b d3):Mrg lt d a b d3:=by
 obtain ⟨e1,e2,e3,e4,p1,p2⟩:=cut_parts ho ham hmb hb hL hR hc;obtain ⟨r1,r2,r3,r4,r5,r6⟩:=rot_segs d a m b s ((a+b)/2) e1 e2 e3 e4 hb;have hms:s≤(a+b)/2:=by omega
 have hme:(a+b)/2≤(a+b)/2+m-s:=by omega
 refine ⟨?_,?_,?_,?_⟩
 ·rw [h3.len,h2.len,rotL_len d s m _ e2 e3 (by omega)]
 ·rw [take_of_take (by omega) h3.front,h2.front,r1]
 ·rw [h3.back,drop_of_drop (by omega) h2.back,r2]
 ·have q1:=h2.stb;rw [← seg_app _ a s ((a+b)/2) e1 hms,r3,r4] at q1;have q2:=h3.stb;rw [seg_of_back h2.back,← seg_app _ ((a+b)/2) ((a+b)/2+m-s) b hme e4,r5,r6] at q2;have q3:seg d3 a ((a+b)/2)=seg d2 a ((a+b)/2):=seg_of_front h3.front;rw [← seg_app d3 a ((a+b)/2) b (by omega) (by omega),q3,← seg_app d a m b (by omega) (by omega),← seg_app d a s m e1 e2,← seg_app d m _ b e3 e4];exact stb_halves ho (by rw [seg_app d a s m e1 e2];exact hL) (by rw [seg_app d m _ b e3 e4];exact hR) p1 p2 q1 q2
theorem half_left(ho:Ord lt){d:List α}{a m b s:Nat}(ham:a<m)(hmb:m<b)(hb:b≤d.length)(hL:Srt lt (seg d a m))(hR:Srt lt (seg d m b))(hc:CutAt lt d a m b s)(h:¬ (a<s∧s<(a+b)/2)) :
 Mrg lt (rotL d s m ((a+b)/2+m-s)) a ((a+b)/2) (rotL d s m ((a+b)/2+m-s)):=by
 obtain ⟨e1,e2,e3,e4,p1,p2⟩:=cut_parts ho ham hmb hb hL hR hc;obtain ⟨r1,r2,r3,r4,r5,r6⟩:=rot_segs d a m b s ((a+b)/2) e1 e2 e3 e4 hb;refine Mrg.refl ?_;rw [← seg_app _ a s ((a+b)/2) e1 (by omega),r3,r4];have hx:a=s∨s=(a+b)/2:=by omega
 rcases hx with hx|hx
 ·rw [← hx,seg_nil,List.nil_append];rw [← seg_app d m ((a+b)/2+m-a) b (by omega) (by omega)] at hR;exact (srt_app.1 hR).1
 ·rw [show (a+b)/2+m-s=m by omega,seg_nil,List.append_nil];rw [← seg_app d a s m e1 e2] at hL;exact (srt_app.1 hL).1
theorem half_right(ho:Ord lt){d d2:List α}{a m b s:Nat}(ham:a<m)(hmb:m<b)(hb:b≤d.length)(hL:Srt lt (seg d a m))(hR:Srt lt (seg d m b))(hc:CutAt lt d a m b s)
 (h2:Mrg lt (rotL d s m ((a+b)/2+m-s)) a ((a+b)/2) d2) (h:¬ ((a+b)/2<(a+b)/2+m-s∧(a+b)/2+m-s<b)):Mrg lt d2 ((a+b)/2) b d2:=by
 obtain ⟨e1,e2,e3,e4,p1,p2⟩:=cut_parts ho ham hmb hb hL hR hc;obtain ⟨r1,r2,r3,r4,r5,r6⟩:=rot_segs d a m b s ((a+b)/2) e1 e2 e3 e4 hb;refine Mrg.refl ?_;rw [seg_of_back h2.back,← seg_app _ ((a+b)/2) ((a+b)/2+m-s) b (by omega) e4,r5,r6];have hx:m=s∨(a+b)/2+m-s=b:=by omega
 rcases hx with hx|hx
 ·rw [← hx,seg_nil,List.nil_append];rw [← seg_app d m ((a+b)/2+m-m) b (by omega) (by omega)] at hR;exact (srt_app.1 hR).2.1
 ·rw [hx,seg_nil,List.append_nil];rw [← seg_app d a s m e1 e2] at hL;exact (srt_app.1 hL).2.1
theorem half_runs(ho:Ord lt){d:List α}{a m b s:Nat}(ham:a<m)(hmb:m<b)(hb:b≤d.length)(hL:Srt lt (seg d a m))(hR:Srt lt (seg d m b))(hc:CutAt lt d a m b s) :
 Srt lt (seg (rotL d s m ((a+b)/2+m-s)) a s)∧Srt lt (seg (rotL d s m ((a+b)/2+m-s)) s ((a+b)/2))∧Srt lt (seg (rotL d s m ((a+b)/2+m-s)) ((a+b)/2) ((a+b)/2+m-s))∧Srt lt (seg (rotL d s m ((a+b)/2+m-s)) ((a+b)/2+m-s) b):=by
 obtain ⟨e1,e2,e3,e4,p1,p2⟩:=cut_parts ho ham hmb hb hL hR hc;obtain ⟨r1,r2,r3,r4,r5,r6⟩:=rot_segs d a m b s ((a+b)/2) e1 e2 e3 e4 hb;rw [r3,r4,r5,r6];rw [← seg_app d a s m e1 e2] at hL;rw [← seg_app d m ((a+b)/2+m-s) b e3 e4] at hR;exact ⟨(srt_app.1 hL).1,(srt_app.1 hR).1,(srt_app.1 hL).2.1,(srt_app.1 hR).2.1⟩
theorem ins_right(ho:Ord lt){d:List α}{a b i:Nat}(hi:a+1≤i)(hib:i≤b)(hb:b≤d.length)(hR:Srt lt (seg d (a+1) b))(ha:a<d.length)
 (h1:i=a+1∨∃ h:i-1<d.length,lt d[i-1] d[a]=true) (h2:i=b∨∃ h:i<d.length,lt d[i] d[a]=false):Mrg lt d a b (rotL d a (a+1) i):=by
 have hx:seg d a (a+1)=[d[a]]:=by
  unfold seg;rw [show a+1-a=1 by omega,List.drop_eq_getElem_cons ha];rfl
 have hY:∀ y∈seg d (a+1) i,lt y d[a]=true:=fun y hy=>by
  obtain ⟨j,j1,j2,j3,rfl⟩:=seg_mem (by omega) hy
  rcases h1 with h1 | ⟨h,h1⟩
  ·omega
  ·rcases Nat.eq_or_lt_of_le (show j≤i-1 by omega) with e|e
   ·subst e;exact h1
   ·exact ho.le_lt (srt_seg hb hR j (i-1) j1 e (by omega)) h1
 have hZ:∀ z∈seg d i b,lt z d[a]=false:=fun z hz=>by
  obtain ⟨j,j1,j2,j3,rfl⟩:=seg_mem hb hz
  rcases h2 with h2 | ⟨h,h2⟩
  ·omega
  ·rcases Nat.eq_or_lt_of_le j1 with e|e
   ·subst e;exact h2
   ·exact ho.trans _ _ _ h2 (srt_seg hb hR i j hi e j2)
 have hs:=hR;rw [← seg_app d (a+1) i b hi hib] at hs;obtain ⟨s1,s2,s3⟩:=srt_app.1 hs;have hq:d.drop i=seg d i b++d.drop b:=by
  unfold seg;have:d.drop b=(d.drop i).drop (b-i):=by rw [List.drop_drop];congr 1;omega
  rw [this,List.take_append_drop]
 have la:(d.take a).length=a:=by simp;omega
 have l1:=seg_len d (a+1) i hi (by omega);have l2:=seg_len d i b hib hb;have hr:rotL d a (a+1) i=d.take a++((seg d (a+1) i++([d[a]]++seg d i b))++d.drop b):=by
  unfold rotL;rw [hx,hq];simp
 have hsg:seg (rotL d a (a+1) i) a b=seg d (a+1) i++([d[a]]++seg d i b):=by
  rw [hr];exact seg_mid la (by simp only [List.length_append,List.length_singleton];omega)
 refine ⟨rotL_len d a (a+1) i (by omega) hi (by omega),?_,?_,?_⟩
 ·rw [hr,List.take_append_of_le_length (by omega),List.take_of_length_le (by omega)]
 ·rw [hr,← List.append_assoc];exact List.drop_left' (by simp only [List.length_append,List.length_singleton];omega)
 ·rw [hsg,← seg_app d a (a+1) b (by omega) (by omega),hx,← seg_app d (a+1) i b hi hib];have:=stb_halves ho (L1:=[]) (L2:=[d[a]]) (R1:=seg d (a+1) i) (R2:=seg d i b) (P:=seg d (a+1) i) (Q:=[d[a]]++seg d i b) (by simp [Srt]) hs
   (fun x hx y hy=>by rw [List.mem_singleton] at hx;subst hx;exact hY y hy) (fun x hx=>by cases hx) ⟨s1,Cls.refl _⟩
   ⟨srt_app.2 ⟨by simp [Srt],s2,fun x hx z hz=>by rw [List.mem_singleton] at hx;subst hx;exact hZ z hz⟩,Cls.refl _⟩
  simpa using this
theorem ins_left(ho:Ord lt){d:List α}{a m i:Nat}(hi:a≤i)(him:i≤m)(hm:m<d.length)(hL:Srt lt (seg d a m))
 (h1:i=a∨∃ h:i-1<d.length,lt d[m] d[i-1]=false) (h2:i=m∨∃ h:i<d.length,lt d[m] d[i]=true):Mrg lt d a (m+1) (rotL d i m (m+1)):=by
 have hx:seg d m (m+1)=[d[m]]:=by
  unfold seg;rw [show m+1-m=1 by omega,List.drop_eq_getElem_cons hm];rfl
 have hA:∀ y∈seg d a i,lt d[m] y=false:=fun y hy=>by
  obtain ⟨j,j1,j2,j3,rfl⟩:=seg_mem (by omega) hy
  rcases h1 with h1 | ⟨h,h1⟩
  ·omega
  ·rcases Nat.eq_or_lt_of_le (show j≤i-1 by omega) with e|e
   ·subst e;exact h1
   ·exact ho.trans _ _ _ (srt_seg (by omega) hL j (i-1) j1 e (by omega)) h1
 have hB:∀ z∈seg d i m,lt d[m] z=true:=fun z hz=>by
  obtain ⟨j,j1,j2,j3,rfl⟩:=seg_mem (by omega) hz
  rcases h2 with h2 | ⟨h,h2⟩
  ·omega
  ·rcases Nat.eq_or_lt_of_le j1 with e|e
   ·subst e;exact h2
   ·exact ho.lt_le h2 (srt_seg (by omega) hL i j hi e j2)
 have hs:=hL;rw [← seg_app d a i m hi him] at hs;obtain ⟨s1,s2,s3⟩:=srt_app.1 hs;have hp:d.take i=d.take a++seg d a i:=by
  unfold seg;rw [← List.take_add]
  congr 1
  omega
 have la:(d.take a).length=a:=by simp;omega
 have l1:=seg_len d a i hi (by omega);have l2:=seg_len d i m him (by omega);have hr:rotL d i m (m+1)=d.take a++(((seg d a i++[d[m]])++seg d i m)++d.drop (m+1)):=by
  unfold rotL;rw [hx,hp];simp
 have hsg:seg (rotL d i m (m+1)) a (m+1)=(seg d a i++[d[m]])++seg d i m:=by
  rw [hr];exact seg_mid la (by simp only [List.length_append,List.length_singleton];omega)
 refine ⟨rotL_len d i m (m+1) him (by omega) (by omega),?_,?_,?_⟩
 ·rw [hr,List.take_append_of_le_length (by omega),List.take_of_length_le (by omega)]
 ·rw [hr,← List.append_assoc];exact List.drop_left' (by simp only [List.length_append,List.length_singleton];omega)
 ·rw [hsg,← seg_app d a m (m+1) (by omega) (by omega),hx,← seg_app d a i m hi him];have:=stb_halves ho (L1:=seg d a i) (L2:=seg d i m) (R1:=[d[m]]) (R2:=[]) (P:=seg d a i++[d[m]]) (Q:=seg d i m) hs (by simp [Srt])
   (fun x hx y hy=>by rw [List.mem_singleton] at hy;subst hy;exact hB x hx) (fun x hx y hy=>by cases hy)
   ⟨srt_app.2 ⟨s1,by simp [Srt],fun x hx z hz=>by rw [List.mem_singleton] at hz;subst hz;exact hA x hx⟩,Cls.refl _⟩ ⟨s2,by rw [List.append_nil];exact Cls.refl _⟩
  simpa using this
end
section
variable {α:Type} {lt:α→α→Bool}
theorem swp_at{xs:List α}{i j:Nat}(hi:i<xs.length)(hj:j<xs.length):swp xs i j=(xs.set i xs[j]).set j xs[i]:=by
 unfold swp;rw [List.getElem?_eq_getElem hi,List.getElem?_eq_getElem hj]
theorem swp_comm(A B:List α)(x y:α):swp (A++x :: y :: B) (A.length+1) A.length=A++y :: x :: B:=by
 have h1:A.length<(A++x :: y :: B).length:=by simp
 have h2:A.length+1<(A++x :: y :: B).length:=by simp
 rw [swp_at h2 h1];have e1:(A++x :: y :: B)[A.length]=x:=by simp
 have e2:(A++x :: y :: B)[A.length+1]=y:=by simp
 rw [e1,e2,List.set_append_right _ _ (by omega),show A.length+1-A.length=1 by omega,List.set_append_right _ _ (by omega),Nat.sub_self];rfl
theorem swp_next(A B:List α)(x y:α):swp (A++x :: y :: B) A.length (A.length+1)=A++y :: x :: B:=by
 have:=swp_parts A [] B x y
 simpa using this
theorem seg_one(d:List α)(i:Nat)(hi:i<d.length):seg d i (i+1)=[d[i]]:=by
 unfold seg;rw [show i+1-i=1 by omega,List.drop_eq_getElem_cons hi];rfl
theorem seg_push(d:List α)(i j:Nat)(h:i≤j)(hj:j<d.length):seg d i (j+1)=seg d i j++[d[j]]:=by
 rw [← seg_app d i j (j+1) h (by omega),seg_one d j hj]
theorem seg_pull(d:List α)(i j:Nat)(h:i<j)(hi:i<d.length):seg d i j=d[i] :: seg d (i+1) j:=by
 rw [← seg_app d i (i+1) j (by omega) h,seg_one d i hi];rfl
theorem take_push(d:List α)(i:Nat)(hi:i<d.length):d.take (i+1)=d.take i++[d[i]]:=List.take_succ_eq_append_getElem hi
theorem rot_down(d:List α)(j i:Nat)(h0:0<j)(hj:j≤i)(hi:i<d.length):swp (rotL d j i (i+1)) j (j-1)=rotL d (j-1) i (i+1):=by
 obtain ⟨p,rfl⟩:∃ p,j=p+1:=⟨j-1,by omega⟩;rw [show p+1-1=p by omega];unfold rotL;rw [seg_one d i hi,take_push d p (by omega),seg_pull d p i (by omega) (by omega)];have:=swp_comm (d.take p) (seg d (p+1) i++d.drop (i+1)) d[p] d[i];rw [show (d.take p).length=p by simp;omega] at this
 simpa only [List.append_assoc,List.cons_append,List.nil_append] using this
theorem rot_down'(d:List α)(j q i:Nat)(hq:q+1=j)(hj:j≤i)(hi:i<d.length):swp (rotL d j i (i+1)) j q=rotL d q i (i+1):=by
 subst hq;exact rot_down d (q+1) i (by omega) hj hi
theorem rot_up(d:List α)(a k:Nat)(hk:a≤k)(hl:k+1<d.length):swp (rotL d a (a+1) (k+1)) k (k+1)=rotL d a (a+1) (k+2):=by
 unfold rotL;rw [seg_one d a (by omega),seg_push d (a+1) (k+1) (by omega) hl];have hq:d.drop (k+1)=d[k+1] :: d.drop (k+2):=List.drop_eq_getElem_cons hl;rw [hq];have:=swp_next (d.take a++seg d (a+1) (k+1)) (d.drop (k+2)) d[a] d[k+1];have hs:(d.take a++seg d (a+1) (k+1)).length=k:=by
  rw [List.length_append,seg_len d (a+1) (k+1) (by omega) (by omega),List.length_take];omega
 rw [hs] at this
 simpa using this
theorem rot_at(d:List α)(j i:Nat)(hj:j≤i)(hi:i<d.length):∃ h:j<(rotL d j i (i+1)).length,(rotL d j i (i+1))[j]=d[i]:=by
 have hl:=rotL_len d j i (i+1) hj (by omega) (by omega);refine ⟨by omega,?_⟩;have hq:(rotL d j i (i+1))[j]? =some d[i]:=by
  unfold rotL;rw [seg_one d i hi,List.getElem?_append_right (by simp;omega)];rw [show j-(d.take j).length=0 by simp;omega];rfl
 rw [List.getElem?_eq_getElem (by omega)] at hq;exact Option.some.inj hq
theorem rot_before(d:List α)(j i k:Nat)(hj:j≤i)(hi:i<d.length)(hk:k<j):∃ h:k<(rotL d j i (i+1)).length,(rotL d j i (i+1))[k]=d[k]:=by
 have hl:=rotL_len d j i (i+1) hj (by omega) (by omega);refine ⟨by omega,?_⟩;have hq:(rotL d j i (i+1))[k]? =some d[k]:=by
  unfold rotL;rw [List.getElem?_append_left (by simp;omega),List.getElem?_take,if_pos hk];exact List.getElem?_eq_getElem (by omega)
 rw [List.getElem?_eq_getElem (by omega)] at hq;exact Option.some.inj hq
theorem parts3(d:List α)(a b:Nat)(h:a≤b):d=d.take a++(seg d a b++d.drop b):=by
 have:=parts d a b b h (Nat.le_refl _);rw [seg_nil,List.nil_append] at this;exact this
theorem Mrg.cls{d d':List α}{a b:Nat}(h:Mrg lt d a b d')(hab:a≤b):Cls lt d d':=by
 have e1:=parts3 d a b hab;have e2:=parts3 d' a b hab;rw [h.front,h.back] at e2;rw [e1,e2];exact (Cls.refl _).app (h.stb.2.app (Cls.refl _))
theorem Mrg.more{d ys zs:List α}{a i:Nat}(h:Mrg lt d a i ys)(h2:Mrg lt ys a (i+1) zs)(ha:a≤i)(hi:i<d.length):Mrg lt d a (i+1) zs:=by
 refine ⟨h2.len.trans h.len,h2.front.trans h.front,?_,h2.stb.1,?_⟩
 ·rw [h2.back];exact drop_of_drop (by omega) h.back
 ·have hi2:i<ys.length:=by rw [h.len];exact hi
  refine Cls.trans ?_ h2.stb.2;rw [seg_push d a i ha hi,seg_push ys a i ha hi2];have e:ys[i]=d[i]:=by
   have:=congrArg (fun l=>l[0]?) h.back;simp only [List.getElem?_drop,Nat.add_zero] at this;rw [List.getElem?_eq_getElem hi2,List.getElem?_eq_getElem hi] at this;exact Option.some.inj this
  rw [e];exact h.stb.2.app (Cls.refl _)
def Blk(lt:α→α→Bool)(d:List α)(bs:Nat)(p:Nat→Prop):Prop:=∀ k,p k→Srt lt (seg d (k*bs) ((k+1)*bs))
theorem seg_over(d:List α)(i j:Nat)(hj:d.length≤j):seg d i j=seg d i d.length:=by
 unfold seg;rw [List.take_of_length_le (by simp;omega),List.take_of_length_le (by simp)]
theorem seg_past(d:List α)(i j:Nat)(hi:d.length≤i):seg d i j=[]:=by
 unfold seg;rw [List.drop_eq_nil_of_le hi,List.take_nil]
theorem srt_nil:Srt lt ([]:List α):=List.Pairwise.nil
theorem blk_step{d d':List α}{bs k b:Nat}(h:Blk lt d bs (· < k))(hm:Mrg lt d (k*bs) b d')(hb:b=(k+1)*bs):Blk lt d' bs (· < k+1):=fun i hi=>by
 subst hb
 rcases Nat.lt_or_ge i k with hlt|hge
 ·have hle:(i+1)*bs≤k*bs:=Nat.mul_le_mul_right _ hlt;rw [seg_of_front (take_of_take hle hm.front)];exact h i hlt
 ·have:i=k:=by omega
  subst this;exact hm.stb.1
theorem blk_last{d d':List α}{bs k n:Nat}(h:Blk lt d bs (· < k))(hm:Mrg lt d (k*bs) n d')(hn:d.length=n)(hlt:n<(k+1)*bs):Blk lt d' bs (fun _=>True):=fun i _=>by
 rcases Nat.lt_trichotomy i k with h1|h1|h1
 ·have hle:(i+1)*bs≤k*bs:=Nat.mul_le_mul_right _ h1;rw [seg_of_front (take_of_take hle hm.front)];exact h i h1
 ·subst h1;have hl:=hm.len;rw [seg_over d' _ _ (by omega),hl,hn];exact hm.stb.1
 ·have hl:=hm.len;have hle:(k+1)*bs≤i*bs:=Nat.mul_le_mul_right _ h1;rw [seg_past d' _ _ (by omega)];exact srt_nil
theorem two_step{d d':List α}{bs k b:Nat}(h:Blk lt d (2*bs) (· < k))(h2:Blk lt d bs (2*k≤·))(hm:Mrg lt d (k*(2*bs)) b d')(hb:b=(k+1)*(2*bs)):Blk lt d' (2*bs) (· < k+1)∧Blk lt d' bs (2*(k+1)≤·):=by
 refine ⟨blk_step h hm hb,fun i hi=>?_⟩;have hle:b≤i*bs:=by
  rw [hb,show (k+1)*(2*bs)=(2*(k+1))*bs by rw [← Nat.mul_assoc,Nat.mul_comm (k+1) 2]];exact Nat.mul_le_mul_right _ hi
 rw [seg_of_back (drop_of_drop hle hm.back)];exact h2 i (by omega)
theorem two_runs{d:List α}{bs k:Nat}(h2:Blk lt d bs (2*k≤·)):Srt lt (seg d (k*(2*bs)) (k*(2*bs)+bs))∧Srt lt (seg d (k*(2*bs)+bs) (k*(2*bs)+bs+bs)):=by
 have e:2*k*bs=k*(2*bs):=by rw [Nat.mul_comm 2 k,Nat.mul_assoc]
 have h0:=h2 (2*k) (Nat.le_refl _);have h1:=h2 (2*k+1) (by omega);rw [Nat.add_mul,Nat.one_mul,e] at h0;rw [Nat.add_mul (2*k+1),Nat.add_mul,Nat.one_mul,e] at h1;exact ⟨h0,h1⟩
theorem two_end{d:List α}{bs k:Nat}(h:Blk lt d (2*bs) (· < k))(h2:Blk lt d bs (2*k≤·))(hn:d.length≤k*(2*bs)+bs)(_:0<bs):Blk lt d (2*bs) (fun _=>True):=fun i _=>by
 rcases Nat.lt_trichotomy i k with h1|h1|h1
 ·exact h i h1
 ·subst h1;have h0:=(two_runs h2).1;rw [seg_over d _ _ hn] at h0;rw [seg_over d _ _ (by rw [Nat.add_mul];omega)];exact h0
 ·have hle:(k+1)*(2*bs)≤i*(2*bs):=Nat.mul_le_mul_right _ h1;rw [Nat.add_mul,Nat.one_mul] at hle;rw [seg_past d _ _ (by omega)];exact srt_nil
theorem blk_whole{d:List α}{bs:Nat}(h:Blk lt d bs (fun _=>True))(hb:d.length≤bs):Srt lt d:=by
 have h0:=h 0 trivial;rw [Nat.zero_mul,Nat.zero_add,Nat.one_mul,seg_over d _ _ hb] at h0;have e:seg d 0 d.length=d:=by simp [seg]
 rw [e] at h0;exact h0
theorem seg_srt_one(d:List α)(i:Nat)(hi:i<d.length):Srt lt (seg d i (i+1)):=by
 rw [seg_one d i hi];exact List.pairwise_singleton _ _
theorem seg_srt_nil(d:List α)(i:Nat):Srt lt (seg d i i):=by
 rw [seg_nil];exact srt_nil
theorem Mrg.mem(ho:Ord lt){d d':List α}{a b:Nat}(h:Mrg lt d a b d')(hab:a≤b){M:α→Prop}(hM:∀ x∈d,M x):∀ x∈d',M x:=fun x hx=>hM x ((h.cls hab).symm.mem ho x hx)
theorem rot_mem{d:List α}{a m b:Nat}(h1:a≤m)(h2:m≤b){M:α→Prop}(hM:∀ x∈d,M x):∀ x∈rotL d a m b,M x:=fun x hx=>by
 refine hM x ?_;rw [parts d a m b h1 h2];unfold rotL at hx;simp only [List.mem_append] at hx ⊢
 rcases hx with h|h|h|h
 ·exact .inl h
 ·exact .inr (.inr (.inl h))
 ·exact .inr (.inl h)
 ·exact .inr (.inr (.inr h))
theorem rot_self(d:List α)(i:Nat):rotL d i i (i+1)=d:=rotL_left d i (i+1) (by omega)
theorem rot_gt{P X Y Q:List α}{i j m:Nat}(hx:X.length=i)(hy:Y.length=j)(hm:P.length+i=m)(h:j<i) :
 ∃ P' X' Y':List α,X'.length=i-j∧Y'.length=j∧P'.length+(i-j)=m∧swr (P++(X++(Y++Q))) P.length m j=P'++(X'++(Y'++Q))∧P'++(Y'++(X'++Q))=P++(Y++(X++Q)):=by
 refine ⟨P++Y,X.drop j,X.take j,by simp;omega,by simp;omega,by simp;omega,?_,?_⟩
 ·have:=swr_parts j P (X.take j) (X.drop j) Y Q (by simp;omega) hy;rw [show P.length+j+(X.drop j).length=m by simp;omega] at this;rw [show X++(Y++Q)=X.take j++(X.drop j++(Y++Q)) by rw [← List.append_assoc (X.take j),List.take_append_drop],this];simp
 ·rw [← List.append_assoc (X.take j),List.take_append_drop,List.append_assoc]
theorem rot_lt{P X Y Q:List α}{i j m:Nat}(hx:X.length=i)(hy:Y.length=j)(hm:P.length+i=m)(h:i<j) :
 ∃ X' Y' Q':List α,X'.length=i∧Y'.length=j-i∧swr (P++(X++(Y++Q))) P.length (m+j-i) i=P++(X'++(Y'++Q'))∧P++(Y'++(X'++Q'))=P++(Y++(X++Q)):=by
 refine ⟨Y.drop (j-i),Y.take (j-i),X++Q,by simp;omega,by simp;omega,?_,?_⟩
 ·have:=swr_parts i P X (Y.take (j-i)) (Y.drop (j-i)) Q hx (by simp;omega);rw [show P.length+i+(Y.take (j-i)).length=m+j-i by simp;omega] at this;rw [show Y++Q=Y.take (j-i)++(Y.drop (j-i)++Q) by rw [← List.append_assoc,List.take_append_drop],this]
 ·rw [← List.append_assoc (Y.take (j-i)),List.take_append_drop]
theorem rot_eq{P X Y Q:List α}{i m:Nat}(hx:X.length=i)(hy:Y.length=i)(hm:P.length+i=m):swr (P++(X++(Y++Q))) P.length m i=P++(Y++(X++Q)):=by
 have:=swr_parts i P X [] Y Q hx hy;rw [show P.length+i+([]:List α).length=m by simp;omega] at this;exact this
end
end Go.Sym
namespace Go.Proofs.YtpkocnpamcchcaaGreatDoor
open Go.RowKit Go.Zone Go.Shelf
attribute [local go_sem] zone stepZ fill lookFs goes goesUpon dropFs cell_gro frozen_gro size_gro lt_add drew_gro tape_gro keep_refl
attribute [local go_sem] lt_add2 lt_add3 lt_add4 lt_add5 lt_add6 lt_add7 lt_add8 lt_add9 lt_add10 lt_add11 lt_add12
theorem Turn.set2(w:World)(g i j:Nat)(u v:Value):Turn w ((w.setCell ⟨g,i,none⟩ u).setCell ⟨g,j,none⟩ v) [g]:=(Turn.set w ⟨g,i,none⟩ u).trans (Turn.set _ ⟨g,j,none⟩ v)
theorem swapr_any(g c base a b n N:Nat)(xs:List Rw)(hN:xs.length=N)(cv:Value)(w:World)(h:OwnR w base (.slice (some ⟨g,0,none⟩) N c) xs)(hab:a+n≤b)(hb:b+n≤N)(hl:N≤1000000000) :
 Calls Tryz.prog 223 #[.slice (some ⟨g,0,none⟩) N c,.int .i64 a,.int .i64 b,.int .i64 n,cv] w fun e w'=>e=.returned (.tuple #[])∧OwnR w' base (.slice (some ⟨g,0,none⟩) N c) (Sym.swr xs a b n)∧Turn w w' [g]:=by
 have H:=lh h;clear h;go_enter Tryz.func223,Tryz.ntmps223;go_wp2;go_loopw [10] (fun i wr=>∃ k:Nat,k≤n∧i=.int .i64 k∧Hid (OwnR wr base (.slice (some ⟨g,0,none⟩) N c) (Sym.swr xs a b k))∧Hid (Turn w wr [g])) (fun i _=>n-(intOf i).toNat)
 case atStart=>exact ⟨0,Nat.zero_le _,rfl,H.out,Turn.refl _ _⟩
 case round =>
  clear H;obtain ⟨k,hk,rfl,HO,HT⟩:=hrel
  by_cases hlt:k<n
  ·have hlen:=(Sym.swr_len xs a b k).trans hN;obtain ⟨ys,hys⟩:∃ ys,Sym.swr xs a b k=ys:=⟨_,rfl⟩;have hsw:Sym.swr xs a b (k+1)=Sym.swp ys (a+k) (b+k):=by rw [Sym.swr,hys]
   rw [hys] at HO hlen;have hia:a+k<ys.length:=by omega
   have hib:b+k<ys.length:=by omega
   rw [Sym.swp_at hia hib] at hsw;obtain ⟨a0,a1,a2,a3⟩:=HO.out.cell1 rw_f hlen.symm (a+k) hia;obtain ⟨b0,b1,b2,b3⟩:=HO.out.cell1 rw_f hlen.symm (b+k) hib;have ho2:=HO.out.set1 rw_f hlen.symm (a+k) ys[b+k] rfl;have ho3:=ho2.set1 rw_f (by rw [List.length_set];exact hlen.symm) (b+k) ys[a+k] rfl;rw [← hsw] at ho3;have HO3:=lh ho3;have hne:a+k≠b+k:=by omega
   have e1:IntKind.i64.wrap ((a:Int)+(k:Int))=((a+k:Nat):Int):=by rw [IntWalk.i64_in _ ⟨by omega,by omega⟩];omega
   have e2:IntKind.i64.wrap ((b:Int)+(k:Int))=((b+k:Nat):Int):=by rw [IntWalk.i64_in _ ⟨by omega,by omega⟩];omega
   generalize ys[a+k]=x at a0 ho2 ho3 HO3;generalize ys[b+k]=y at b0 ho2 ho3 HO3;clear ho2 ho3 hsw hys;have HG:=lh (Turn.set2 wr g (a+k) (b+k) (.slice y.A y.vs.length y.c) (.slice x.A x.vs.length x.c));go_wp2;go_region;generalize hW:(wr.setCell ⟨g,a+k,none⟩ (.slice y.A y.vs.length y.c)).setCell ⟨g,b+k,none⟩ (.slice x.A x.vs.length x.c)=w3 at HO3 HG ⊢;clear hW;go_wp2;go_roundw
   case rel=>exact ⟨k+1,by omega,by go_num,HO3.out.keep (by repeat first|exact kp0|apply kp1|apply kp2|apply kp3|apply kp4),HT.out.trans (HG.out.trans (Turn.keep (by repeat first|exact kp0|apply kp1|apply kp2|apply kp3|apply kp4) _))⟩
   case measure=>simp [intOf];omega
  ·have hkn:k=n:=by omega
   subst hkn;go_wp2;go_end0;exact ⟨rfl,HO.out,HT.out⟩
theorem rot_any(g c base a m b N:Nat)(xs:List Rw)(hN:xs.length=N)(cv:Value)(w:World)(h:OwnR w base (.slice (some ⟨g,0,none⟩) N c) xs)(ham:a<m)(hmb:m<b)(hb:b≤N)(hl:N≤1000000000) :
 Calls Tryz.prog 187 #[.slice (some ⟨g,0,none⟩) N c,.int .i64 a,.int .i64 m,.int .i64 b,cv] w fun e w'=>e=.returned (.tuple #[])∧OwnR w' base (.slice (some ⟨g,0,none⟩) N c) (Sym.rotL xs a m b)∧Turn w w' [g]:=by
 have H:=lh h;have e1:IntKind.i64.wrap ((m:Int)-(a:Int))=((m-a:Nat):Int):=by rw [IntWalk.i64_in _ ⟨by omega,by omega⟩];omega
 have e2:IntKind.i64.wrap ((b:Int)-(m:Int))=((b-m:Nat):Int):=by rw [IntWalk.i64_in _ ⟨by omega,by omega⟩];omega
 have HP:=lh (Sym.parts xs a m b (by omega) (by omega));have hla:(xs.take a).length=a:=by simp;omega
 have hlx:(Sym.seg xs a m).length=m-a:=Sym.seg_len xs a m (by omega) (by omega);have hly:(Sym.seg xs m b).length=b-m:=Sym.seg_len xs m b (by omega) (by omega);have HLA:=lh (And.intro hla (And.intro hlx hly));clear h hla hlx hly;go_enter Tryz.func187,Tryz.ntmps187;go_wp2;go_loopw [10,11] (fun vi vj wr=>∃ (i j:Nat) (P X Y Q:List Rw),vi=.int .i64 i∧vj=.int .i64 j∧1≤i∧1≤j∧Hid (X.length=i)∧Hid (Y.length=j)∧Hid (P.length+i=m)∧Hid ((P++(X++(Y++Q))).length=N)∧Hid (P++(Y++(X++Q))=Sym.rotL xs a m b)∧Hid (OwnR wr base (.slice (some ⟨g,0,none⟩) N c) (P++(X++(Y++Q))))∧Hid (Turn w wr [g])) (fun vi vj _=>(intOf vi).toNat+(intOf vj).toNat)
 case atStart=>exact ⟨m-a,b-m,xs.take a,Sym.seg xs a m,Sym.seg xs m b,xs.drop b,rfl,rfl,by omega,by omega,HLA.out.2.1,HLA.out.2.2,by show _=_;rw [HLA.out.1];omega,by show _=_;rw [← HP.out];exact hN,rfl,by rw [← HP.out];exact H.out,Turn.refl _ _⟩
 case round =>
  clear H e1 e2;obtain ⟨i,j,P,X,Y,Q,rfl,rfl,hi1,hj1,HX,HY,HM,HLEN,HR,HO,HT⟩:=hrel;have hij:i+j≤N:=by
   have:=HLEN.out;simp only [List.length_append,HX.out,HY.out] at this;omega
  have hpm:P.length+i=m:=HM.out;have hlen2:P.length+i+j+Q.length=N:=by
   have:=HLEN.out;simp only [List.length_append,HX.out,HY.out] at this;omega
  have e1:IntKind.i64.wrap ((m:Int)-(i:Int))=((P.length:Nat):Int):=by rw [IntWalk.i64_in _ ⟨by omega,by omega⟩];omega
  rcases Nat.lt_trichotomy i j with hlt|heq|hgt
  ·have hne:¬ ((i:Int)=(j:Int)):=by omega
   have hng:¬ ((j:Int)<(i:Int)):=by omega
   obtain ⟨q,hq⟩:∃ q,q=m+j-i:=⟨_,rfl⟩;obtain ⟨r,hr⟩:∃ r,r=j-i:=⟨_,rfl⟩;have e2:IntKind.i64.wrap ((m:Int)+(j:Int))=(m:Int)+(j:Int):=by rw [IntWalk.i64_in _ ⟨by omega,by omega⟩]
   have e3:IntKind.i64.wrap ((m:Int)+(j:Int)-(i:Int))=(q:Int):=by rw [IntWalk.i64_in _ ⟨by omega,by omega⟩];omega
   have e4:IntKind.i64.wrap ((j:Int)-(i:Int))=(r:Int):=by rw [IntWalk.i64_in _ ⟨by omega,by omega⟩];omega
   obtain ⟨X',Y',Q',hX',hY',hS,hR⟩:=Sym.rot_lt (Q:=Q) HX.out HY.out HM.out hlt;have HC:=lh (swapr_any g c base P.length (m+j-i) i N _ HLEN.out cv wr HO.out (by omega) (by omega) hl);have hlen3:=(Sym.swr_len (P++(X++(Y++Q))) P.length (m+j-i) i).trans HLEN.out;rw [hS] at HC hlen3;rw [← hq] at HC;rw [← hr] at hY';have hr1:1≤r:=by omega
   have HRR:=lh hr;have HL3:=lh hlen3;have HX':=lh hX';have HY':=lh hY';have HR':=lh hR;clear hlen3 hX' hY' hR hS hq hr;go_wp2_with (go_at_call 223;refine hold ?_);refine unhold ?_;refine HC.out.mono ?_;rintro e w' ⟨rfl,hO,hT⟩;have HO':=lh hO;have HT':=lh (HT.out.trans hT);clear hO hT HC HO HT;go_wp2;go_roundw
   case rel=>exact ⟨i,r,P,X',Y',Q',rfl,rfl,hi1,hr1,HX'.out,HY'.out,HM.out,HL3.out,HR'.out.trans HR.out,HO'.out,HT'.out⟩
   case measure=>have:=HRR.out;simp [intOf];omega
  ·subst heq;have hS:=Sym.rot_eq (Q:=Q) HX.out HY.out HM.out;have HC:=lh (swapr_any g c base P.length m i N _ HLEN.out cv wr HO.out (by omega) (by omega) hl);rw [hS,HR.out] at HC;clear hS;go_wp2_with (go_at_call 223;refine hold ?_);refine unhold ?_;refine HC.out.mono ?_;rintro e w' ⟨rfl,hO,hT⟩;have HO':=lh hO;have HT':=lh (HT.out.trans hT);clear hO hT HC HO HT;go_wp2;go_end0;exact ⟨rfl,HO'.out,HT'.out⟩
  ·have hne:¬ ((i:Int)=(j:Int)):=by omega
   have e4:IntKind.i64.wrap ((i:Int)-(j:Int))=((i-j:Nat):Int):=by rw [IntWalk.i64_in _ ⟨by omega,by omega⟩];omega
   obtain ⟨P',X',Y',hX',hY',hP',hS,hR⟩:=Sym.rot_gt (Q:=Q) HX.out HY.out HM.out hgt;have HC:=lh (swapr_any g c base P.length m j N _ HLEN.out cv wr HO.out (by omega) (by omega) hl);have hlen3:=(Sym.swr_len (P++(X++(Y++Q))) P.length m j).trans HLEN.out;rw [hS] at HC hlen3;have HL3:=lh hlen3;have HX':=lh hX';have HY':=lh hY';have HP':=lh hP';have HR':=lh hR;clear hlen3 hX' hY' hP' hR hS;go_wp2_with (go_at_call 223;refine hold ?_);refine unhold ?_;refine HC.out.mono ?_;rintro e w' ⟨rfl,hO,hT⟩;have HO':=lh hO;have HT':=lh (HT.out.trans hT);clear hO hT HC HO HT;go_wp2;go_roundw
   case rel=>exact ⟨i-j,j,P',X',Y',Q,by go_num,rfl,by omega,hj1,HX'.out,HY'.out,HP'.out,HL3.out,HR'.out.trans HR.out,HO'.out,HT'.out⟩
   case measure=>simp [intOf];omega
end Go.Proofs.YtpkocnpamcchcaaGreatDoor
